/-
  No cell of these rows narrows 'for every input' (looked for: loops, veiled, ifaces, maps, wideKeys, modest, calm, conditions, laid).
  DERIVED. THE GIVEN ROWS OF THIS SEAT. 3 by the template 'for every input the law returns true; each argument reads behind the call as it read before'; 0 by the template 'total and deterministic' (their statements: YtidiapfmjalaiaaTotals.lean).
  GIVEN WITH THE SEED: the statements are not yours to turn. If you find one false, say at which input.
  Laid BY PROGRAM, IN A SANDBOX (cutbox-rows.mjs): the forced cells as the released guide's own fill.sh prints them over the translation 9f6ff17b7b932877… (all of the seat's roots in one cut). By AI agents, Wed Nov 11 2026. No macro, syntax, notation, axiom, sorry.
-/
import Derived.Test.YtidiapfmjalaiaaChecked
import GoSem.Claim
import GoSem.ClaimJoined
import GoSem.ClaimMapViews
import Derived.JoinedTies
import Derived.KernelRfl
namespace Go.Proofs.Ytidiapfmjalaiaa
/- THE CELL 'sum', in the pinned program and in every row, IS THE sha256 OF THE DUMP (.gsa) THAT YtidiapfmjalaiaaProg.lean LOADS. Nothing in Lean hashes anything: it is a label: what it is worth is what the hold of that sum in a sandbox is worth. -/
noncomputable def Try.pinned : Pinned := { name := "ytidiapfmjalaiaa", sum := "9f6ff17b7b932877873364184b22a42d2d2a32c9aaac939d86a7a013b6c9a177", checked := Try.checked }
namespace Rows
def none {H : Type} : Left H := { results := [], args := [] }

/-- 'alumlaw18.WearMatchesSpec': WHATEVER THE INPUT: true; the input reads as it did. -/
def wearMatchesSpecSpec : ChangeSpec := { name := "wearMatchesSpec", fn := fun _ => fun
  | [d1, d2, d3, d4, d5, d6, d7] => { results := [.lit (.bool true)], args := [d1, d2, d3, d4, d5, d6, d7] }
  | _ => none }
def wearMatchesSpecRow : OpenClaim := { program := "ytidiapfmjalaiaa", sum := "9f6ff17b7b932877873364184b22a42d2d2a32c9aaac939d86a7a013b6c9a177", func := "alum/alumlaw18.WearMatchesSpec", spec := "wearMatchesSpec", unfollowed := true, recurses := true, apart := false }
def WearMatchesSpecSaid : Prop := wearMatchesSpecRow.holds Try.pinned (OpenSpec.ofChange wearMatchesSpecSpec)

/-- ITS FALSE NEIGHBOUR: 'it returns false'. Refute it at one input. -/
def wearMatchesSpecWrong : ChangeSpec := { name := "wearMatchesSpec", fn := fun _ => fun
  | [d1, d2, d3, d4, d5, d6, d7] => { results := [.lit (.bool false)], args := [d1, d2, d3, d4, d5, d6, d7] }
  | _ => none }
def WearMatchesSpecWrongFalsely : Prop := wearMatchesSpecRow.holds Try.pinned (OpenSpec.ofChange wearMatchesSpecWrong)

/-- 'alumlaw18.WearKeepsBound': WHATEVER THE INPUT: true; the input reads as it did. -/
def wearKeepsBoundSpec : ChangeSpec := { name := "wearKeepsBound", fn := fun _ => fun
  | [d1, d2, d3, d4] => { results := [.lit (.bool true)], args := [d1, d2, d3, d4] }
  | _ => none }
def wearKeepsBoundRow : OpenClaim := { program := "ytidiapfmjalaiaa", sum := "9f6ff17b7b932877873364184b22a42d2d2a32c9aaac939d86a7a013b6c9a177", func := "alum/alumlaw18.WearKeepsBound", spec := "wearKeepsBound", unfollowed := true, recurses := true, apart := false }
def WearKeepsBoundSaid : Prop := wearKeepsBoundRow.holds Try.pinned (OpenSpec.ofChange wearKeepsBoundSpec)

/-- ITS FALSE NEIGHBOUR: 'it returns false'. Refute it at one input. -/
def wearKeepsBoundWrong : ChangeSpec := { name := "wearKeepsBound", fn := fun _ => fun
  | [d1, d2, d3, d4] => { results := [.lit (.bool false)], args := [d1, d2, d3, d4] }
  | _ => none }
def WearKeepsBoundWrongFalsely : Prop := wearKeepsBoundRow.holds Try.pinned (OpenSpec.ofChange wearKeepsBoundWrong)

/-- 'alumlaw18.WearEvenIsEven': WHATEVER THE INPUT: true; the input reads as it did. -/
def wearEvenIsEvenSpec : ChangeSpec := { name := "wearEvenIsEven", fn := fun _ => fun
  | [d1, d2, d3] => { results := [.lit (.bool true)], args := [d1, d2, d3] }
  | _ => none }
def wearEvenIsEvenRow : OpenClaim := { program := "ytidiapfmjalaiaa", sum := "9f6ff17b7b932877873364184b22a42d2d2a32c9aaac939d86a7a013b6c9a177", func := "alum/alumlaw18.WearEvenIsEven", spec := "wearEvenIsEven", unfollowed := true, recurses := true, apart := false }
def WearEvenIsEvenSaid : Prop := wearEvenIsEvenRow.holds Try.pinned (OpenSpec.ofChange wearEvenIsEvenSpec)

/-- ITS FALSE NEIGHBOUR: 'it returns false'. Refute it at one input. -/
def wearEvenIsEvenWrong : ChangeSpec := { name := "wearEvenIsEven", fn := fun _ => fun
  | [d1, d2, d3] => { results := [.lit (.bool false)], args := [d1, d2, d3] }
  | _ => none }
def WearEvenIsEvenWrongFalsely : Prop := wearEvenIsEvenRow.holds Try.pinned (OpenSpec.ofChange wearEvenIsEvenWrong)

/- THE SECOND FORM. 'bulk': how many values and letters a reading holds, each counted each time it is reached (what is shared counts as often as it is met; a slice's spare places count too). A statement '..UptoSaid' is the law's where the arguments, and the package variables that the reading takes, are together of bulk at most 1048576: NARROWER than '..Said'. Prove '..Said' where nothing that the law and all that it calls make is longer than what came in: it says more and counts as full. Else prove '..UptoSaid'. A law counts once. -/
mutual
def uptoBulk {H : Type} : DataW H → Nat
  | .lit (.string bytes) => bytes.length + 1
  | .lit _ => 1
  | .nil => 1
  | .ptr d => uptoBulk d + 1
  | .slice elems spare => uptoBulkAll elems + uptoBulkAll spare + 1
  | .agg parts => uptoBulkAll parts + 1
  | .iface _ d => uptoBulk d + 1
  | .map entries => uptoBulkEntries entries + 1
  | .held _ => 1
def uptoBulkAll {H : Type} : List (DataW H) → Nat
  | [] => 0
  | d :: r => uptoBulk d + uptoBulkAll r
def uptoBulkEntries {H : Type} : List (Lit × DataW H) → Nat
  | [] => 0
  | x :: r => uptoBulkEntry x + uptoBulkEntries r
def uptoBulkEntry {H : Type} : Lit × DataW H → Nat
  | (.string bytes, d) => bytes.length + uptoBulk d + 1
  | (_, d) => uptoBulk d + 1
 end
def uptoSmall : (H : Type) → List (DataW H) → Bool := fun _ ds => decide (uptoBulkAll ds ≤ 1048576)
def OpenSpec.upto (s : _root_.Go.ChangeSpec) : _root_.Go.OpenSpec := { _root_.Go.OpenSpec.ofChange s with cond := some uptoSmall }

/-- 'alumlaw18.WearMatchesSpec', WHERE WHAT IT READS IS OF BULK AT MOST 1048576: true; the input reads as it did. -/
def wearMatchesSpecUptoRow : OpenClaim := { program := "ytidiapfmjalaiaa", sum := "9f6ff17b7b932877873364184b22a42d2d2a32c9aaac939d86a7a013b6c9a177", func := "alum/alumlaw18.WearMatchesSpec", spec := "wearMatchesSpec", unfollowed := true, recurses := true, apart := false, narrowed := true }
def WearMatchesSpecUptoSaid : Prop := wearMatchesSpecUptoRow.holds Try.pinned (OpenSpec.upto wearMatchesSpecSpec)

/-- 'alumlaw18.WearKeepsBound', WHERE WHAT IT READS IS OF BULK AT MOST 1048576: true; the input reads as it did. -/
def wearKeepsBoundUptoRow : OpenClaim := { program := "ytidiapfmjalaiaa", sum := "9f6ff17b7b932877873364184b22a42d2d2a32c9aaac939d86a7a013b6c9a177", func := "alum/alumlaw18.WearKeepsBound", spec := "wearKeepsBound", unfollowed := true, recurses := true, apart := false, narrowed := true }
def WearKeepsBoundUptoSaid : Prop := wearKeepsBoundUptoRow.holds Try.pinned (OpenSpec.upto wearKeepsBoundSpec)

/-- 'alumlaw18.WearEvenIsEven', WHERE WHAT IT READS IS OF BULK AT MOST 1048576: true; the input reads as it did. -/
def wearEvenIsEvenUptoRow : OpenClaim := { program := "ytidiapfmjalaiaa", sum := "9f6ff17b7b932877873364184b22a42d2d2a32c9aaac939d86a7a013b6c9a177", func := "alum/alumlaw18.WearEvenIsEven", spec := "wearEvenIsEven", unfollowed := true, recurses := true, apart := false, narrowed := true }
def WearEvenIsEvenUptoSaid : Prop := wearEvenIsEvenUptoRow.holds Try.pinned (OpenSpec.upto wearEvenIsEvenSpec)

end Rows
end Go.Proofs.Ytidiapfmjalaiaa
