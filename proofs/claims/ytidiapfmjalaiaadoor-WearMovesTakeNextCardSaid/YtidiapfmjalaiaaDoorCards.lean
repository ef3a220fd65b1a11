/-
  DERIVED. GIVEN WITH THE SEED: THE CARDS: each row of YtidiapfmjalaiaaDoorRows.lean that lists a variable, with what it lists TIED to the program's text (the seventh form; the later family's looks); each row that meets fmt, with fmt's text TOLD by the authors' own Lean function (tested against real Go, not proved from fmt's source: count such statements apart). THE CARD IS WHAT COUNTS. Prove the row's statement (the work); the ties are given (YtidiapfmjalaiaaDoorTie.lean); close each card by the builder's one call (the guide's Derived/Test/ToyasCard.lean, 'card_holds'). Laid BY PROGRAM, IN A SANDBOX (cutbox-door.mjs). By AI agents, Wed Nov 11 2026. No macro, syntax, notation, axiom, sorry.
-/
import Derived.Test.YtidiapfmjalaiaaDoorRows
import GoSem.ClaimSeven
namespace Go.Proofs.YtidiapfmjalaiaaDoor
namespace Rows

/-- THE TIED CARD OF 'alumlaw18.WearMovesTakeNext'. -/
def wearMovesTakeNextCard : Claim7 := { stood := { row := wearMovesTakeNextRow, standIns := [], harness := (true, "6683f3120c75e1c167262733bb60e6a172b3c24bb8d53da7825b48f7c4d8952e"), looks := false }, kinds := [], alts := [], laidByText := true, laidKinds := [.data], laidTests := true, laidLooks := .later }
def WearMovesTakeNextCardSaid : Prop := Claim7.holds Tryd.pinned (.plain (OpenSpec.ofChange wearMovesTakeNextSpec)) wearMovesTakeNextCard

/-- THE SECOND FORM's CARD OF 'alumlaw18.WearMovesTakeNext'. -/
def wearMovesTakeNextUptoCard : Claim7 := { stood := { row := wearMovesTakeNextUptoRow, standIns := [], harness := (true, "6683f3120c75e1c167262733bb60e6a172b3c24bb8d53da7825b48f7c4d8952e"), looks := false }, kinds := [], alts := [], laidByText := true, laidKinds := [.data], laidTests := true, laidLooks := .later }
def WearMovesTakeNextUptoCardSaid : Prop := Claim7.holds Tryd.pinned (.plain (OpenSpec.upto wearMovesTakeNextSpec)) wearMovesTakeNextUptoCard
end Rows
end Go.Proofs.YtidiapfmjalaiaaDoor
