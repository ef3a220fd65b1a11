/-
  DERIVED. GIVEN WITH THE SEED: THE CARDS: each row of YtckamjbdogpacaaGreatDoorRows.lean that lists a variable, with what it lists TIED to the program's text (the seventh form; the later family's looks); each row that meets fmt, with fmt's text TOLD by the authors' own Lean function (tested against real Go, not proved from fmt's source: count such statements apart). THE CARD IS WHAT COUNTS. Prove the row's statement (the work); the ties are given (YtckamjbdogpacaaGreatDoorTie.lean); close each card by the builder's one call (the guide's Derived/Test/ToyasCard.lean, 'card_holds'). Laid BY PROGRAM, IN A SANDBOX (cutbox-door.mjs). By AI agents, Wed Nov 11 2026. No macro, syntax, notation, axiom, sorry.
-/
import Derived.Test.YtckamjbdogpacaaGreatDoorRows
import GoSem.ClaimSeven
namespace Go.Proofs.YtckamjbdogpacaaGreatDoor
namespace Rows

/-- THE TIED CARD OF 'alumlaw11.ClassPicturesFollow'. -/
def classPicturesFollowCard : Claim7 := { stood := { row := classPicturesFollowRow, standIns := [], harness := (true, "9a226778caa85c128fff0134e6431de085891f044d52dbdab4119cfa1aa16e71"), looks := false }, kinds := [], alts := [], laidByText := true, laidKinds := [.data, .data, .data, .data], laidTests := true, laidLooks := .later }
def ClassPicturesFollowCardSaid : Prop := Claim7.holds Tryz.pinned (.plain (OpenSpec.ofChange classPicturesFollowSpec)) classPicturesFollowCard
end Rows
end Go.Proofs.YtckamjbdogpacaaGreatDoor
