/-
  DERIVED. GIVEN WITH THE SEED: THE CARDS: each row of YtcoeoggoaiebeaaDoorRows.lean that lists a variable, with what it lists TIED to the program's text (the seventh form; the later family's looks); each row that meets fmt, with fmt's text TOLD by the authors' own Lean function (tested against real Go, not proved from fmt's source: count such statements apart). THE CARD IS WHAT COUNTS. Prove the row's statement (the work); the ties are given (YtcoeoggoaiebeaaDoorTie.lean); close each card by the builder's one call (the guide's Derived/Test/ToyasCard.lean, 'card_holds'). Laid BY PROGRAM, IN A SANDBOX (cutbox-door.mjs). By AI agents, Wed Nov 11 2026. No macro, syntax, notation, axiom, sorry.
-/
import Derived.Test.YtcoeoggoaiebeaaDoorRows
import GoSem.ClaimSeven
namespace Go.Proofs.YtcoeoggoaiebeaaDoor
namespace Rows

/-- THE TIED CARD OF 'alumlaw11.ClassFitMatchesSpec'. -/
def classFitMatchesSpecCard : Claim7 := { stood := { row := classFitMatchesSpecRow, standIns := [], harness := (true, "11d0690f375029bff02001c2a49f577bf1b317f88ac2841ca4235a8c7fe2cf3b"), looks := false }, kinds := [], alts := [], laidByText := true, laidKinds := [.data, .data, .data, .data], laidTests := true, laidLooks := .later }
def ClassFitMatchesSpecCardSaid : Prop := Claim7.holds Tryd.pinned (.plain (OpenSpec.ofChange classFitMatchesSpecSpec)) classFitMatchesSpecCard

/-- THE TIED CARD OF 'alumlaw11.ClassFitIsLeast'. -/
def classFitIsLeastCard : Claim7 := { stood := { row := classFitIsLeastRow, standIns := [], harness := (true, "11d0690f375029bff02001c2a49f577bf1b317f88ac2841ca4235a8c7fe2cf3b"), looks := false }, kinds := [], alts := [], laidByText := true, laidKinds := [.data, .data, .data, .data], laidTests := true, laidLooks := .later }
def ClassFitIsLeastCardSaid : Prop := Claim7.holds Tryd.pinned (.plain (OpenSpec.ofChange classFitIsLeastSpec)) classFitIsLeastCard

/-- THE TIED CARD OF 'alumlaw11.ClassStartsMatchSpec'. -/
def classStartsMatchSpecCard : Claim7 := { stood := { row := classStartsMatchSpecRow, standIns := [], harness := (true, "11d0690f375029bff02001c2a49f577bf1b317f88ac2841ca4235a8c7fe2cf3b"), looks := false }, kinds := [], alts := [], laidByText := true, laidKinds := [.data, .data, .data, .data], laidTests := true, laidLooks := .later }
def ClassStartsMatchSpecCardSaid : Prop := Claim7.holds Tryd.pinned (.plain (OpenSpec.ofChange classStartsMatchSpecSpec)) classStartsMatchSpecCard

/-- THE TIED CARD OF 'alumlaw11.ClassBlocksCover'. -/
def classBlocksCoverCard : Claim7 := { stood := { row := classBlocksCoverRow, standIns := [], harness := (true, "11d0690f375029bff02001c2a49f577bf1b317f88ac2841ca4235a8c7fe2cf3b"), looks := false }, kinds := [], alts := [], laidByText := true, laidKinds := [.data, .data, .data, .data], laidTests := true, laidLooks := .later }
def ClassBlocksCoverCardSaid : Prop := Claim7.holds Tryd.pinned (.plain (OpenSpec.ofChange classBlocksCoverSpec)) classBlocksCoverCard

/-- THE TIED CARD OF 'alumlaw11.ClassCheckMatchesSpec'. -/
def classCheckMatchesSpecCard : Claim7 := { stood := { row := classCheckMatchesSpecRow, standIns := [], harness := (true, "11d0690f375029bff02001c2a49f577bf1b317f88ac2841ca4235a8c7fe2cf3b"), looks := false }, kinds := [], alts := [], laidByText := true, laidKinds := [.data, .data, .data, .data], laidTests := true, laidLooks := .later }
def ClassCheckMatchesSpecCardSaid : Prop := Claim7.holds Tryd.pinned (.plain (OpenSpec.ofChange classCheckMatchesSpecSpec)) classCheckMatchesSpecCard

/-- THE SECOND FORM's CARD OF 'alumlaw11.ClassFitMatchesSpec'. -/
def classFitMatchesSpecUptoCard : Claim7 := { stood := { row := classFitMatchesSpecUptoRow, standIns := [], harness := (true, "11d0690f375029bff02001c2a49f577bf1b317f88ac2841ca4235a8c7fe2cf3b"), looks := false }, kinds := [], alts := [], laidByText := true, laidKinds := [.data, .data, .data, .data], laidTests := true, laidLooks := .later }
def ClassFitMatchesSpecUptoCardSaid : Prop := Claim7.holds Tryd.pinned (.plain (OpenSpec.upto classFitMatchesSpecSpec)) classFitMatchesSpecUptoCard

/-- THE SECOND FORM's CARD OF 'alumlaw11.ClassFitIsLeast'. -/
def classFitIsLeastUptoCard : Claim7 := { stood := { row := classFitIsLeastUptoRow, standIns := [], harness := (true, "11d0690f375029bff02001c2a49f577bf1b317f88ac2841ca4235a8c7fe2cf3b"), looks := false }, kinds := [], alts := [], laidByText := true, laidKinds := [.data, .data, .data, .data], laidTests := true, laidLooks := .later }
def ClassFitIsLeastUptoCardSaid : Prop := Claim7.holds Tryd.pinned (.plain (OpenSpec.upto classFitIsLeastSpec)) classFitIsLeastUptoCard

/-- THE SECOND FORM's CARD OF 'alumlaw11.ClassStartsMatchSpec'. -/
def classStartsMatchSpecUptoCard : Claim7 := { stood := { row := classStartsMatchSpecUptoRow, standIns := [], harness := (true, "11d0690f375029bff02001c2a49f577bf1b317f88ac2841ca4235a8c7fe2cf3b"), looks := false }, kinds := [], alts := [], laidByText := true, laidKinds := [.data, .data, .data, .data], laidTests := true, laidLooks := .later }
def ClassStartsMatchSpecUptoCardSaid : Prop := Claim7.holds Tryd.pinned (.plain (OpenSpec.upto classStartsMatchSpecSpec)) classStartsMatchSpecUptoCard

/-- THE SECOND FORM's CARD OF 'alumlaw11.ClassBlocksCover'. -/
def classBlocksCoverUptoCard : Claim7 := { stood := { row := classBlocksCoverUptoRow, standIns := [], harness := (true, "11d0690f375029bff02001c2a49f577bf1b317f88ac2841ca4235a8c7fe2cf3b"), looks := false }, kinds := [], alts := [], laidByText := true, laidKinds := [.data, .data, .data, .data], laidTests := true, laidLooks := .later }
def ClassBlocksCoverUptoCardSaid : Prop := Claim7.holds Tryd.pinned (.plain (OpenSpec.upto classBlocksCoverSpec)) classBlocksCoverUptoCard

/-- THE SECOND FORM's CARD OF 'alumlaw11.ClassCheckMatchesSpec'. -/
def classCheckMatchesSpecUptoCard : Claim7 := { stood := { row := classCheckMatchesSpecUptoRow, standIns := [], harness := (true, "11d0690f375029bff02001c2a49f577bf1b317f88ac2841ca4235a8c7fe2cf3b"), looks := false }, kinds := [], alts := [], laidByText := true, laidKinds := [.data, .data, .data, .data], laidTests := true, laidLooks := .later }
def ClassCheckMatchesSpecUptoCardSaid : Prop := Claim7.holds Tryd.pinned (.plain (OpenSpec.upto classCheckMatchesSpecSpec)) classCheckMatchesSpecUptoCard
end Rows
end Go.Proofs.YtcoeoggoaiebeaaDoor
