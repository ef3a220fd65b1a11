/-
  wear.After: the ways on which it refuses the move.
-/
import Derived.Test.YtcoeoggoaiebeaaDoorFind
import Derived.Test.YtcoeoggoaiebeaaDoorClone
namespace Go.Proofs.YtcoeoggoaiebeaaDoor
open Go.RowKit

def Has3 (w : World) (g : Nat) (v0 v1 v2 : Value) : Prop :=
  (w.cell? ⟨g, 0, none⟩ = some v0 ∧ w.cell? ⟨g, 1, none⟩ = some v1 ∧ w.cell? ⟨g, 2, none⟩ = some v2) ∧
  (w.frozen? ⟨g, 0, none⟩ = false ∧ w.frozen? ⟨g, 1, none⟩ = false ∧ w.frozen? ⟨g, 2, none⟩ = false)
theorem Cl.has3 {w : World} {g : Nat} {t : TypeId} {v0 v1 v2 : Value} (h : Cl w g t #[v0, v1, v2]) : Has3 w g v0 v1 v2 :=
  ⟨⟨h.cell 0, h.cell 1, h.cell 2⟩, ⟨h.free 0, h.free 1, h.free 2⟩⟩
def Has8 (w : World) (g : Nat) (v0 v1 v2 v3 v4 v5 v6 v7 : Value) : Prop :=
  w.cell? ⟨g, 0, none⟩ = some v0 ∧ w.cell? ⟨g, 1, none⟩ = some v1 ∧ w.cell? ⟨g, 2, none⟩ = some v2 ∧ w.cell? ⟨g, 3, none⟩ = some v3 ∧
  w.cell? ⟨g, 4, none⟩ = some v4 ∧ w.cell? ⟨g, 5, none⟩ = some v5 ∧ w.cell? ⟨g, 6, none⟩ = some v6 ∧ w.cell? ⟨g, 7, none⟩ = some v7
theorem Cl.has8 {w : World} {g : Nat} {t : TypeId} {v0 v1 v2 v3 v4 v5 v6 v7 : Value} (h : Cl w g t #[v0, v1, v2, v3, v4, v5, v6, v7]) : Has8 w g v0 v1 v2 v3 v4 v5 v6 v7 :=
  ⟨h.cell 0, h.cell 1, h.cell 2, h.cell 3, h.cell 4, h.cell 5, h.cell 6, h.cell 7⟩

/-- A picture that was returned, with an error number. -/
def PicPost (w : World) (cs : List Int) (bs : List Bk) (ds : List Int) (err : Int) (e : Ending) (w' : World) : Prop :=
  ∃ ch bl bd, e = .returned (.tuple #[.agg #[ch, bl, bd], .int .i64 err]) ∧ RdI w' ch cs ∧ RdB w' bl bs ∧ RdI w' bd ds ∧ Below w.heap.size w w'

end Go.Proofs.YtcoeoggoaiebeaaDoor
