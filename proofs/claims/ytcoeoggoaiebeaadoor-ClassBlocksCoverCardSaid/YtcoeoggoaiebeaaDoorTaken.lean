/-
  taken: the picture in which the next block of a class is taken.
-/
import Derived.Test.YtcoeoggoaiebeaaDoorAppend
import Derived.Test.YtcoeoggoaiebeaaDoorPlainB
namespace Go.Proofs.YtcoeoggoaiebeaaDoor
open Go.RowKit

theorem bksCells_snoc (bs : List Bk) (x : Bk) : bksCells (bs ++ [x]) = bksCells bs ++ bkCells x := by simp [bksCells]
theorem bk_one (x : Bk) : ∀ u ∈ bkCells x, u.oneCell' = true := by
  intro u hu
  simp only [bkCells, List.mem_cons, List.not_mem_nil, or_false] at hu
  rcases hu with rfl | rfl | rfl | rfl <;> rfl

/-- A picture that was returned, with a yes or no. -/
def PicB (w : World) (cs : List Int) (bs : List Bk) (ds : List Int) (yes : Bool) (e : Ending) (w' : World) : Prop :=
  ∃ ch bl bd, e = .returned (.tuple #[.agg #[ch, bl, bd], .bool yes]) ∧ RdI w' ch cs ∧ RdB w' bl bs ∧ RdI w' bd ds ∧ Below w.heap.size w w'

end Go.Proofs.YtcoeoggoaiebeaaDoor
