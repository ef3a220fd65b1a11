/-
  slices.Index and slices.Contains for blocks; the specification's has.
-/
import Derived.Test.YtcoeoggoaiebeaaDoorWords
namespace Go.Proofs.YtcoeoggoaiebeaaDoor
open Go.RowKit

def IdxPost (w : World) (yes : Prop) (e : Ending) (w' : World) : Prop := ∃ r : Int, -1 ≤ r ∧ r ≤ 1000000 ∧ (0 ≤ r ↔ yes) ∧ e = .returned (.int .i64 r) ∧ Below w.heap.size w w'

end Go.Proofs.YtcoeoggoaiebeaaDoor
