/-
  taken: the picture in which the next block of a class is taken.
  given: the picture in which some used block of a class is free.
-/
import Derived.Test.YtcoeoggoaiebeaaDoorAppend
import Derived.Test.YtcoeoggoaiebeaaDoorPlain
namespace Go.Proofs.YtcoeoggoaiebeaaDoor
open Go.RowKit

theorem bksCells_snoc (bs : List Bk) (x : Bk) : bksCells (bs ++ [x]) = bksCells bs ++ bkCells x := by simp [bksCells]
theorem bk_one (x : Bk) : ∀ u ∈ bkCells x, u.oneCell' = true := by
  intro u hu
  simp only [bkCells, List.mem_cons, List.not_mem_nil, or_false] at hu
  rcases hu with rfl | rfl | rfl | rfl <;> rfl

/-- A picture that was returned, with a yes or no. -/
def PicB (w : World) (cs : List Int) (bs : List Bk) (ds : List Int) (yes : Bool) (e : Ending) (w' : World) : Prop :=
  ∃ ch bl bd, e = .returned (.tuple #[.agg #[ch, bl, bd], .bool yes]) ∧ RdI w' ch cs ∧ RdB w' bl bs ∧ RdI w' bd ds ∧ Below w.heap.size w w'

end Go.Proofs.YtcoeoggoaiebeaaDoor

namespace Go.Proofs.YtcoeoggoaiebeaaDoor
open Go.RowKit

def PicOne (w : World) (cs : List Int) (bs : List Bk) (ds : List Int) (e : Ending) (w' : World) : Prop :=
  ∃ ch bl bd, e = .returned (.agg #[ch, bl, bd]) ∧ RdI w' ch cs ∧ RdB w' bl bs ∧ RdI w' bd ds ∧ Below w.heap.size w w'

theorem own_drewN {w : World} {base : Nat} {e : TypeId} {size n : Nat} {v : Value} {xs : List Value} (h : w.ownsRow base e size v n xs) (k : Nat) : (w.drewN k).ownsRow base e size v n xs := h
theorem Rd.drewN {w : World} {e : TypeId} {size n : Nat} {v : Value} {xs : List Value} (h : Rd w e size v n xs) (k : Nat) : Rd (w.drewN k) e size v n xs := h
theorem Rd.alloc {w : World} {e : TypeId} {size n : Nat} {v : Value} {xs : List Value} (h : Rd w e size v n xs) (o : Obj) : Rd (w.alloc o) e size v n xs := h.below ((Below.refl _ _).alloc (Nat.le_refl _) _)

theorem own_else {w : World} {base : Nat} {e : TypeId} {size n : Nat} {v : Value} {xs : List Value} (h : w.ownsRow base e size v n xs) {p : Addr} (hp : ∀ k, v.ownBlock = some k → k ≠ p.block) (u : Value) : (w.setCell p u).ownsRow base e size v n xs := by
  refine ⟨h.1, ?_⟩
  rcases h.2 with hn | ⟨g, cap, cur, rfl, hbg, hg, rest⟩
  · exact .inl hn
  · exact .inr ⟨g, cap, cur, rfl, hbg, (Below.heap_setCell w p u g (hp g rfl)).trans hg, rest⟩

end Go.Proofs.YtcoeoggoaiebeaaDoor
