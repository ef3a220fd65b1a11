/-
  More of what the functions come to, in plain words.
  taken: the picture in which the next block of a class is taken.
  given: the picture in which some used block of a class is free.
-/
import Derived.Test.YtckamjbdogpacaaGreatDoorWords
import Derived.Test.YtckamjbdogpacaaGreatDoorAppend
namespace Go.Proofs.YtckamjbdogpacaaGreatDoor

/-- The block that is taken: its kind is that of a node, and its generation the next one. -/
def takenF (n b : Bk) : Bk := if b = n then (b.line, b.cls, 2, b.gen + 1) else b
theorem map_snoc (F : Bk → Bk) (bs : List Bk) (k : Nat) (x : Bk) (h : bs[k]? = some x) : (bs.take (k + 1)).map F = (bs.take k).map F ++ [F x] := by
  rw [List.take_add_one, h]; simp
theorem takeMap_length (F : Bk → Bk) (bs : List Bk) (k : Nat) (h : k ≤ bs.length) : ((bs.take k).map F).length = k := by simp; omega
/-- The lines of the used blocks of a class. -/
def usedLines (bs : List Bk) (c : Int) : List Int := (bs.filter (fun b => usedB b.cls b.kind c)).map Bk.line
theorem usedLines_snoc (bs : List Bk) (c : Int) (k : Nat) (x : Bk) (h : bs[k]? = some x) : usedLines (bs.take (k + 1)) c = usedLines (bs.take k) c ++ (if usedB x.cls x.kind c = true then [x.line] else []) := by
  rw [usedLines, List.take_add_one, h, List.filter_append, List.map_append]
  unfold usedLines
  congr 1
  cases hu : usedB x.cls x.kind c <;> simp [hu]
theorem usedLines_length (bs : List Bk) (c : Int) (k : Nat) : (usedLines (bs.take k) c).length ≤ k := by
  unfold usedLines
  rw [List.length_map]
  exact Nat.le_trans (List.length_filter_le _ _) (List.length_take_le _ _)
def givenF (o : Option Int) (b : Bk) : Bk := match o with
  | some l => if b.line = l then (b.line, b.cls, 0, b.gen) else b
  | none => b
def givenB (bs : List Bk) (c : Int) (n : Nat) : List Bk := bs.map (givenF (usedLines bs c)[n % (usedLines bs c).length]?)
end Go.Proofs.YtckamjbdogpacaaGreatDoor

namespace Go.Proofs.YtckamjbdogpacaaGreatDoor
open Go.RowKit

theorem bksCells_snoc (bs : List Bk) (x : Bk) : bksCells (bs ++ [x]) = bksCells bs ++ bkCells x := by simp [bksCells]
theorem bk_one (x : Bk) : ∀ u ∈ bkCells x, u.oneCell' = true := by
  intro u hu
  simp only [bkCells, List.mem_cons, List.not_mem_nil, or_false] at hu
  rcases hu with rfl | rfl | rfl | rfl <;> rfl

/-- A picture that was returned, with a yes or no. -/
def PicB (w : World) (cs : List Int) (bs : List Bk) (ds : List Int) (yes : Bool) (e : Ending) (w' : World) : Prop :=
  ∃ ch bl bd, e = .returned (.tuple #[.agg #[ch, bl, bd], .bool yes]) ∧ RdI w' ch cs ∧ RdB w' bl bs ∧ RdI w' bd ds ∧ Below w.heap.size w w'

end Go.Proofs.YtckamjbdogpacaaGreatDoor

namespace Go.Proofs.YtckamjbdogpacaaGreatDoor
open Go.RowKit

def PicOne (w : World) (cs : List Int) (bs : List Bk) (ds : List Int) (e : Ending) (w' : World) : Prop :=
  ∃ ch bl bd, e = .returned (.agg #[ch, bl, bd]) ∧ RdI w' ch cs ∧ RdB w' bl bs ∧ RdI w' bd ds ∧ Below w.heap.size w w'

theorem own_drewN {w : World} {base : Nat} {e : TypeId} {size n : Nat} {v : Value} {xs : List Value} (h : w.ownsRow base e size v n xs) (k : Nat) : (w.drewN k).ownsRow base e size v n xs := h
theorem Rd.drewN {w : World} {e : TypeId} {size n : Nat} {v : Value} {xs : List Value} (h : Rd w e size v n xs) (k : Nat) : Rd (w.drewN k) e size v n xs := h
theorem Rd.alloc {w : World} {e : TypeId} {size n : Nat} {v : Value} {xs : List Value} (h : Rd w e size v n xs) (o : Obj) : Rd (w.alloc o) e size v n xs := h.below ((Below.refl _ _).alloc (Nat.le_refl _) _)

theorem own_else {w : World} {base : Nat} {e : TypeId} {size n : Nat} {v : Value} {xs : List Value} (h : w.ownsRow base e size v n xs) {p : Addr} (hp : ∀ k, v.ownBlock = some k → k ≠ p.block) (u : Value) : (w.setCell p u).ownsRow base e size v n xs := by
  refine ⟨h.1, ?_⟩
  rcases h.2 with hn | ⟨g, cap, cur, rfl, hbg, hg, rest⟩
  · exact .inl hn
  · exact .inr ⟨g, cap, cur, rfl, hbg, (Below.heap_setCell w p u g (hp g rfl)).trans hg, rest⟩

end Go.Proofs.YtckamjbdogpacaaGreatDoor
