/-
  wear.Due; three: the picture of the examples; even.
-/
import Derived.Test.YtcoeoggoaiebeaaDoorGiven
import Derived.Test.YtcoeoggoaiebeaaDoorPlan
namespace Go.Proofs.YtcoeoggoaiebeaaDoor
open Go.RowKit

/-- The classes below k of which a block is to be moved. -/
def dueK (bs : List Bk) : Nat → List Int
  | 0 => []
  | k + 1 => dueK bs k ++ (if (movesB 1 bs k).length = 0 then [] else [(k : Int)])
theorem dueK_length (bs : List Bk) (k : Nat) : (dueK bs k).length ≤ k := by
  induction k with
  | zero => simp [dueK]
  | succ k ih => simp only [dueK, List.length_append]; split <;> simp <;> omega

def IntsPost (w : World) (xs : List Int) (e : Ending) (w' : World) : Prop := ∃ (A : Option Addr) (c : Nat), e = .returned (.slice A xs.length c) ∧ RdI w' (.slice A xs.length c) xs ∧ Below w.heap.size w w'
def DueRel (w : World) (pic : Array Value) (bs : List Bk) (v i : Value) (wr : World) : Prop :=
  ∃ (k : Nat) (A : Option Addr) (c : Nat), k ≤ 5 ∧ i = .int .i64 k ∧ v = .slice A (dueK bs k).length c ∧ Cl wr w.heap.size 45 pic ∧ wr.ownsRow (w.heap.size + 1) 3 1 (.slice A (dueK bs k).length c) (dueK bs k).length ((dueK bs k).map (Value.int .i64)) ∧ Below w.heap.size w wr

theorem Rd.cl {w : World} {g : Nat} {e : TypeId} {cs : Array Value} {size n : Nat} (h : Cl w g e cs) (hl : cs.size = n * size) (hn : n ≤ 1000000) : Rd w e size (.slice (some ⟨g, 0, none⟩) n n) n cs.toList :=
  ⟨by simpa using hl, _, n, rfl, Nat.le_refl _, by unfold maxLen; omega, by simp, fun _ => ⟨g, 0, cs, (0, 0), rfl, h, fun j u hu => by simpa using hu⟩⟩

theorem PicB.forms {w w' : World} {cs : List Int} {bs : List Bk} {ds : List Int} {yes : Bool} {e : Ending} (h : PicB w cs bs ds yes e w') :
    ∃ A1 c1 A2 c2 A3 c3, e = .returned (.tuple #[.agg #[.slice A1 cs.length c1, .slice A2 bs.length c2, .slice A3 ds.length c3], .bool yes]) ∧ RdI w' (.slice A1 cs.length c1) cs ∧ RdB w' (.slice A2 bs.length c2) bs ∧ RdI w' (.slice A3 ds.length c3) ds ∧ Below w.heap.size w w' := by
  obtain ⟨ch, bl, bd, he, h1, h2, h3, hb⟩ := h
  obtain ⟨A1, c1, rfl⟩ := Rd.form h1
  obtain ⟨A2, c2, rfl⟩ := Rd.form h2
  obtain ⟨A3, c3, rfl⟩ := Rd.form h3
  exact ⟨A1, c1, A2, c2, A3, c3, he, h1, h2, h3, hb⟩
end Go.Proofs.YtcoeoggoaiebeaaDoor
