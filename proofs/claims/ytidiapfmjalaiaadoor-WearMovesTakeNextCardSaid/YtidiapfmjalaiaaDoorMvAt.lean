/-
  A slice of moves, move by move.
-/
import Derived.Test.YtidiapfmjalaiaaDoorRow
namespace Go.Proofs.YtidiapfmjalaiaaDoor
open Go.RowKit

theorem mvsCells_get (ms : List (Bk × Bk)) (k j : Nat) (hj : j < 8) : (mvsCells ms)[k * 8 + j]? = (ms[k]?).bind (fun m => (mvCells m)[j]?) := by
  induction ms generalizing k with
  | nil => simp [mvsCells]
  | cons m ms ih =>
    cases k with
    | zero =>
      simp only [mvsCells, List.flatMap_cons, List.getElem?_cons_zero, Option.bind_some, Nat.zero_mul, Nat.zero_add]
      rw [List.getElem?_append_left (by simpa [mvCells, bkCells] using hj)]
    | succ k =>
      have := ih k
      simp only [mvsCells, List.flatMap_cons, List.getElem?_cons_succ] at this ⊢
      rw [List.getElem?_append_right (by simp [mvCells, bkCells]; omega)]
      rw [← this]
      congr 1
      simp [mvCells, bkCells]; omega
theorem RdM.at_ {w : World} {v : Value} {ms : List (Bk × Bk)} (h : RdM w v ms) : ∃ (A : Option Addr) (c : Nat), v = .slice A ms.length c ∧ ms.length ≤ c ∧
    (∀ k, k < ms.length → ∃ b o, A = some ⟨b, o, none⟩ ∧ b < w.heap.size ∧ ∀ f t, ms[k]? = some (f, t) →
      w.cell? ⟨b, o + k * 8, none⟩ = some (.int .i64 f.line) ∧ w.cell? ⟨b, o + k * 8 + 1, none⟩ = some (.int .i64 f.cls) ∧ w.cell? ⟨b, o + k * 8 + 2, none⟩ = some (.int .i64 f.kind) ∧ w.cell? ⟨b, o + k * 8 + 3, none⟩ = some (.int .i64 f.gen) ∧
      w.cell? ⟨b, o + k * 8 + 4, none⟩ = some (.int .i64 t.line) ∧ w.cell? ⟨b, o + k * 8 + 5, none⟩ = some (.int .i64 t.cls) ∧ w.cell? ⟨b, o + k * 8 + 6, none⟩ = some (.int .i64 t.kind) ∧ w.cell? ⟨b, o + k * 8 + 7, none⟩ = some (.int .i64 t.gen)) := by
  obtain ⟨_, A, c, hv, hc, _, _, h2⟩ := h
  refine ⟨A, c, hv, hc, fun k hk => ?_⟩
  obtain ⟨b, o, cur, fr, hA, hh, hcell⟩ := h2 (by omega)
  refine ⟨b, o, hA, lt_of_heap hh, fun f t hx => ?_⟩
  have g : ∀ j, j < 8 → ∀ u, (mvCells (f, t))[j]? = some u → w.cell? ⟨b, o + k * 8 + j, none⟩ = some u := fun j hj u hu => by
    rw [Nat.add_assoc, cell_of_row w b _ cur _ fr hh]
    exact hcell _ u (by rw [mvsCells_get ms k j hj, hx]; exact hu)
  exact ⟨g 0 (by omega) _ rfl, g 1 (by omega) _ rfl, g 2 (by omega) _ rfl, g 3 (by omega) _ rfl, g 4 (by omega) _ rfl, g 5 (by omega) _ rfl, g 6 (by omega) _ rfl, g 7 (by omega) _ rfl⟩

end Go.Proofs.YtidiapfmjalaiaaDoor
