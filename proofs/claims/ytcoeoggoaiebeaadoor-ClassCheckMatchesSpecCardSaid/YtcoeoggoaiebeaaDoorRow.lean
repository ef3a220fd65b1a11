/-
  A row of blocks that the call itself made, block by block; what a store into it does.
-/
import Derived.Test.YtcoeoggoaiebeaaDoorWords
namespace Go.Proofs.YtcoeoggoaiebeaaDoor
open Go.RowKit

/-- Block 'g' of the heap begins with the blocks 'bs' of a picture; none of its cells is frozen. -/
def RowB (w : World) (g : Nat) (bs : List Bk) : Prop := ∃ cur : Array Value, Cl w g 53 cur ∧ ∀ i x, bs[i]? = some x →
  cur[i * 4]? = some (.int .i64 x.line) ∧ cur[i * 4 + 1]? = some (.int .i64 x.cls) ∧ cur[i * 4 + 2]? = some (.int .i64 x.kind) ∧ cur[i * 4 + 3]? = some (.int .i64 x.gen)

section
variable {w w' : World} {g : Nat} {bs : List Bk}
theorem RowB.lt (h : RowB w g bs) : g < w.heap.size := by obtain ⟨cur, hc, _⟩ := h; exact hc.lt
theorem RowB.far (h : RowB w g bs) {p : Addr} (hp : g ≠ p.block) (u : Value) : RowB (w.setCell p u) g bs := by obtain ⟨cur, hc, h⟩ := h; exact ⟨cur, hc.far hp u, h⟩
theorem RowB.alloc (h : RowB w g bs) (o : Obj) : RowB (w.alloc o) g bs := by obtain ⟨cur, hc, h⟩ := h; exact ⟨cur, hc.alloc o, h⟩
theorem RowB.below {B : Nat} (h : RowB w g bs) (hb : Below B w w') (hg : g < B) : RowB w' g bs := by obtain ⟨cur, hc, h⟩ := h; exact ⟨cur, hc.below hb hg, h⟩
theorem RowB.drewN (h : RowB w g bs) (n : Nat) : RowB (w.drewN n) g bs := h
theorem RowB.ne {g' : Nat} {t : TypeId} {cs : Array Value} (h : RowB w g bs) (h' : Cl w g' t cs) (hne : t ≠ 53) : g ≠ g' := by
  rintro rfl
  obtain ⟨cur, hc, _⟩ := h
  unfold Cl at hc h'
  rw [hc] at h'
  injection h' with h'
  injection h' with _ ht
  exact hne ht.symm
theorem RowB.cells (h : RowB w g bs) {k : Nat} {x : Bk} (hx : bs[k]? = some x) :
    w.cell? ⟨g, k * 4, none⟩ = some (.int .i64 x.line) ∧ w.cell? ⟨g, k * 4 + 1, none⟩ = some (.int .i64 x.cls) ∧ w.cell? ⟨g, k * 4 + 2, none⟩ = some (.int .i64 x.kind) ∧ w.cell? ⟨g, k * 4 + 3, none⟩ = some (.int .i64 x.gen) := by
  obtain ⟨cur, hc, h⟩ := h
  obtain ⟨a, b, c, d⟩ := h k x hx
  exact ⟨(hc.cell _).trans a, (hc.cell _).trans b, (hc.cell _).trans c, (hc.cell _).trans d⟩
theorem RowB.free (h : RowB w g bs) (i : Nat) : w.frozen? ⟨g, i, none⟩ = false := by obtain ⟨cur, hc, _⟩ := h; exact hc.free i
theorem RowB.setKind (h : RowB w g bs) {k : Nat} {x : Bk} (hx : bs[k]? = some x) (v : Int) : RowB (w.setCell ⟨g, k * 4 + 2, none⟩ (.int .i64 v)) g (bs.set k (x.line, x.cls, v, x.gen)) := by
  obtain ⟨cur, hc, h⟩ := h
  refine ⟨_, hc.set_ _ _, fun i y hy => ?_⟩
  have hk : k < bs.length := (List.getElem?_eq_some_iff.1 hx).1
  obtain ⟨a, b, c, d⟩ := h k x hx
  have hsz : k * 4 + 2 < cur.size := (Array.getElem?_eq_some_iff.1 c).1
  by_cases hik : k = i
  · subst hik
    rw [List.getElem?_set_self hk] at hy
    injection hy with hy
    subst hy
    refine ⟨?_, ?_, ?_, ?_⟩
    · rw [Array.getElem?_setIfInBounds_ne (by omega)]; exact a
    · rw [Array.getElem?_setIfInBounds_ne (by omega)]; exact b
    · rw [Array.getElem?_setIfInBounds_self_of_lt hsz]; rfl
    · rw [Array.getElem?_setIfInBounds_ne (by omega)]; exact d
  · rw [List.getElem?_set_ne hik] at hy
    obtain ⟨a, b, c, d⟩ := h i y hy
    refine ⟨?_, ?_, ?_, ?_⟩
    · rw [Array.getElem?_setIfInBounds_ne (by omega)]; exact a
    · rw [Array.getElem?_setIfInBounds_ne (by omega)]; exact b
    · rw [Array.getElem?_setIfInBounds_ne (by omega)]; exact c
    · rw [Array.getElem?_setIfInBounds_ne (by omega)]; exact d
theorem RowB.setGen (h : RowB w g bs) {k : Nat} {x : Bk} (hx : bs[k]? = some x) (v : Int) : RowB (w.setCell ⟨g, k * 4 + 3, none⟩ (.int .i64 v)) g (bs.set k (x.line, x.cls, x.kind, v)) := by
  obtain ⟨cur, hc, h⟩ := h
  refine ⟨_, hc.set_ _ _, fun i y hy => ?_⟩
  have hk : k < bs.length := (List.getElem?_eq_some_iff.1 hx).1
  obtain ⟨a, b, c, d⟩ := h k x hx
  have hsz : k * 4 + 3 < cur.size := (Array.getElem?_eq_some_iff.1 d).1
  by_cases hik : k = i
  · subst hik
    rw [List.getElem?_set_self hk] at hy
    injection hy with hy
    subst hy
    refine ⟨?_, ?_, ?_, ?_⟩
    · rw [Array.getElem?_setIfInBounds_ne (by omega)]; exact a
    · rw [Array.getElem?_setIfInBounds_ne (by omega)]; exact b
    · rw [Array.getElem?_setIfInBounds_ne (by omega)]; exact c
    · rw [Array.getElem?_setIfInBounds_self_of_lt hsz]; rfl
  · rw [List.getElem?_set_ne hik] at hy
    obtain ⟨a, b, c, d⟩ := h i y hy
    refine ⟨?_, ?_, ?_, ?_⟩
    · rw [Array.getElem?_setIfInBounds_ne (by omega)]; exact a
    · rw [Array.getElem?_setIfInBounds_ne (by omega)]; exact b
    · rw [Array.getElem?_setIfInBounds_ne (by omega)]; exact c
    · rw [Array.getElem?_setIfInBounds_ne (by omega)]; exact d
theorem RowB.read (h : RowB w g bs) {c : Nat} (hc : bs.length ≤ c) (hm : c ≤ maxLen) : RdB w (.slice (some ⟨g, 0, none⟩) bs.length c) bs := by
  obtain ⟨cur, hcl, h⟩ := h
  refine ⟨bksCells_length bs, _, c, rfl, hc, hm, by simp, fun _ => ⟨g, 0, cur, (0, 0), rfl, hcl, fun j u hu => ?_⟩⟩
  have hj : j = j / 4 * 4 + j % 4 := by omega
  rw [hj, bksCells_get bs _ _ (by omega)] at hu
  simp only [Option.bind_eq_some_iff] at hu
  obtain ⟨x, hx, hu⟩ := hu
  obtain ⟨a, b, c, d⟩ := h _ x hx
  rw [Nat.zero_add, hj]
  have h4 : j % 4 < 4 := by omega
  generalize j / 4 = q at *
  generalize j % 4 = r at *
  match r, h4 with
  | 0, _ => simp [bkCells] at hu; subst hu; simpa using a
  | 1, _ => simp [bkCells] at hu; subst hu; simpa using b
  | 2, _ => simp [bkCells] at hu; subst hu; simpa using c
  | 3, _ => simp [bkCells] at hu; subst hu; simpa using d
/-- What was owned and has an element lies in one block. -/
theorem RowB.own {base : Nat} {v : Value} (h : w.ownsRow base 53 4 v bs.length (bksCells bs)) (hn : 0 < bs.length) :
    ∃ g c, v = .slice (some ⟨g, 0, none⟩) bs.length c ∧ base ≤ g ∧ bs.length ≤ c ∧ c ≤ maxLen ∧ RowB w g bs := by
  rcases h.2 with ⟨_, h0⟩ | ⟨g, cap, cur, rfl, hb, hg, hnc, hm, hs, ht⟩
  · omega
  · refine ⟨g, cap, rfl, hb, hnc, hm, cur, hg, fun i x hx => ?_⟩
    have hi : i < bs.length := (List.getElem?_eq_some_iff.1 hx).1
    have get : ∀ j, j < 4 → cur[i * 4 + j]? = (bkCells x)[j]? := by
      intro j hj
      have h1 := bksCells_get bs i j hj
      rw [hx, Option.bind_some, ← ht, List.getElem?_take, if_pos (by omega)] at h1
      simpa using h1
    exact ⟨get 0 (by omega), get 1 (by omega), get 2 (by omega), get 3 (by omega)⟩
end
theorem RowB.setBoth {w : World} {g : Nat} {bs : List Bk} (h : RowB w g bs) {k : Nat} {x : Bk} (hx : bs[k]? = some x) (u v : Int) :
    RowB ((w.setCell ⟨g, k * 4 + 2, none⟩ (.int .i64 u)).setCell ⟨g, k * 4 + 3, none⟩ (.int .i64 v)) g (bs.set k (x.line, x.cls, u, v)) := by
  have hk : k < bs.length := (List.getElem?_eq_some_iff.1 hx).1
  have h1 := h.setKind hx u
  have h2 := h1.setGen (k := k) (x := (x.line, x.cls, u, x.gen)) (by rw [List.getElem?_set_self hk]) v
  rw [List.set_set] at h2
  exact h2
/-- A store into a row of blocks leaves an owned row of another element type as it was. -/
theorem own_row {w : World} {base g : Nat} {e : TypeId} {size n : Nat} {v : Value} {xs : List Value} {bs : List Bk} (h : w.ownsRow base e size v n xs) (hg : RowB w g bs) (hne : e ≠ 53) (i : Nat) (u : Value) :
    (w.setCell ⟨g, i, none⟩ u).ownsRow base e size v n xs := by
  obtain ⟨cs, hg, _⟩ := hg
  refine ⟨h.1, ?_⟩
  rcases h.2 with hn | ⟨g', cap, cur, rfl, hbg, hg', rest⟩
  · exact .inl hn
  · refine .inr ⟨g', cap, cur, rfl, hbg, ?_, rest⟩
    rw [Below.heap_setCell _ _ _ _ (by
      rintro rfl
      unfold Cl at hg
      rw [hg'] at hg
      injection hg with hg
      injection hg with _ ht
      exact hne ht)]
    exact hg'
theorem set_same {l : List Bk} {k : Nat} {x : Bk} (h : l[k]? = some x) : l.set k x = l := by
  apply List.ext_getElem?
  intro i
  by_cases hik : k = i
  · subst hik
    rw [List.getElem?_set_self (List.getElem?_eq_some_iff.1 h).1, h]
  · rw [List.getElem?_set_ne hik]
theorem afterF_none {f t x : Bk} (h1 : bkEq x.line x.cls x.kind x.gen f.line f.cls f.kind f.gen = false) (h2 : bkEq x.line x.cls x.kind x.gen t.line t.cls t.kind t.gen = false) : afterF f t x = x := by
  have n1 : ¬ x = f := fun h => by rw [(bkEq_iff x f).2 h] at h1; cases h1
  have n2 : ¬ x = t := fun h => by rw [(bkEq_iff x t).2 h] at h2; cases h2
  simp [afterF, n1, n2]
theorem afterF_from {f t x : Bk} (h1 : bkEq x.line x.cls x.kind x.gen f.line f.cls f.kind f.gen = true) : afterF f t x = (x.line, x.cls, 0, x.gen) := by
  simp [afterF, (bkEq_iff x f).1 h1]
theorem afterF_to {f t x : Bk} (h1 : bkEq x.line x.cls x.kind x.gen f.line f.cls f.kind f.gen = false) (h2 : bkEq x.line x.cls x.kind x.gen t.line t.cls t.kind t.gen = true) : afterF f t x = (x.line, x.cls, f.kind, nextGen x.gen) := by
  have n1 : ¬ x = f := fun h => by rw [(bkEq_iff x f).2 h] at h1; cases h1
  have e2 := (bkEq_iff x t).1 h2
  simp only [afterF, if_neg n1, if_pos e2]
end Go.Proofs.YtcoeoggoaiebeaaDoor
