/-
  slices.Index and slices.Contains for blocks; the specification's has.
  slices.Clone for integers and for blocks.
  wear.After: the ways on which it refuses the move.
  The small functions: rarer, the two closures, pointer.Next, the specification's Next, power and Lines.
  A row of blocks that the call itself made, block by block; what a store into it does.
  wear.After: the way on which the move is made.
-/
import Derived.Test.YtckamjbdogpacaaGreatDoorWords
import Derived.Deep.RegionHeld3
import Derived.Deep.DeepCutAuto
namespace Go.Proofs.YtckamjbdogpacaaGreatDoor
open Go.RowKit

def IdxPost (w : World) (yes : Prop) (e : Ending) (w' : World) : Prop := ∃ r : Int, -1 ≤ r ∧ r ≤ 1000000 ∧ (0 ≤ r ↔ yes) ∧ e = .returned (.int .i64 r) ∧ Below w.heap.size w w'

end Go.Proofs.YtckamjbdogpacaaGreatDoor

namespace Go.Proofs.YtckamjbdogpacaaGreatDoor
open Go.RowKit

theorem int_info : (Tryz.prog.info? 3).map (fun i => (i.zero, i.size, i.bytes)) = some (some (.int .i64 0), 1, 8) := by kernel_rfl
theorem blk_info : (Tryz.prog.info? 43).map (fun i => (i.zero, i.size, i.bytes)) = some (some (.agg #[.int .i64 0, .int .i64 0, .int .i64 0, .int .i64 0]), 4, 32) := by kernel_rfl


def CloneB (w : World) (bs : List Bk) (e : Ending) (w' : World) : Prop := ∃ (A : Option Addr) (c : Nat), e = .returned (.slice A bs.length c) ∧ w'.ownsRow w.heap.size 43 4 (.slice A bs.length c) bs.length (bksCells bs) ∧ Below w.heap.size w w'

end Go.Proofs.YtckamjbdogpacaaGreatDoor

namespace Go.Proofs.YtckamjbdogpacaaGreatDoor
open Go.RowKit

def Has3 (w : World) (g : Nat) (v0 v1 v2 : Value) : Prop :=
  (w.cell? ⟨g, 0, none⟩ = some v0 ∧ w.cell? ⟨g, 1, none⟩ = some v1 ∧ w.cell? ⟨g, 2, none⟩ = some v2) ∧
  (w.frozen? ⟨g, 0, none⟩ = false ∧ w.frozen? ⟨g, 1, none⟩ = false ∧ w.frozen? ⟨g, 2, none⟩ = false)
theorem Cl.has3 {w : World} {g : Nat} {t : TypeId} {v0 v1 v2 : Value} (h : Cl w g t #[v0, v1, v2]) : Has3 w g v0 v1 v2 :=
  ⟨⟨h.cell 0, h.cell 1, h.cell 2⟩, ⟨h.free 0, h.free 1, h.free 2⟩⟩
def Has8 (w : World) (g : Nat) (v0 v1 v2 v3 v4 v5 v6 v7 : Value) : Prop :=
  w.cell? ⟨g, 0, none⟩ = some v0 ∧ w.cell? ⟨g, 1, none⟩ = some v1 ∧ w.cell? ⟨g, 2, none⟩ = some v2 ∧ w.cell? ⟨g, 3, none⟩ = some v3 ∧
  w.cell? ⟨g, 4, none⟩ = some v4 ∧ w.cell? ⟨g, 5, none⟩ = some v5 ∧ w.cell? ⟨g, 6, none⟩ = some v6 ∧ w.cell? ⟨g, 7, none⟩ = some v7
theorem Cl.has8 {w : World} {g : Nat} {t : TypeId} {v0 v1 v2 v3 v4 v5 v6 v7 : Value} (h : Cl w g t #[v0, v1, v2, v3, v4, v5, v6, v7]) : Has8 w g v0 v1 v2 v3 v4 v5 v6 v7 :=
  ⟨h.cell 0, h.cell 1, h.cell 2, h.cell 3, h.cell 4, h.cell 5, h.cell 6, h.cell 7⟩

/-- A picture that was returned, with an error number. -/
def PicPost (w : World) (cs : List Int) (bs : List Bk) (ds : List Int) (err : Int) (e : Ending) (w' : World) : Prop :=
  ∃ ch bl bd, e = .returned (.tuple #[.agg #[ch, bl, bd], .int .i64 err]) ∧ RdI w' ch cs ∧ RdB w' bl bs ∧ RdI w' bd ds ∧ Below w.heap.size w w'

end Go.Proofs.YtckamjbdogpacaaGreatDoor

namespace Go.Proofs.YtckamjbdogpacaaGreatDoor
open Go.RowKit

end Go.Proofs.YtckamjbdogpacaaGreatDoor

namespace Go.Proofs.YtckamjbdogpacaaGreatDoor
open Go.RowKit

/-- Block 'g' of the heap begins with the blocks 'bs' of a picture; none of its cells is frozen. -/
def RowB (w : World) (g : Nat) (bs : List Bk) : Prop := ∃ cur : Array Value, Cl w g 43 cur ∧ ∀ i x, bs[i]? = some x →
  cur[i * 4]? = some (.int .i64 x.line) ∧ cur[i * 4 + 1]? = some (.int .i64 x.cls) ∧ cur[i * 4 + 2]? = some (.int .i64 x.kind) ∧ cur[i * 4 + 3]? = some (.int .i64 x.gen)

section
variable {w w' : World} {g : Nat} {bs : List Bk}
theorem RowB.lt (h : RowB w g bs) : g < w.heap.size := by obtain ⟨cur, hc, _⟩ := h; exact hc.lt
theorem RowB.far (h : RowB w g bs) {p : Addr} (hp : g ≠ p.block) (u : Value) : RowB (w.setCell p u) g bs := by obtain ⟨cur, hc, h⟩ := h; exact ⟨cur, hc.far hp u, h⟩
theorem RowB.alloc (h : RowB w g bs) (o : Obj) : RowB (w.alloc o) g bs := by obtain ⟨cur, hc, h⟩ := h; exact ⟨cur, hc.alloc o, h⟩
theorem RowB.below {B : Nat} (h : RowB w g bs) (hb : Below B w w') (hg : g < B) : RowB w' g bs := by obtain ⟨cur, hc, h⟩ := h; exact ⟨cur, hc.below hb hg, h⟩
theorem RowB.drewN (h : RowB w g bs) (n : Nat) : RowB (w.drewN n) g bs := h
theorem RowB.ne {g' : Nat} {t : TypeId} {cs : Array Value} (h : RowB w g bs) (h' : Cl w g' t cs) (hne : t ≠ 43) : g ≠ g' := by
  rintro rfl
  obtain ⟨cur, hc, _⟩ := h
  unfold Cl at hc h'
  rw [hc] at h'
  injection h' with h'
  injection h' with _ ht
  exact hne ht.symm
theorem RowB.cells (h : RowB w g bs) {k : Nat} {x : Bk} (hx : bs[k]? = some x) :
    w.cell? ⟨g, k * 4, none⟩ = some (.int .i64 x.line) ∧ w.cell? ⟨g, k * 4 + 1, none⟩ = some (.int .i64 x.cls) ∧ w.cell? ⟨g, k * 4 + 2, none⟩ = some (.int .i64 x.kind) ∧ w.cell? ⟨g, k * 4 + 3, none⟩ = some (.int .i64 x.gen) := by
  obtain ⟨cur, hc, h⟩ := h
  obtain ⟨a, b, c, d⟩ := h k x hx
  exact ⟨(hc.cell _).trans a, (hc.cell _).trans b, (hc.cell _).trans c, (hc.cell _).trans d⟩
theorem RowB.free (h : RowB w g bs) (i : Nat) : w.frozen? ⟨g, i, none⟩ = false := by obtain ⟨cur, hc, _⟩ := h; exact hc.free i
theorem RowB.setKind (h : RowB w g bs) {k : Nat} {x : Bk} (hx : bs[k]? = some x) (v : Int) : RowB (w.setCell ⟨g, k * 4 + 2, none⟩ (.int .i64 v)) g (bs.set k (x.line, x.cls, v, x.gen)) := by
  obtain ⟨cur, hc, h⟩ := h
  refine ⟨_, hc.set_ _ _, fun i y hy => ?_⟩
  have hk : k < bs.length := (List.getElem?_eq_some_iff.1 hx).1
  obtain ⟨a, b, c, d⟩ := h k x hx
  have hsz : k * 4 + 2 < cur.size := (Array.getElem?_eq_some_iff.1 c).1
  by_cases hik : k = i
  · subst hik
    rw [List.getElem?_set_self hk] at hy
    injection hy with hy
    subst hy
    refine ⟨?_, ?_, ?_, ?_⟩
    · rw [Array.getElem?_setIfInBounds_ne (by omega)]; exact a
    · rw [Array.getElem?_setIfInBounds_ne (by omega)]; exact b
    · rw [Array.getElem?_setIfInBounds_self_of_lt hsz]; rfl
    · rw [Array.getElem?_setIfInBounds_ne (by omega)]; exact d
  · rw [List.getElem?_set_ne hik] at hy
    obtain ⟨a, b, c, d⟩ := h i y hy
    refine ⟨?_, ?_, ?_, ?_⟩
    · rw [Array.getElem?_setIfInBounds_ne (by omega)]; exact a
    · rw [Array.getElem?_setIfInBounds_ne (by omega)]; exact b
    · rw [Array.getElem?_setIfInBounds_ne (by omega)]; exact c
    · rw [Array.getElem?_setIfInBounds_ne (by omega)]; exact d
theorem RowB.setGen (h : RowB w g bs) {k : Nat} {x : Bk} (hx : bs[k]? = some x) (v : Int) : RowB (w.setCell ⟨g, k * 4 + 3, none⟩ (.int .i64 v)) g (bs.set k (x.line, x.cls, x.kind, v)) := by
  obtain ⟨cur, hc, h⟩ := h
  refine ⟨_, hc.set_ _ _, fun i y hy => ?_⟩
  have hk : k < bs.length := (List.getElem?_eq_some_iff.1 hx).1
  obtain ⟨a, b, c, d⟩ := h k x hx
  have hsz : k * 4 + 3 < cur.size := (Array.getElem?_eq_some_iff.1 d).1
  by_cases hik : k = i
  · subst hik
    rw [List.getElem?_set_self hk] at hy
    injection hy with hy
    subst hy
    refine ⟨?_, ?_, ?_, ?_⟩
    · rw [Array.getElem?_setIfInBounds_ne (by omega)]; exact a
    · rw [Array.getElem?_setIfInBounds_ne (by omega)]; exact b
    · rw [Array.getElem?_setIfInBounds_ne (by omega)]; exact c
    · rw [Array.getElem?_setIfInBounds_self_of_lt hsz]; rfl
  · rw [List.getElem?_set_ne hik] at hy
    obtain ⟨a, b, c, d⟩ := h i y hy
    refine ⟨?_, ?_, ?_, ?_⟩
    · rw [Array.getElem?_setIfInBounds_ne (by omega)]; exact a
    · rw [Array.getElem?_setIfInBounds_ne (by omega)]; exact b
    · rw [Array.getElem?_setIfInBounds_ne (by omega)]; exact c
    · rw [Array.getElem?_setIfInBounds_ne (by omega)]; exact d
theorem RowB.read (h : RowB w g bs) {c : Nat} (hc : bs.length ≤ c) (hm : c ≤ maxLen) : RdB w (.slice (some ⟨g, 0, none⟩) bs.length c) bs := by
  obtain ⟨cur, hcl, h⟩ := h
  refine ⟨bksCells_length bs, _, c, rfl, hc, hm, by simp, fun _ => ⟨g, 0, cur, (0, 0), rfl, hcl, fun j u hu => ?_⟩⟩
  have hj : j = j / 4 * 4 + j % 4 := by omega
  rw [hj, bksCells_get bs _ _ (by omega)] at hu
  simp only [Option.bind_eq_some_iff] at hu
  obtain ⟨x, hx, hu⟩ := hu
  obtain ⟨a, b, c, d⟩ := h _ x hx
  rw [Nat.zero_add, hj]
  have h4 : j % 4 < 4 := by omega
  generalize j / 4 = q at *
  generalize j % 4 = r at *
  match r, h4 with
  | 0, _ => simp [bkCells] at hu; subst hu; simpa using a
  | 1, _ => simp [bkCells] at hu; subst hu; simpa using b
  | 2, _ => simp [bkCells] at hu; subst hu; simpa using c
  | 3, _ => simp [bkCells] at hu; subst hu; simpa using d
/-- What was owned and has an element lies in one block. -/
theorem RowB.own {base : Nat} {v : Value} (h : w.ownsRow base 43 4 v bs.length (bksCells bs)) (hn : 0 < bs.length) :
    ∃ g c, v = .slice (some ⟨g, 0, none⟩) bs.length c ∧ base ≤ g ∧ bs.length ≤ c ∧ c ≤ maxLen ∧ RowB w g bs := by
  rcases h.2 with ⟨_, h0⟩ | ⟨g, cap, cur, rfl, hb, hg, hnc, hm, hs, ht⟩
  · omega
  · refine ⟨g, cap, rfl, hb, hnc, hm, cur, hg, fun i x hx => ?_⟩
    have hi : i < bs.length := (List.getElem?_eq_some_iff.1 hx).1
    have get : ∀ j, j < 4 → cur[i * 4 + j]? = (bkCells x)[j]? := by
      intro j hj
      have h1 := bksCells_get bs i j hj
      rw [hx, Option.bind_some, ← ht, List.getElem?_take, if_pos (by omega)] at h1
      simpa using h1
    exact ⟨get 0 (by omega), get 1 (by omega), get 2 (by omega), get 3 (by omega)⟩
end
theorem RowB.setBoth {w : World} {g : Nat} {bs : List Bk} (h : RowB w g bs) {k : Nat} {x : Bk} (hx : bs[k]? = some x) (u v : Int) :
    RowB ((w.setCell ⟨g, k * 4 + 2, none⟩ (.int .i64 u)).setCell ⟨g, k * 4 + 3, none⟩ (.int .i64 v)) g (bs.set k (x.line, x.cls, u, v)) := by
  have hk : k < bs.length := (List.getElem?_eq_some_iff.1 hx).1
  have h1 := h.setKind hx u
  have h2 := h1.setGen (k := k) (x := (x.line, x.cls, u, x.gen)) (by rw [List.getElem?_set_self hk]) v
  rw [List.set_set] at h2
  exact h2
/-- A store into a row of blocks leaves an owned row of another element type as it was. -/
theorem own_row {w : World} {base g : Nat} {e : TypeId} {size n : Nat} {v : Value} {xs : List Value} {bs : List Bk} (h : w.ownsRow base e size v n xs) (hg : RowB w g bs) (hne : e ≠ 43) (i : Nat) (u : Value) :
    (w.setCell ⟨g, i, none⟩ u).ownsRow base e size v n xs := by
  obtain ⟨cs, hg, _⟩ := hg
  refine ⟨h.1, ?_⟩
  rcases h.2 with hn | ⟨g', cap, cur, rfl, hbg, hg', rest⟩
  · exact .inl hn
  · refine .inr ⟨g', cap, cur, rfl, hbg, ?_, rest⟩
    rw [Below.heap_setCell _ _ _ _ (by
      rintro rfl
      unfold Cl at hg
      rw [hg'] at hg
      injection hg with hg
      injection hg with _ ht
      exact hne ht)]
    exact hg'
theorem set_same {l : List Bk} {k : Nat} {x : Bk} (h : l[k]? = some x) : l.set k x = l := by
  apply List.ext_getElem?
  intro i
  by_cases hik : k = i
  · subst hik
    rw [List.getElem?_set_self (List.getElem?_eq_some_iff.1 h).1, h]
  · rw [List.getElem?_set_ne hik]
theorem afterF_none {f t x : Bk} (h1 : bkEq x.line x.cls x.kind x.gen f.line f.cls f.kind f.gen = false) (h2 : bkEq x.line x.cls x.kind x.gen t.line t.cls t.kind t.gen = false) : afterF f t x = x := by
  have n1 : ¬ x = f := fun h => by rw [(bkEq_iff x f).2 h] at h1; cases h1
  have n2 : ¬ x = t := fun h => by rw [(bkEq_iff x t).2 h] at h2; cases h2
  simp [afterF, n1, n2]
theorem afterF_from {f t x : Bk} (h1 : bkEq x.line x.cls x.kind x.gen f.line f.cls f.kind f.gen = true) : afterF f t x = (x.line, x.cls, 0, x.gen) := by
  simp [afterF, (bkEq_iff x f).1 h1]
theorem afterF_to {f t x : Bk} (h1 : bkEq x.line x.cls x.kind x.gen f.line f.cls f.kind f.gen = false) (h2 : bkEq x.line x.cls x.kind x.gen t.line t.cls t.kind t.gen = true) : afterF f t x = (x.line, x.cls, f.kind, nextGen x.gen) := by
  have n1 : ¬ x = f := fun h => by rw [(bkEq_iff x f).2 h] at h1; cases h1
  have e2 := (bkEq_iff x t).1 h2
  simp only [afterF, if_neg n1, if_pos e2]
end Go.Proofs.YtckamjbdogpacaaGreatDoor

namespace Go.Proofs.YtckamjbdogpacaaGreatDoor
open Go.RowKit

theorem own_below {w w' : World} {base : Nat} {e : TypeId} {size n : Nat} {v : Value} {xs : List Value} (h : w.ownsRow base e size v n xs) (hb : Below w.heap.size w w') : w'.ownsRow base e size v n xs := by
  refine ⟨h.1, ?_⟩
  rcases h.2 with hn | ⟨g, cap, cur, rfl, hbg, hg, rest⟩
  · exact .inl hn
  · exact .inr ⟨g, cap, cur, rfl, hbg, (hb.block g (Array.getElem?_eq_some_iff.1 hg).1).trans hg, rest⟩

theorem own_base {w : World} {base base' : Nat} {e : TypeId} {size n : Nat} {v : Value} {xs : List Value} (h : w.ownsRow base e size v n xs) (hb : base' ≤ base) : w.ownsRow base' e size v n xs := by
  refine ⟨h.1, ?_⟩
  rcases h.2 with hn | ⟨g, cap, cur, rfl, hbg, hg, rest⟩
  · exact .inl hn
  · exact .inr ⟨g, cap, cur, rfl, Nat.le_trans hb hbg, hg, rest⟩

/-- A store into a block of another element type leaves what is owned as it was. -/
theorem own_far {w : World} {base g : Nat} {e t : TypeId} {size n : Nat} {v : Value} {xs : List Value} {cs : Array Value} (h : w.ownsRow base e size v n xs) (hg : Cl w g t cs) (hne : e ≠ t) (i : Nat) (u : Value) :
    (w.setCell ⟨g, i, none⟩ u).ownsRow base e size v n xs := by
  refine ⟨h.1, ?_⟩
  rcases h.2 with hn | ⟨g', cap, cur, rfl, hbg, hg', rest⟩
  · exact .inl hn
  · refine .inr ⟨g', cap, cur, rfl, hbg, ?_, rest⟩
    rw [Below.heap_setCell _ _ _ _ (by
      rintro rfl
      unfold Cl at hg
      rw [hg'] at hg
      injection hg with hg
      injection hg with _ ht
      exact hne ht)]
    exact hg'
theorem own_far3 {w : World} {base g : Nat} {e t : TypeId} {size n : Nat} {v : Value} {xs : List Value} {v0 v1 v2 : Value} (h : w.ownsRow base e size v n xs) (hg : Cl w g t #[v0, v1, v2]) (hne : e ≠ t) (u0 u1 u2 : Value) :
    (((w.setCell ⟨g, 0, none⟩ u0).setCell ⟨g, 1, none⟩ u1).setCell ⟨g, 2, none⟩ u2).ownsRow base e size v n xs :=
  own_far (own_far (own_far h hg hne 0 u0) (hg.set_ 0 u0) hne 1 u1) ((hg.set_ 0 u0).set_ 1 u1) hne 2 u2
theorem Cl.set3 {w : World} {g : Nat} {t : TypeId} {v0 v1 v2 : Value} (h : Cl w g t #[v0, v1, v2]) (u0 u1 u2 : Value) :
    Cl (((w.setCell ⟨g, 0, none⟩ u0).setCell ⟨g, 1, none⟩ u1).setCell ⟨g, 2, none⟩ u2) g t #[u0, u1, u2] := ((h.set_ 0 u0).set_ 1 u1).set_ 2 u2

theorem below_of_drew {B : Nat} {w w' : World} (h : Below B w.drew w') : Below B w w' := ⟨h.os, h.tape, h.output, h.size, h.block⟩

end Go.Proofs.YtckamjbdogpacaaGreatDoor
