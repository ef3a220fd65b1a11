/-
  Words for memory: a slice value reads as a list of cells.
  The small functions: rarer, the two closures, pointer.Next, the specification's Next, power and Lines.
  slices.Index and slices.Contains for blocks; the specification's has.
-/
import Derived.Test.YtcoeoggoaiebeaaDoorProg
import Derived.Test.YtcoeoggoaiebeaaDoorPlain
import Derived.WalkKit
import Derived.WalkSpells
import Derived.WalkLawsBesides
import Derived.Deep.QuietTactic
import Derived.BigQuiet
import Derived.Lib.Hide
import Derived.KernelRfl
namespace Go.Proofs.YtcoeoggoaiebeaaDoor
open Go.RowKit

/-- The slice value 'v' has 'n' elements (of the type 'e', of 'size' cells each), and reads as the cells 'xs' in the world 'w'. -/
def Rd (w : World) (e : TypeId) (size : Nat) (v : Value) (n : Nat) (xs : List Value) : Prop :=
  xs.length = n * size ∧ ∃ (A : Option Addr) (c : Nat), v = .slice A n c ∧ n ≤ c ∧ c ≤ maxLen ∧ (A = none → c = 0) ∧
    (0 < n → ∃ b o cur fr, A = some ⟨b, o, none⟩ ∧ w.heap[b]? = some (.cells cur e fr) ∧ ∀ j u, xs[j]? = some u → cur[o + j]? = some u)

theorem lt_of_heap {w : World} {b : Nat} {x : Obj} (h : w.heap[b]? = some x) : b < w.heap.size := by
  rcases Nat.lt_or_ge b w.heap.size with hlt | hge
  · exact hlt
  · rw [Array.getElem?_eq_none hge] at h; cases h

theorem Rd.below {w w' : World} {e : TypeId} {size n : Nat} {v : Value} {xs : List Value} (h : Rd w e size v n xs) (hb : Below w.heap.size w w') : Rd w' e size v n xs := by
  obtain ⟨h1, A, c, hv, hc, hm, hz, h2⟩ := h
  refine ⟨h1, A, c, hv, hc, hm, hz, fun hn => ?_⟩
  obtain ⟨b, o, cur, fr, hA, hh, hcell⟩ := h2 hn
  exact ⟨b, o, cur, fr, hA, (hb.block b (lt_of_heap hh)).trans hh, hcell⟩

/-- Behind an append to a row of another element type. -/
theorem Rd.grown {w w' : World} {e e' : TypeId} {size n base size' n' : Nat} {v v' : Value} {xs xs' : List Value} (h : Rd w e size v n xs) (hg : w.grownBy w' v'.ownBlock) (ho : w.ownsRow base e' size' v' n' xs') (hne : e ≠ e') : Rd w' e size v n xs := by
  obtain ⟨h1, A, c, hv, hc, hm, hz, h2⟩ := h
  refine ⟨h1, A, c, hv, hc, hm, hz, fun hn => ?_⟩
  obtain ⟨b, o, cur, fr, hA, hh, hcell⟩ := h2 hn
  refine ⟨b, o, cur, fr, hA, (hg.block b (lt_of_heap hh) ?_).trans hh, hcell⟩
  intro hb
  rcases ho.2 with ⟨rfl, _⟩ | ⟨g, cap, cur', rfl, _, hh', _⟩
  · simp [Value.ownBlock] at hb
  · simp only [Value.ownBlock, Option.some.injEq] at hb
    subst hb
    rw [hh] at hh'
    injection hh' with hh'
    injection hh' with _ ht
    exact hne ht

/-- Behind a store into a block of another element type. -/
theorem Rd.far {w : World} {e : TypeId} {size n g : Nat} {v : Value} {xs : List Value} {t : TypeId} {cs : Array Value} {fr0 : Nat × Nat} (h : Rd w e size v n xs) (hg : w.heap[g]? = some (.cells cs t fr0)) (hne : e ≠ t) (i : Nat) (u : Value) : Rd (w.setCell ⟨g, i, none⟩ u) e size v n xs := by
  obtain ⟨h1, A, c, hv, hc, hm, hz, h2⟩ := h
  refine ⟨h1, A, c, hv, hc, hm, hz, fun hn => ?_⟩
  obtain ⟨b, o, cur, fr, hA, hh, hcell⟩ := h2 hn
  refine ⟨b, o, cur, fr, hA, (Below.heap_setCell w _ u b ?_).trans hh, hcell⟩
  rintro rfl
  rw [hh] at hg
  injection hg with hg
  injection hg with _ ht
  exact hne ht

def bkCells (b : Bk) : List Value := [.int .i64 b.line, .int .i64 b.cls, .int .i64 b.kind, .int .i64 b.gen]
def bksCells (bs : List Bk) : List Value := bs.flatMap bkCells
def RdB (w : World) (v : Value) (bs : List Bk) : Prop := Rd w 53 4 v bs.length (bksCells bs)
def RdI (w : World) (v : Value) (xs : List Int) : Prop := Rd w 3 1 v xs.length (xs.map (Value.int .i64))

theorem bksCells_length (bs : List Bk) : (bksCells bs).length = bs.length * 4 := by
  induction bs with
  | nil => rfl
  | cons b bs ih => simp only [bksCells, List.flatMap_cons, List.length_append, List.length_cons] at ih ⊢; rw [ih]; simp [bkCells]; omega

theorem bksCells_get (bs : List Bk) (k j : Nat) (hj : j < 4) : (bksCells bs)[k * 4 + j]? = (bs[k]?).bind (fun b => (bkCells b)[j]?) := by
  induction bs generalizing k with
  | nil => simp [bksCells]
  | cons b bs ih =>
    cases k with
    | zero =>
      simp only [bksCells, List.flatMap_cons, List.getElem?_cons_zero, Option.bind_some, Nat.zero_mul, Nat.zero_add]
      rw [List.getElem?_append_left (by simpa [bkCells] using hj)]
    | succ k =>
      have := ih k
      simp only [bksCells, List.flatMap_cons, List.getElem?_cons_succ] at this ⊢
      rw [List.getElem?_append_right (by simp [bkCells]; omega)]
      rw [← this]
      congr 1
      simp [bkCells]; omega

theorem Rd.atB {w : World} {te : TypeId} {v : Value} {bs : List Bk} (h : Rd w te 4 v bs.length (bksCells bs)) : ∃ (A : Option Addr) (c : Nat), v = .slice A bs.length c ∧ bs.length ≤ c ∧
    (∀ k, k < bs.length → ∃ b o, A = some ⟨b, o, none⟩ ∧ b < w.heap.size ∧ ∀ x, bs[k]? = some x → w.cell? ⟨b, o + k * 4, none⟩ = some (.int .i64 x.line) ∧ w.cell? ⟨b, o + k * 4 + 1, none⟩ = some (.int .i64 x.cls) ∧ w.cell? ⟨b, o + k * 4 + 2, none⟩ = some (.int .i64 x.kind) ∧ w.cell? ⟨b, o + k * 4 + 3, none⟩ = some (.int .i64 x.gen)) := by
  obtain ⟨_, A, c, hv, hc, _, _, h2⟩ := h
  refine ⟨A, c, hv, hc, fun k hk => ?_⟩
  obtain ⟨b, o, cur, fr, hA, hh, hcell⟩ := h2 (by omega)
  refine ⟨b, o, hA, lt_of_heap hh, fun x hx => ?_⟩
  have g : ∀ j, j < 4 → ∀ u, (bkCells x)[j]? = some u → w.cell? ⟨b, o + k * 4 + j, none⟩ = some u := fun j hj u hu => by
    rw [Nat.add_assoc, cell_of_row w b _ cur _ fr hh]
    exact hcell _ u (by rw [bksCells_get bs k j hj, hx]; exact hu)
  exact ⟨g 0 (by omega) _ rfl, g 1 (by omega) _ rfl, g 2 (by omega) _ rfl, g 3 (by omega) _ rfl⟩
theorem RdB.at_ {w : World} {v : Value} {bs : List Bk} (h : RdB w v bs) : ∃ (A : Option Addr) (c : Nat), v = .slice A bs.length c ∧ bs.length ≤ c ∧
    (∀ k, k < bs.length → ∃ b o, A = some ⟨b, o, none⟩ ∧ b < w.heap.size ∧ ∀ x, bs[k]? = some x → w.cell? ⟨b, o + k * 4, none⟩ = some (.int .i64 x.line) ∧ w.cell? ⟨b, o + k * 4 + 1, none⟩ = some (.int .i64 x.cls) ∧ w.cell? ⟨b, o + k * 4 + 2, none⟩ = some (.int .i64 x.kind) ∧ w.cell? ⟨b, o + k * 4 + 3, none⟩ = some (.int .i64 x.gen)) := Rd.atB h

theorem Rd.atI {w : World} {te : TypeId} {v : Value} {xs : List Int} (h : Rd w te 1 v xs.length (xs.map (Value.int .i64))) : ∃ (A : Option Addr) (c : Nat), v = .slice A xs.length c ∧ xs.length ≤ c ∧
    (∀ k, k < xs.length → ∃ b o, A = some ⟨b, o, none⟩ ∧ b < w.heap.size ∧ ∀ x, xs[k]? = some x → w.cell? ⟨b, o + k, none⟩ = some (.int .i64 x)) := by
  obtain ⟨_, A, c, hv, hc, _, _, h2⟩ := h
  refine ⟨A, c, hv, hc, fun k hk => ?_⟩
  obtain ⟨b, o, cur, fr, hA, hh, hcell⟩ := h2 (by omega)
  exact ⟨b, o, hA, lt_of_heap hh, fun x hx => by rw [cell_of_row w b _ cur _ fr hh]; exact hcell k _ (by rw [List.getElem?_map, hx]; rfl)⟩
theorem RdI.at_ {w : World} {v : Value} {xs : List Int} (h : RdI w v xs) : ∃ (A : Option Addr) (c : Nat), v = .slice A xs.length c ∧ xs.length ≤ c ∧
    (∀ k, k < xs.length → ∃ b o, A = some ⟨b, o, none⟩ ∧ b < w.heap.size ∧ ∀ x, xs[k]? = some x → w.cell? ⟨b, o + k, none⟩ = some (.int .i64 x)) := Rd.atI h

theorem add_plain (b o j : Nat) : (⟨b, o, none⟩ : Addr).add j = ⟨b, o + j, none⟩ := by unfold Addr.add; split <;> simp_all
theorem Rd.news {w : World} {e : TypeId} {size n c : Nat} {ad : Addr} {xs : List Value} (h : Rd w e size (.slice (some ad) n c) n xs) : ∀ j u, xs[j]? = some u → w.cell? (ad.add j) = some u := by
  intro j u hu
  obtain ⟨hl, A, c', hv, _, _, _, hcell⟩ := h
  injection hv with hA _ _
  have hlt := (List.getElem?_eq_some_iff.1 hu).1
  have hn : 0 < n := by
    rcases Nat.eq_zero_or_pos n with h0 | h0
    · subst h0; omega
    · exact h0
  obtain ⟨b, o, cur, fr, hA', hh, hc⟩ := hcell hn
  rw [hA'] at hA
  injection hA with hA
  subst hA
  rw [add_plain, cell_of_row w b _ cur _ fr hh]
  exact hc j u hu
theorem bks_one (bs : List Bk) : ∀ u ∈ bksCells bs, u.oneCell' = true := by
  intro u hu
  simp only [bksCells, List.mem_flatMap, bkCells, List.mem_cons, List.not_mem_nil, or_false] at hu
  obtain ⟨b, _, h⟩ := hu
  rcases h with rfl | rfl | rfl | rfl <;> rfl
theorem ints_one (xs : List Int) : ∀ u ∈ xs.map (Value.int .i64), u.oneCell' = true := by
  intro u hu
  simp only [List.mem_map] at hu
  obtain ⟨b, _, rfl⟩ := hu
  rfl

/-- What the call itself owns can be read. -/
theorem Rd.own {w : World} {base : Nat} {e : TypeId} {size n : Nat} {v : Value} {xs : List Value} (h : w.ownsRow base e size v n xs) : Rd w e size v n xs := by
  refine ⟨h.1, ?_⟩
  rcases h.2 with ⟨rfl, rfl⟩ | ⟨g, cap, cur, rfl, hb, hg, hn, hm, hs, ht⟩
  · exact ⟨none, 0, rfl, Nat.le_refl _, by simp [maxLen], fun _ => rfl, fun h => by omega⟩
  · refine ⟨_, cap, rfl, hn, hm, by simp, fun _ => ⟨g, 0, cur, (0, 0), rfl, hg, fun j u hu => ?_⟩⟩
    rw [← ht, List.getElem?_take] at hu
    split at hu
    · simpa using hu
    · cases hu
theorem Rd.form {w : World} {e : TypeId} {size n : Nat} {v : Value} {xs : List Value} (h : Rd w e size v n xs) : ∃ (A : Option Addr) (c : Nat), v = .slice A n c := by
  obtain ⟨_, A, c, hv, _⟩ := h
  exact ⟨A, c, hv⟩
theorem Rd.nil_ (w : World) (e : TypeId) (size : Nat) : Rd w e size (.slice none 0 0) 0 [] := ⟨by simp, none, 0, rfl, Nat.le_refl _, by simp [maxLen], fun _ => rfl, fun h => by omega⟩

/-- Block 'g' is just the cells 'cs' (of the element type 't'), and none of them is frozen. -/
def Cl (w : World) (g : Nat) (t : TypeId) (cs : Array Value) : Prop := w.heap[g]? = some (.cells cs t (0, 0))

section
variable {w w' : World} {g : Nat} {t : TypeId} {cs : Array Value}
theorem Cl.lt (h : Cl w g t cs) : g < w.heap.size := by
  rcases Nat.lt_or_ge g w.heap.size with hlt | hge
  · exact hlt
  · unfold Cl at h; rw [Array.getElem?_eq_none hge] at h; cases h
theorem Cl.cell (h : Cl w g t cs) (i : Nat) : w.cell? ⟨g, i, none⟩ = cs[i]? := cell_of_row w g i cs t (0, 0) h
theorem Cl.free (h : Cl w g t cs) (i : Nat) : w.frozen? ⟨g, i, none⟩ = false := by
  unfold Cl at h
  simp [World.frozen?, h]
theorem Cl.new (w : World) (t : TypeId) (cs : Array Value) : Cl (w.alloc (.cells cs t)) w.heap.size t cs := heap_alloc_new w _
theorem Cl.new_ (w : World) (t : TypeId) (cs : Array Value) (g : Nat) (h : g = w.heap.size) : Cl (w.alloc (.cells cs t)) g t cs := by subst h; exact heap_alloc_new w _
theorem Cl.drew (h : Cl w g t cs) : Cl w.drew g t cs := h
theorem Cl.drewN (h : Cl w g t cs) (n : Nat) : Cl (w.drewN n) g t cs := h
theorem Cl.alloc (h : Cl w g t cs) (o : Obj) : Cl (w.alloc o) g t cs := (Below.heap_alloc w o g h.lt).trans h
theorem Cl.set_ (h : Cl w g t cs) (i : Nat) (u : Value) : Cl (w.setCell ⟨g, i, none⟩ u) g t (cs.setIfInBounds i u) := by
  unfold Cl at h ⊢
  simp [World.setCell, Array.getElem?_modify, h]
theorem Cl.far (h : Cl w g t cs) {p : Addr} (hp : g ≠ p.block) (u : Value) : Cl (w.setCell p u) g t cs := (Below.heap_setCell w p u g hp).trans h
theorem Cl.below {B : Nat} (h : Cl w g t cs) (hb : Below B w w') (hg : g < B) : Cl w' g t cs := (hb.block g hg).trans h
theorem Cl.grown {row : Option Nat} (h : Cl w g t cs) (hb : w.grownBy w' row) (hg : some g ≠ row) : Cl w' g t cs := (hb.block g h.lt hg).trans h
end

/-- Four cells of a block, as the walk asks for them: each can be read, none is frozen. -/
def Has4 (w : World) (g : Nat) (v0 v1 v2 v3 : Value) : Prop :=
  (w.cell? ⟨g, 0, none⟩ = some v0 ∧ w.cell? ⟨g, 1, none⟩ = some v1 ∧ w.cell? ⟨g, 2, none⟩ = some v2 ∧ w.cell? ⟨g, 3, none⟩ = some v3) ∧
  (w.frozen? ⟨g, 0, none⟩ = false ∧ w.frozen? ⟨g, 1, none⟩ = false ∧ w.frozen? ⟨g, 2, none⟩ = false ∧ w.frozen? ⟨g, 3, none⟩ = false)
theorem Cl.has4 {w : World} {g : Nat} {t : TypeId} {v0 v1 v2 v3 : Value} (h : Cl w g t #[v0, v1, v2, v3]) : Has4 w g v0 v1 v2 v3 :=
  ⟨⟨h.cell 0, h.cell 1, h.cell 2, h.cell 3⟩, ⟨h.free 0, h.free 1, h.free 2, h.free 3⟩⟩
theorem Cl.set4 {w : World} {g : Nat} {t : TypeId} {v0 v1 v2 v3 : Value} (h : Cl w g t #[v0, v1, v2, v3]) (u0 u1 u2 u3 : Value) :
    Cl ((((w.setCell ⟨g, 0, none⟩ u0).setCell ⟨g, 1, none⟩ u1).setCell ⟨g, 2, none⟩ u2).setCell ⟨g, 3, none⟩ u3) g t #[u0, u1, u2, u3] :=
  (((h.set_ 0 u0).set_ 1 u1).set_ 2 u2).set_ 3 u3

/-- Two blocks are compared field by field. -/
def bkEq (l c k g l' c' k' g' : Int) : Bool := l == l' && (c == c' && (k == k' && g == g'))
theorem bkEq_iff (x y : Bk) : bkEq x.line x.cls x.kind x.gen y.line y.cls y.kind y.gen = true ↔ x = y := by
  obtain ⟨a, b, c, d⟩ := x
  obtain ⟨a', b', c', d'⟩ := y
  simp [bkEq, Bk.line, Bk.cls, Bk.kind, Bk.gen]

theorem run_equalIn_blk (w : World) (l c k g l' c' k' g' : Int) :
    (Op.equalIn 10000 53 (.agg #[.int .i64 l, .int .i64 c, .int .i64 k, .int .i64 g]) (.agg #[.int .i64 l', .int .i64 c', .int .i64 k', .int .i64 g'])).run Tryd.prog w = .ok (bkEq l c k g l' c' k' g') w := by
  have hu : Tryd.prog.underlying 53 = some (.struct (Tryd.prog.fieldsOf 53)) := by kernel_rfl
  have hs : Tryd.prog.stoodInHeld 53 = false := by kernel_rfl
  rw [run_equalIn_struct w 9999 _ _ _ hu hs]
  clear hu hs
  simp only [Program.fieldsOf, Tryd.underlying53]
  go_simp
  by_cases h0 : l = l' <;> by_cases h1 : c = c' <;> by_cases h2 : k = k' <;> by_cases h3 : g = g' <;> simp [bkEq, *]

theorem run_eql_blk (w : World) (l c k g l' c' k' g' : Int) :
    (binOp .eql 53 (.agg #[.int .i64 l, .int .i64 c, .int .i64 k, .int .i64 g]) (.agg #[.int .i64 l', .int .i64 c', .int .i64 k', .int .i64 g'])).run Tryd.prog w = .ok (.bool (bkEq l c k g l' c' k' g')) w := by
  rw [run_eql_struct, run_equalIn_blk]; rfl
theorem run_neq_blk (w : World) (l c k g l' c' k' g' : Int) :
    (binOp .neq 53 (.agg #[.int .i64 l, .int .i64 c, .int .i64 k, .int .i64 g]) (.agg #[.int .i64 l', .int .i64 c', .int .i64 k', .int .i64 g'])).run Tryd.prog w = .ok (.bool (!bkEq l c k g l' c' k' g')) w := by
  rw [run_neq_struct, run_equalIn_blk]; rfl
attribute [go_sem high] run_eql_blk run_neq_blk

end Go.Proofs.YtcoeoggoaiebeaaDoor

namespace Go.Proofs.YtcoeoggoaiebeaaDoor
open Go.RowKit

set_option maxHeartbeats 400000 in
theorem power_calls (w : World) (n : Nat) (hn : n ≤ 4) :
    Calls Tryd.prog 61 #[.int .i64 n] w fun e w' => e = .returned (.int .i64 ((2 ^ n : Nat) : Int)) ∧ w = w' := by
  go_enter Tryd.func61, Tryd.ntmps61
  go_wp2
  go_loop [3, 4] (fun p i => ∃ k : Nat, k ≤ n ∧ i = .int .i64 k ∧ p = .int .i64 ((2 ^ k : Nat) : Int)) (fun _ i => n - (intOf i).toNat)
  case atStart => exact ⟨0, Nat.zero_le _, rfl, rfl⟩
  case round =>
    obtain ⟨k, hk, rfl, rfl⟩ := hrel
    by_cases hlt : k < n
    · have hp : (2 ^ k : Nat) ≤ 16 := Nat.le_trans (Nat.pow_le_pow_right (by omega) (show k ≤ 4 by omega)) (by decide)
      have hS := Lib.hid (Nat.pow_succ 2 k)
      generalize 2 ^ k = z at *
      go_wp2
      go_round
      case rel => exact ⟨k + 1, by omega, by go_num, by rw [hS.out]; go_num⟩
      case measure => simp [intOf]; omega
    · obtain rfl : k = n := by omega
      go_wp2
      go_ret
      exact ⟨rfl, rfl⟩

set_option maxHeartbeats 400000 in
theorem rlines_calls (w : World) (n : Nat) (hn : n ≤ 4) :
    Calls Tryd.prog 34 #[.int .i64 n] w fun e w' => e = .returned (.int .i64 ((2 ^ n : Nat) : Int)) ∧ w = w' := by
  go_enter Tryd.func34, Tryd.ntmps34
  go_wp2_with (go_at_call 61; refine (power_calls _ n hn).mono ?_; rintro e w' ⟨rfl, rfl⟩)
  go_ret
  exact ⟨rfl, rfl⟩
end Go.Proofs.YtcoeoggoaiebeaaDoor

namespace Go.Proofs.YtcoeoggoaiebeaaDoor
open Go.RowKit

def IdxPost (w : World) (yes : Prop) (e : Ending) (w' : World) : Prop := ∃ r : Int, -1 ≤ r ∧ r ≤ 1000000 ∧ (0 ≤ r ↔ yes) ∧ e = .returned (.int .i64 r) ∧ Below w.heap.size w w'

end Go.Proofs.YtcoeoggoaiebeaaDoor
