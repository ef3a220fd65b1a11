/-
  slices: IndexFunc and DeleteFunc at blocks, by the predicate of class.Free.
-/
import Derived.Test.YtcoeoggoaiebeaaDoorStable
import Derived.Lib.SliceRun
namespace Go.Proofs.YtcoeoggoaiebeaaDoor
open Go.RowKit
set_option linter.unusedSimpArgs false
set_option linter.unusedVariables false

/-- A free block of a class. -/
def frB (c : Int) (x : Bk) : Bool := freeB x.cls x.kind c

set_option maxRecDepth 100000 in
set_option maxHeartbeats 1000000 in
theorem del_calls (w : World) (gc : Nat) (c : Int) (x : Bk) (hc : w.cell? ⟨gc, 0, none⟩ = some (.int .i64 c)) :
    Calls Tryd.prog 43 #[.agg #[.int .i64 (Bk.line x), .int .i64 (Bk.cls x), .int .i64 (Bk.kind x), .int .i64 (Bk.gen x)], .pointer (some ⟨gc, 0, none⟩)] w fun e w' => e = .returned (.bool (!frB c x)) ∧ Below w.heap.size w w' := by
  have hg : gc < w.heap.size := World.block_lt_of_cell? w _ hc
  by_cases h1 : x.cls = c
  · have b1 : (x.cls != c) = false := by simp [h1]
    by_cases h2 : x.kind = 0
    · have b2 : (x.kind != 0) = false := by simp [h2]
      have HR : Hid ((!frB c x) = false) := by show _ = _; simp [frB, freeB, h1, h2]
      clear h1 h2
      go_enter Tryd.func43, Tryd.ntmps43
      go_wp2_with fail
      go_ret
      exact ⟨by rw [HR.out]; rfl, by (repeat (first | with_reducible exact Below.refl _ _ | with_reducible assumption | with_reducible refine below_drewN ?_ _ | with_reducible refine Below.drew ?_ | with_reducible refine Below.alloc ?_ (by first | omega | (simp; omega) | simp) _ | with_reducible refine Below.setCell ?_ (by first | omega | (simp; omega) | simp) _))⟩
    · have b2 : (x.kind != 0) = true := by simp [h2]
      have HR : Hid ((!frB c x) = true) := by show _ = _; simp [frB, freeB, h2]
      clear h1 h2
      go_enter Tryd.func43, Tryd.ntmps43
      go_wp2_with fail
      go_ret
      exact ⟨by rw [HR.out]; rfl, by (repeat (first | with_reducible exact Below.refl _ _ | with_reducible assumption | with_reducible refine below_drewN ?_ _ | with_reducible refine Below.drew ?_ | with_reducible refine Below.alloc ?_ (by first | omega | (simp; omega) | simp) _ | with_reducible refine Below.setCell ?_ (by first | omega | (simp; omega) | simp) _))⟩
  · have b1 : (x.cls != c) = true := by simp [h1]
    have HR : Hid ((!frB c x) = true) := by show _ = _; simp [frB, freeB, h1]
    clear h1
    go_enter Tryd.func43, Tryd.ntmps43
    go_wp2_with fail
    go_ret
    exact ⟨by rw [HR.out]; rfl, by (repeat (first | with_reducible exact Below.refl _ _ | with_reducible assumption | with_reducible refine below_drewN ?_ _ | with_reducible refine Below.drew ?_ | with_reducible refine Below.alloc ?_ (by first | omega | (simp; omega) | simp) _ | with_reducible refine Below.setCell ?_ (by first | omega | (simp; omega) | simp) _))⟩

theorem RowB.four {w : World} {g : Nat} {L : List Bk} (h : RowB w g L) {k : Nat} {x : Bk} (hx : Hid (L[k]? = some x)) :
    w.cell? ⟨g, k * 4, none⟩ = some (.int .i64 x.line) ∧ w.cell? ⟨g, k * 4 + 1, none⟩ = some (.int .i64 x.cls) ∧ w.cell? ⟨g, k * 4 + 2, none⟩ = some (.int .i64 x.kind) ∧ w.cell? ⟨g, k * 4 + 3, none⟩ = some (.int .i64 x.gen) := h.cells hx.out

def IdxDelRel (w : World) (L : List Bk) (p : Bk → Bool) (i : Value) (wr : World) : Prop := ∃ k : Nat, k ≤ L.length ∧ i = .int .i64 k ∧ (∀ j x, j < k → L[j]? = some x → p x = true) ∧ Below w.heap.size w wr
/-- Where the first element lies that is not wanted. -/
def IdxDel (w : World) (L : List Bk) (p : Bk → Bool) (e : Ending) (w' : World) : Prop :=
  Below w.heap.size w w' ∧ ((e = .returned (.int .i64 (-1)) ∧ ∀ x ∈ L, p x = true) ∨ ∃ (k : Nat) (x : Bk), e = .returned (.int .i64 (k : Int)) ∧ L[k]? = some x ∧ p x = false ∧ ∀ j y, j < k → L[j]? = some y → p y = true)

set_option maxRecDepth 100000 in
set_option maxHeartbeats 1000000 in
theorem index_calls (w : World) (g gc cp n : Nat) (c : Int) (L : List Bk) (hD : RowB w g L) (hn : Hid (L.length = n)) (hs : n ≤ 1000) (hc : w.cell? ⟨gc, 0, none⟩ = some (.int .i64 c)) :
    Calls Tryd.prog 69 #[.slice (some ⟨g, 0, none⟩) n cp, .func (.func 43) #[] #[.pointer (some ⟨gc, 0, none⟩)]] w (IdxDel w L (frB c)) := by
  have hg : gc < w.heap.size := World.block_lt_of_cell? w _ hc
  have hgl := hD.lt
  go_enter Tryd.func69, Tryd.ntmps69
  go_wp2_with fail
  go_loopw [5, 8] (fun _ i wr => IdxDelRel w L (frB c) i wr) (fun _ i _ => n - (intOf i).toNat)
  case atStart => exact ⟨0, Nat.zero_le _, rfl, fun j x hj => by omega, Below.refl _ _⟩
  case round =>
    obtain ⟨k, hk, rfl, hno, hb⟩ := hrel
    rw [hn.out] at hk
    have HNO := Lib.hid hno
    clear hno
    by_cases hlt : k < n
    · obtain ⟨x, hx⟩ : ∃ x, L[k]? = some x := ⟨_, List.getElem?_eq_getElem (by rw [hn.out]; exact hlt)⟩
      have HX := Lib.hid hx
      clear hx
      have hDk := hD.below hb hgl
      have hcw := (hb.cell (p := ⟨gc, 0, none⟩) hg).trans hc
      have hgk := hDk.lt
      obtain ⟨x0, x1, x2, x3⟩ := hDk.four HX
      cases hq : frB c x
      · go_wp2_with fail
        refine (del_calls _ gc c x hcw).mono ?_
        rintro e w1 ⟨rfl, hb1⟩
        rw [hq]
        have HQ := Lib.hid hq
        clear hq
        go_wp2_with fail
        go_ret
        exact ⟨hb.trans (hb1.mono hb.size), .inr ⟨k, x, rfl, HX.out, HQ.out, HNO.out⟩⟩
      · go_wp2_with fail
        refine (del_calls _ gc c x hcw).mono ?_
        rintro e w1 ⟨rfl, hb1⟩
        rw [hq]
        have HQ := Lib.hid hq
        clear hq
        go_wp2_with fail
        go_roundw
        case rel =>
          refine ⟨k + 1, by rw [hn.out]; omega, by go_num, fun j y hj hy => ?_, hb.trans (hb1.mono hb.size)⟩
          by_cases hjk : j < k
          · exact HNO.out j y hjk hy
          · obtain rfl : j = k := by omega
            have := HX.out
            rw [hy] at this
            injection this with this
            rw [this]
            exact HQ.out
        case measure => simp [intOf]; omega
    · have hkn : k = n := by omega
      have HE : Hid (∀ x ∈ L, frB c x = true) := fun x hx => by
        obtain ⟨j, hj, rfl⟩ := List.mem_iff_getElem.1 hx
        exact HNO.out j _ (by rw [hn.out] at hj; omega) (List.getElem?_eq_getElem hj)
      clear hkn
      go_wp2_with fail
      go_ret
      exact ⟨hb, .inl ⟨rfl, HE.out⟩⟩

/-- What is kept of the first 'j' elements lies in front; from 'j' on all is as it was. -/
def DelI (p : Bk → Bool) (L L' : List Bk) (i j : Nat) : Prop := L'.length = L.length ∧ L'.take i = (L.take j).filter p ∧ ∀ k, j ≤ k → L'[k]? = L[k]?
theorem DelI.drop {p : Bk → Bool} {L L' : List Bk} {i j : Nat} {x : Bk} (h : DelI p L L' i j) (hx : L[j]? = some x) (hp : p x = false) : DelI p L L' i (j + 1) := by
  refine ⟨h.1, ?_, fun k hk => h.2.2 k (by omega)⟩
  rw [h.2.1, List.take_add_one, hx, List.filter_append]
  simp [hp]
theorem DelI.keep {p : Bk → Bool} {L L' : List Bk} {i j : Nat} {x : Bk} (h : DelI p L L' i j) (hij : i < j) (hx : L[j]? = some x) (hp : p x = true) : DelI p L (L'.set i x) (i + 1) (j + 1) := by
  have hj : j < L.length := (List.getElem?_eq_some_iff.1 hx).1
  refine ⟨by rw [List.length_set]; exact h.1, ?_, fun k hk => by rw [List.getElem?_set_ne (by omega)]; exact h.2.2 k (by omega)⟩
  rw [List.take_add_one, List.getElem?_set_self (by rw [h.1]; omega), List.take_set_of_le (Nat.le_refl _), h.2.1, List.take_add_one, hx, List.filter_append]
  simp [hp]
theorem DelI.start {p : Bk → Bool} {L : List Bk} {k : Nat} {x : Bk} (hx : L[k]? = some x) (hp : p x = false) (h : ∀ j y, j < k → L[j]? = some y → p y = true) : DelI p L L k (k + 1) := by
  refine ⟨rfl, ?_, fun _ _ => rfl⟩
  rw [List.take_add_one, hx, List.filter_append]
  simp only [Option.toList_some, List.filter_cons, hp, List.filter_nil]
  have hk : k < L.length := (List.getElem?_eq_some_iff.1 hx).1
  have : (L.take k).filter p = L.take k := List.filter_eq_self.2 (fun y hy => by
    obtain ⟨j, hj, rfl⟩ := List.mem_iff_getElem.1 hy
    rw [List.length_take] at hj
    rw [List.getElem_take]
    exact h j _ (by omega) (List.getElem?_eq_getElem (by omega)))
  rw [this]
  simp
theorem DelI.done {p : Bk → Bool} {L L' : List Bk} {i : Nat} (h : DelI p L L' i L.length) : L'.take i = L.filter p := by
  rw [h.2.1, List.take_length]

theorem Cl.setCells {g : Nat} {t : TypeId} : ∀ (zs : List Value) (o : Nat) (w : World) (cur : Array Value), Cl w g t cur → ∃ cur', Cl (w.setCells g o zs) g t cur' ∧ ∀ k, k < o → cur'[k]? = cur[k]?
  | [], o, w, cur, h => ⟨cur, h, fun _ _ => rfl⟩
  | z :: zs, o, w, cur, h => by
    obtain ⟨cur', h1, h2⟩ := Cl.setCells zs (o + 1) _ _ (h.set_ o z)
    exact ⟨cur', h1, fun k hk => by rw [h2 k (by omega), Array.getElem?_setIfInBounds_ne (by omega)]⟩
theorem RowB.cleared {w : World} {g i : Nat} {L : List Bk} (h : RowB w g L) (zs : List Value) : RowB (w.setCells g (i * 4) zs) g (L.take i) := by
  obtain ⟨cur, hc, hx⟩ := h
  obtain ⟨cur', h1, h2⟩ := Cl.setCells zs (i * 4) w cur hc
  refine ⟨cur', h1, fun k x hk => ?_⟩
  rw [List.getElem?_take] at hk
  split at hk
  · obtain ⟨a, b, c, d⟩ := hx k x hk
    exact ⟨(h2 _ (by omega)).trans a, (h2 _ (by omega)).trans b, (h2 _ (by omega)).trans c, (h2 _ (by omega)).trans d⟩
  · cases hk
theorem below_setCells {B g : Nat} {a : World} (hb : B ≤ g) : ∀ (vs : List Value) (o : Nat) (w : World), Below B a w → Below B a (w.setCells g o vs)
  | [], _, _, h => h
  | v :: vs, o, w, h => below_setCells hb vs (o + 1) _ (h.setCell hb v)

theorem run_clear_blk (w : World) (ty : TypeId) (b o n c : Nat) (hn : 0 < n) (hc : ∀ j, j < n * 4 → (w.cell? ⟨b, o + j, none⟩).isSome = true) (hf : ∀ j, j < n * 4 → w.frozen? ⟨b, o + j, none⟩ = false) :
    (Builtin.clear_ #[43] ty #[.slice (some ⟨b, o, none⟩) n c]).run Tryd.prog w = .ok (.tuple #[]) (w.setCells b o (Builtin.zeroCells (.agg #[.int .i64 0, .int .i64 0, .int .i64 0, .int .i64 0] : Value).cells n).toList) := by
  have hlen : (Builtin.zeroCells (.agg #[.int .i64 0, .int .i64 0, .int .i64 0, .int .i64 0] : Value).cells n).toList.length = n * 4 := by simp [Builtin.zeroCells, Value.cells]
  have h1 : ∀ v ∈ (Builtin.zeroCells (.agg #[.int .i64 0, .int .i64 0, .int .i64 0, .int .i64 0] : Value).cells n).toList, v.oneCell' = true := by
    intro v hv
    simp only [Builtin.zeroCells, Array.toList_map, List.mem_map] at hv
    obtain ⟨i, _, rfl⟩ := hv
    have h4 : i % 4 < 4 := Nat.mod_lt _ (by omega)
    show ((#[.int .i64 0, .int .i64 0, .int .i64 0, .int .i64 0] : Array Value)[i % 4]!).oneCell' = true
    generalize i % 4 = r at h4
    match r, h4 with
    | 0, _ => rfl
    | 1, _ => rfl
    | 2, _ => rfl
    | 3, _ => rfl
  have hst := run_storeCells_cells (P := Tryd.prog) b o (Builtin.zeroCells (.agg #[.int .i64 0, .int .i64 0, .int .i64 0, .int .i64 0] : Value).cells n).toList 0 w (by rw [hlen]; simpa using hc) (by rw [hlen]; simpa using hf) h1
  simp only [Nat.add_zero] at hst
  have hv : ∀ w, (zeroValue 53).run Tryd.prog w = .ok (.agg #[.int .i64 0, .int .i64 0, .int .i64 0, .int .i64 0]) w := Tryd.zeroValue53
  obtain ⟨m, rfl⟩ : ∃ m, n = m + 1 := ⟨n - 1, by omega⟩
  simp [Builtin.clear_, run_underlying Tryd.underlying43, hv, hst]

def DelRel (w : World) (g : Nat) (L : List Bk) (p : Bk → Bool) (iv jv : Value) (wr : World) : Prop :=
  ∃ (i j : Nat) (L' : List Bk), iv = .int .i64 i ∧ jv = .int .i64 j ∧ i < j ∧ j ≤ L.length ∧ RowB wr g L' ∧ DelI p L L' i j ∧ Below g w wr
/-- What is left of a row. -/
def DelPost (w : World) (g cp : Nat) (M : List Bk) (e : Ending) (w' : World) : Prop := e = .returned (.slice (some ⟨g, 0, none⟩) M.length cp) ∧ RowB w' g M ∧ Below g w w'

set_option maxRecDepth 100000 in
set_option maxHeartbeats 2000000 in
theorem delete_calls (w : World) (g gc cp n : Nat) (c : Int) (L : List Bk) (hD : RowB w g L) (hn : Hid (L.length = n)) (hs : n ≤ 1000) (hcp : n ≤ cp) (hcm : cp ≤ maxLen) (hc : w.cell? ⟨gc, 0, none⟩ = some (.int .i64 c)) (hgc : gc < g) :
    Calls Tryd.prog 41 #[.slice (some ⟨g, 0, none⟩) n cp, .func (.func 43) #[] #[.pointer (some ⟨gc, 0, none⟩)]] w (DelPost w g cp (L.filter (frB c))) := by
  have hgl := hD.lt
  have hmx : cp ≤ 9223372036854775807 := by unfold maxLen at hcm; omega
  go_enter Tryd.func41, Tryd.ntmps41
  go_wp2_with fail
  refine (index_calls _ g gc cp n c L hD hn hs hc).mono ?_
  rintro e w1 ⟨hb1, ⟨rfl, hall⟩ | ⟨k, x, rfl, hx, hp, hbefore⟩⟩
  · have HE : Hid (L.filter (frB c) = L) := List.filter_eq_self.2 hall
    clear hall
    go_wp2_with fail
    go_ret
    exact ⟨by rw [HE.out, hn.out]; rfl, by rw [HE.out]; exact hD.below hb1 hgl, hb1.mono (Nat.le_of_lt hgl)⟩
  · have hkn : k < n := by rw [← hn.out]; exact (List.getElem?_eq_some_iff.1 hx).1
    have HI := Lib.hid (DelI.start hx hp hbefore)
    have hD1 := hD.below hb1 hgl
    have hB1 : Below g w w1 := hb1.mono (Nat.le_of_lt hgl)
    have hc1 := (hb1.cell (p := ⟨gc, 0, none⟩) (Nat.lt_trans hgc hgl)).trans hc
    have b1 : ((k : Int) == -1) = false := by simp
    clear hx hp hbefore hb1
    obtain ⟨j0, hj0⟩ : ∃ j0 : Nat, k + 1 = j0 := ⟨_, rfl⟩
    have hje : (k : Int) + 1 = (j0 : Int) := by omega
    have HJ := Lib.hid hj0
    clear hj0
    go_wp2_with fail
    go_loopw [5, 6, 7] (fun i j _ wr => DelRel w g L (frB c) i j wr) (fun _ j _ _ => n - (intOf j).toNat)
    case atStart => exact ⟨k, j0, L, rfl, rfl, by have := HJ.out; omega, by have := HJ.out; rw [hn.out]; omega, hD1, by rw [← HJ.out]; exact HI.out, hB1⟩
    case round =>
      clear hD1 hB1 HI hc1 hje HJ
      obtain ⟨i, j, L', rfl, rfl, hij, hjl, hDj, hI, hbl⟩ := hrel
      rw [hn.out] at hjl
      have HI := Lib.hid hI
      have hL' : L'.length = n := hI.1.trans hn.out
      have HL' := Lib.hid hL'
      clear hI hL'
      have hgl2 := hDj.lt
      have hcj := (hbl.cell (p := ⟨gc, 0, none⟩) hgc).trans hc
      have hgc2 : gc < wr.heap.size := by omega
      by_cases hlt : j < n
      · obtain ⟨x, hx⟩ : ∃ x, L[j]? = some x := ⟨_, List.getElem?_eq_getElem (by rw [hn.out]; exact hlt)⟩
        have HX := Lib.hid hx
        have HX' : Hid (L'[j]? = some x) := (HI.out.2.2 j (Nat.le_refl _)).trans hx
        clear hx
        obtain ⟨x0, x1, x2, x3⟩ := hDj.four HX'
        obtain ⟨w3, hw3⟩ : ∃ y : World, y = wr := ⟨_, rfl⟩
        subst hw3
        obtain ⟨j1, hj1⟩ : ∃ j1 : Nat, j + 1 = j1 := ⟨_, rfl⟩
        have hj1e : (j : Int) + 1 = (j1 : Int) := by omega
        have hj1n : j1 ≤ n := by omega
        have hjj : j < j1 := by omega
        have HJ1 := Lib.hid hj1
        clear hj1
        go_wp2_with fail
        refine (del_calls _ gc c x (Lib.cell?_alloc_some _ hcj)).mono ?_
        rintro e w4 ⟨rfl, hb4⟩
        have hBx := (Cl.new w3 53 #[.int .i64 (Bk.line x), .int .i64 (Bk.cls x), .int .i64 (Bk.kind x), .int .i64 (Bk.gen x)]).below hb4 (by simp)
        have hD4 := (hDj.alloc (.cells #[.int .i64 (Bk.line x), .int .i64 (Bk.cls x), .int .i64 (Bk.kind x), .int .i64 (Bk.gen x)] 53)).below hb4 (by simp; omega)
        have hB4 : Below g w w4 := Below.trans (by (repeat (first | with_reducible exact Below.refl _ _ | with_reducible assumption | with_reducible refine below_drewN ?_ _ | with_reducible refine Below.drew ?_ | with_reducible refine Below.alloc ?_ (by first | omega | (simp; omega) | simp) _ | with_reducible refine Below.setCell ?_ (by first | omega | (simp; omega) | simp) _))) (hb4.mono (by simp; omega))
        clear hb4 hDj hbl x0 x1 x2 x3 hcj
        cases hq : frB c x
        · have HI2 : Hid (DelI (frB c) L L' i j1) := by show DelI (frB c) L L' i j1; rw [← HJ1.out]; exact HI.out.drop HX.out hq
          clear hq
          go_wp2_with fail
          go_roundw
          case rel => exact ⟨i, j1, L', rfl, rfl, by omega, by rw [hn.out]; exact hj1n, hD4, HI2.out, hB4⟩
          case measure => simp [intOf]; omega
        · obtain ⟨i1, hi1⟩ : ∃ i1 : Nat, i + 1 = i1 := ⟨_, rfl⟩
          have hi1e : (i : Int) + 1 = (i1 : Int) := by omega
          have HI1 := Lib.hid hi1
          have hii : i1 < j1 := by have := HJ1.out; omega
          clear hi1
          have HI2 : Hid (DelI (frB c) L (L'.set i x) i1 j1) := by show DelI (frB c) L (L'.set i x) i1 j1; rw [← HJ1.out, ← HI1.out]; exact HI.out.keep hij HX.out hq
          have hin : i < n := by omega
          have HF := Lib.hid (hD4.put (k := i) (by rw [HL'.out]; exact hin) x)
          have hg4 := hD4.lt
          have hl4 := hBx.lt
          obtain ⟨⟨y0, y1, y2, y3⟩, -⟩ := hBx.has4
          obtain ⟨z, hz⟩ : ∃ z, L'[i]? = some z := ⟨_, List.getElem?_eq_getElem (by rw [HL'.out]; exact hin)⟩
          obtain ⟨z0, z1, z2, z3⟩ := hD4.cells hz
          have f0 := hD4.free (i * 4)
          have f1 := hD4.free (i * 4 + 1)
          have f2 := hD4.free (i * 4 + 2)
          have f3 := hD4.free (i * 4 + 3)
          clear hq hz
          go_wp2_with fail
          go_roundw
          case rel => exact ⟨i1, j1, L'.set i x, rfl, rfl, hii, by rw [hn.out]; exact hj1n, HF.out, HI2.out, by (repeat (first | with_reducible exact Below.refl _ _ | with_reducible assumption | with_reducible refine below_drewN ?_ _ | with_reducible refine Below.drew ?_ | with_reducible refine Below.alloc ?_ (by first | omega | (simp; omega) | simp) _ | with_reducible refine Below.setCell ?_ (by first | omega | (simp; omega) | simp) _))⟩
          case measure => simp [intOf]; omega
      · have hjn : j = n := by omega
        have HD : Hid (L'.take i = L.filter (frB c)) := by
          have h1 := HI.out
          rw [hjn, ← hn.out] at h1
          exact h1.done
        have hin : i < n := by omega
        have HLI : Hid ((L.filter (frB c)).length = i) := by
          show _ = _
          rw [← HD.out, List.length_take, HL'.out]
          omega
        obtain ⟨r, hr⟩ : ∃ r : Nat, n - i = r := ⟨_, rfl⟩
        have hr0 : 0 < r := by omega
        have HR := Lib.hid hr
        have hclr := fun ty c' => run_clear_blk wr ty g (i * 4) r c' hr0 (fun j' hj' => by
          have h1 : (i * 4 + j') / 4 < L'.length := by rw [HL'.out]; omega
          obtain ⟨a1, a2, a3, a4⟩ := hDj.cells (List.getElem?_eq_getElem h1)
          have h4 : (i * 4 + j') = (i * 4 + j') / 4 * 4 + (i * 4 + j') % 4 := by omega
          have h5 : (i * 4 + j') % 4 < 4 := Nat.mod_lt _ (by omega)
          rw [h4]
          generalize (i * 4 + j') % 4 = m at h5
          match m, h5 with
          | 0, _ => exact (Option.isSome_iff_exists.2 ⟨_, a1⟩)
          | 1, _ => exact (Option.isSome_iff_exists.2 ⟨_, a2⟩)
          | 2, _ => exact (Option.isSome_iff_exists.2 ⟨_, a3⟩)
          | 3, _ => exact (Option.isSome_iff_exists.2 ⟨_, a4⟩)) (fun j' _ => hDj.free _)
        have hre : n - i = r := hr
        clear hjn hr
        go_wp2_with fail
        go_ret
        exact ⟨by rw [HLI.out]; rfl, by rw [← HD.out]; exact hDj.cleared _, below_setCells (Nat.le_refl _) _ _ _ hbl⟩

/-! ### No element -/
set_option maxHeartbeats 400000 in
theorem index0 (w : World) (A : Option Addr) (cp : Nat) (fv : Value) : Calls Tryd.prog 69 #[.slice A 0 cp, fv] w fun e w' => e = .returned (.int .i64 (-1)) ∧ w = w' := by
  go_enter Tryd.func69, Tryd.ntmps69
  go_wp2_with fail
  refine wp_loop_rounds 1 ?_
  rw [rounds_succ]
  go_wp2_with fail
  go_ret
  exact ⟨rfl, rfl⟩
set_option maxHeartbeats 400000 in
theorem delete0 (w : World) (A : Option Addr) (cp : Nat) (fv : Value) : Calls Tryd.prog 41 #[.slice A 0 cp, fv] w fun e w' => e = .returned (.slice A 0 cp) ∧ w = w' := by
  go_enter Tryd.func41, Tryd.ntmps41
  go_wp2_with fail
  refine (index0 _ A cp fv).mono ?_
  rintro e w1 ⟨rfl, rfl⟩
  go_wp2_with fail
  go_ret
  exact ⟨rfl, rfl⟩
end Go.Proofs.YtcoeoggoaiebeaaDoor
