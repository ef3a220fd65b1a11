/-
  slices: symMergeCmpFunc at blocks, by the order of class.Free.
-/
import Derived.Test.YtcoeoggoaiebeaaDoorSortB
namespace Go.Proofs.YtcoeoggoaiebeaaDoor
open Go.RowKit
open Go.Sort (swp PermIn SortedIn SWO swp_permIn permIn_refl permIn_trans permIn_mono permIn_all)
set_option linter.unusedSimpArgs false
set_option linter.unusedVariables false

theorem half_wrap (x : Nat) (h : x ≤ 100000) : IntKind.i64.wrap ((x : Int)) = (x : Int) := IntWalk.i64_in _ (by omega)
def MergeOk (a b : Nat) (d d' : Array Bk) : Prop := PermIn a b d d' ∧ SortedIn ltB a b d'

/-! ### One element on the left -/
def SymARel (w : World) (g a b : Nat) (d : Array Bk) (iv jv : Value) (wr : World) : Prop :=
  ∃ i j : Nat, iv = .int .i64 i ∧ jv = .int .i64 j ∧ SearchA ltB a (a + 1) b i j d ∧ Dat wr g d ∧ Below g w wr
def BubRel (w : World) (g a b i : Nat) (d : Array Bk) (kv : Value) (wr : World) : Prop :=
  ∃ (k : Nat) (d' : Array Bk), kv = .int .i64 k ∧ a ≤ k ∧ k + 1 ≤ i ∧ Bub a k d d' ∧ PermIn a b d d' ∧ Dat wr g d' ∧ Below g w wr

set_option maxRecDepth 100000 in
set_option maxHeartbeats 2000000 in
theorem symA_calls (w : World) (g a m b c : Nat) (d : Array Bk) (hD : Dat w g d) (ham : a + 1 = m) (hmb : m < b) (hb : b ≤ d.size) (hs : d.size ≤ 1000) (h2 : SortedIn ltB m b d) :
    Calls Tryd.prog 86 #[.slice (some ⟨g, 0, none⟩) d.size c, .int .i64 (a : Int), .int .i64 (m : Int), .int .i64 (b : Int), .func (.func 45) #[] #[]] w (RowPost w g (MergeOk a b d)) := by
  have e1 : (m : Int) - (a : Int) = 1 := by omega
  have H2 : Hid (SortedIn ltB (a + 1) b d) := by show SortedIn ltB (a + 1) b d; rw [ham]; exact h2
  have HAM := Lib.hid ham
  have ham' : a < m := by omega
  have hma : m ≤ a + 1 := by omega
  clear ham h2
  go_enter Tryd.func86, Tryd.ntmps86
  go_wp2_with fail
  go_loopw [10, 11, 12] (fun i j _ wr => SymARel w g a b d i j wr) (fun i j _ _ => (intOf j).toNat - (intOf i).toNat)
  case atStart => exact ⟨m, b, rfl, rfl, by rw [HAM.out]; exact SearchA.start d (by omega), hD, Below.refl _ _⟩
  case round =>
    clear hD
    obtain ⟨i, j, rfl, rfl, hA, hD, hbl⟩ := hrel
    have hi1 : a + 1 ≤ i := hA.1
    have hi2 : i ≤ j := hA.2.1
    have hi3 : j ≤ b := hA.2.2.1
    have HA := Lib.hid hA
    clear hA
    have hgl := hD.lt
    obtain ⟨w3, hw3⟩ : ∃ x : World, x = wr := ⟨_, rfl⟩
    subst hw3
    by_cases hlt : i < j
    · obtain ⟨h, hh⟩ : ∃ h : Nat, (i + j) / 2 = h := ⟨_, rfl⟩
      have hhe : ((i : Int) + (j : Int)) / 2 = (h : Int) := by omega
      have hh1 : i ≤ h := by omega
      have hh2 : h < j := by omega
      have hhz : h < d.size := by omega
      have haz : a < d.size := by omega
      clear hh
      obtain ⟨x, hx⟩ : ∃ x : Bk, d[h]! = x := ⟨_, rfl⟩
      obtain ⟨y, hy⟩ : ∃ y : Bk, d[a]! = y := ⟨_, rfl⟩
      have HX := Lib.hid hx
      have HY := Lib.hid hy
      clear hx hy
      obtain ⟨x0, x1, x2, x3⟩ := hD.at_ (k := h) (by omega) HX
      obtain ⟨y0, y1, y2, y3⟩ := hD.at_ (k := a) (by omega) HY
      have hpz : h < d.size := by omega
      have hqz : a < d.size := by omega
      obtain ⟨v, hv⟩ : ∃ v, cmpB x y = v := ⟨_, rfl⟩
      have HV := Lib.hid hv
      have HL : Hid (decide (v < 0) = ltB d[h]! d[a]!) := by show _ = _; rw [← hv, HX.out, HY.out]; exact cmpB_lt _ _
      clear hv
      by_cases hv0 : v < 0
      · have HA2 : Hid (SearchA ltB a (a + 1) b (h + 1) j d) := SearchA.hi swoB HA.out H2.out hh1 hh2 (by rw [← HL.out]; exact decide_eq_true hv0)
        have hdv : decide (v < 0) = true := decide_eq_true hv0
        go_wp2_with fail
        go_region_held3 (fun w' => w'.cell? ⟨g, h * 4, none⟩ = some (.int .i64 x.line) ∧ w'.cell? ⟨g, h * 4 + 1, none⟩ = some (.int .i64 x.cls) ∧ w'.cell? ⟨g, h * 4 + 2, none⟩ = some (.int .i64 x.kind) ∧ w'.cell? ⟨g, h * 4 + 3, none⟩ = some (.int .i64 x.gen) ∧ w'.cell? ⟨g, a * 4, none⟩ = some (.int .i64 y.line) ∧ w'.cell? ⟨g, a * 4 + 1, none⟩ = some (.int .i64 y.cls) ∧ w'.cell? ⟨g, a * 4 + 2, none⟩ = some (.int .i64 y.kind) ∧ w'.cell? ⟨g, a * 4 + 3, none⟩ = some (.int .i64 y.gen)) (go_keep)
          (first
            | (go_at_call 45; refine (cmp_calls _ x y).mono ?_; rintro e wa ⟨rfl, ba0⟩; rw [HV.out]; (have ba : Below w3.heap.size w3 wa := (by first | exact below_of_drew ba0 | exact ba0)); (have dA := Dat.below hD ba hgl); (have qa := Dat.at_ dA hpz HX); (have qb := Dat.at_ dA hqz HY)))
        have hBa : Below g w wa := hbl.trans (ba.mono (Nat.le_of_lt hgl))
        clear x0 x1 x2 x3 y0 y1 y2 y3 qa qb ba hbl hD
        go_wp2_with fail
        go_roundw
        case rel => exact ⟨h + 1, j, by go_num, rfl, HA2.out, dA, by (repeat (first | with_reducible exact Below.refl _ _ | with_reducible assumption | with_reducible refine below_drewN ?_ _ | with_reducible refine Below.drew ?_ | with_reducible refine Below.alloc ?_ (by first | omega | (simp; omega) | simp) _ | with_reducible refine Below.setCell ?_ (by first | omega | (simp; omega) | simp) _))⟩
        case measure => simp [intOf]; omega
      · have HA2 : Hid (SearchA ltB a (a + 1) b i h d) := SearchA.lo swoB HA.out H2.out hh1 hh2 (by rw [← HL.out]; exact decide_eq_false hv0)
        have hdv : decide (v < 0) = false := decide_eq_false hv0
        go_wp2_with fail
        go_region_held3 (fun w' => w'.cell? ⟨g, h * 4, none⟩ = some (.int .i64 x.line) ∧ w'.cell? ⟨g, h * 4 + 1, none⟩ = some (.int .i64 x.cls) ∧ w'.cell? ⟨g, h * 4 + 2, none⟩ = some (.int .i64 x.kind) ∧ w'.cell? ⟨g, h * 4 + 3, none⟩ = some (.int .i64 x.gen) ∧ w'.cell? ⟨g, a * 4, none⟩ = some (.int .i64 y.line) ∧ w'.cell? ⟨g, a * 4 + 1, none⟩ = some (.int .i64 y.cls) ∧ w'.cell? ⟨g, a * 4 + 2, none⟩ = some (.int .i64 y.kind) ∧ w'.cell? ⟨g, a * 4 + 3, none⟩ = some (.int .i64 y.gen)) (go_keep)
          (first
            | (go_at_call 45; refine (cmp_calls _ x y).mono ?_; rintro e wa ⟨rfl, ba0⟩; rw [HV.out]; (have ba : Below w3.heap.size w3 wa := (by first | exact below_of_drew ba0 | exact ba0)); (have dA := Dat.below hD ba hgl); (have qa := Dat.at_ dA hpz HX); (have qb := Dat.at_ dA hqz HY)))
        have hBa : Below g w wa := hbl.trans (ba.mono (Nat.le_of_lt hgl))
        clear x0 x1 x2 x3 y0 y1 y2 y3 qa qb ba hbl hD
        go_wp2_with fail
        go_roundw
        case rel => exact ⟨i, h, rfl, rfl, HA2.out, dA, by (repeat (first | with_reducible exact Below.refl _ _ | with_reducible assumption | with_reducible refine below_drewN ?_ _ | with_reducible refine Below.drew ?_ | with_reducible refine Below.alloc ?_ (by first | omega | (simp; omega) | simp) _ | with_reducible refine Below.setCell ?_ (by first | omega | (simp; omega) | simp) _))⟩
        case measure => simp [intOf]; omega
    · obtain rfl : i = j := by omega
      obtain ⟨q, hq⟩ : ∃ q : Nat, i = q + 1 := ⟨i - 1, by omega⟩
      have hqe : (i : Int) - 1 = (q : Int) := by omega
      have hqw : IntKind.i64.wrap (q : Int) = (q : Int) := IntWalk.i64_in _ (by omega)
      have HQ := Lib.hid hq
      have hqi : q < i := by omega
      have haq : a ≤ q := by omega
      clear hq
      go_wp2_with fail
      go_loopw [13] (fun k wr => BubRel w g a b i d k wr) (fun k _ => i - (intOf k).toNat)
      case atStart => exact ⟨a, d, rfl, by omega, by omega, Bub.zero a d, permIn_refl _ _ _, hD, hbl⟩
      case round =>
        clear hD hbl
        obtain ⟨k, d', rfl, hk1, hk2, hB, hP, hD, hbl⟩ := hrel
        have HB := Lib.hid hB
        have HP := Lib.hid hP
        have HSZ := Lib.hid hB.1
        clear hB hP
        by_cases hkq : k < q
        · obtain ⟨r, hr⟩ : ∃ r : Nat, k + 1 = r := ⟨_, rfl⟩
          have hre : (k : Int) + 1 = (r : Int) := by omega
          have hkz : k < d'.size := by have := HSZ.out; omega
          have hrz : r < d'.size := by have := HSZ.out; omega
          have hks : k < d.size := by omega
          have hrs : r < d.size := by omega
          have hkr : k < r := by omega
          have hrq : r ≤ q := by omega
          have HR := Lib.hid hr
          have hgl := hD.lt
          obtain ⟨x, hx⟩ : ∃ x : Bk, d'[k]! = x := ⟨_, rfl⟩
          obtain ⟨y, hy⟩ : ∃ y : Bk, d'[r]! = y := ⟨_, rfl⟩
          have HX := Lib.hid hx
          have HY := Lib.hid hy
          clear hx hy
          obtain ⟨x0, x1, x2, x3⟩ := hD.at_ hkz HX
          obtain ⟨y0, y1, y2, y3⟩ := hD.at_ hrz HY
          obtain ⟨f0, f1, f2, f3⟩ := hD.free4 k
          obtain ⟨h0, h1, h2, h3⟩ := hD.free4 r
          have hF := hD.swap hkz hrz
          rw [HX.out, HY.out] at hF
          have HF := Lib.hid hF
          clear hF
          have HB2 : Hid (Bub a r d (swp d' k r)) := by
            show Bub a r d (swp d' k r)
            rw [← HR.out]
            exact HB.out.step hk1 (by have := HR.out; omega)
          have HP2 : Hid (PermIn a b d (swp d' k r)) := permIn_trans _ _ _ _ _ HP.out (swp_permIn d' a b k r hk1 (by omega) (by omega) (by omega) (by have := HSZ.out; omega))
          clear hr
          go_wp2_with fail
          go_region
          go_wp2_with fail
          go_roundw
          case rel => exact ⟨r, swp d' k r, rfl, by omega, by omega, HB2.out, HP2.out, HF.out.drew, by (repeat (first | with_reducible exact Below.refl _ _ | with_reducible assumption | with_reducible refine below_drewN ?_ _ | with_reducible refine Below.drew ?_ | with_reducible refine Below.alloc ?_ (by first | omega | (simp; omega) | simp) _ | with_reducible refine Below.setCell ?_ (by first | omega | (simp; omega) | simp) _))⟩
          case measure => simp [intOf]; omega
        · have HE : Hid (MergeOk a b d d') := by
            have h1 := HB.out
            have h2 : k = i - 1 := by have := HQ.out; omega
            rw [h2] at h1
            exact ⟨HP.out, SearchA.done swoB HA.out H2.out h1⟩
          go_wp2_with fail
          go_end0
          exact ⟨rfl, d', hD, HE.out, hbl⟩

/-! ### One element on the right -/
def SymBRel (w : World) (g a m : Nat) (d : Array Bk) (iv jv : Value) (wr : World) : Prop :=
  ∃ i j : Nat, iv = .int .i64 i ∧ jv = .int .i64 j ∧ SearchB ltB a m i j d ∧ Dat wr g d ∧ Below g w wr
def DubRel (w : World) (g a m i : Nat) (d : Array Bk) (kv : Value) (wr : World) : Prop :=
  ∃ (k : Nat) (d' : Array Bk), kv = .int .i64 k ∧ i ≤ k ∧ k ≤ m ∧ Dub m k d d' ∧ PermIn a (m + 1) d d' ∧ Dat wr g d' ∧ Below g w wr

set_option maxRecDepth 100000 in
set_option maxHeartbeats 2000000 in
theorem symB_calls (w : World) (g a m b c : Nat) (d : Array Bk) (hD : Dat w g d) (ham : a + 1 < m) (hmb : m + 1 = b) (hb : b ≤ d.size) (hs : d.size ≤ 1000) (h1 : SortedIn ltB a m d) :
    Calls Tryd.prog 86 #[.slice (some ⟨g, 0, none⟩) d.size c, .int .i64 (a : Int), .int .i64 (m : Int), .int .i64 (b : Int), .func (.func 45) #[] #[]] w (RowPost w g (MergeOk a b d)) := by
  have e1 : (((m : Int) - (a : Int)) == 1) = false := by simp; omega
  have e2 : (b : Int) - (m : Int) = 1 := by omega
  have H1 := Lib.hid h1
  have HMB := Lib.hid hmb
  have hmb' : m < b := by omega
  have hbm : b ≤ m + 1 := by omega
  clear hmb h1
  go_enter Tryd.func86, Tryd.ntmps86
  go_wp2_with fail
  go_loopw [14, 15, 16] (fun i j _ wr => SymBRel w g a m d i j wr) (fun i j _ _ => (intOf j).toNat - (intOf i).toNat)
  case atStart => exact ⟨a, m, rfl, rfl, SearchB.start d (by omega), hD, Below.refl _ _⟩
  case round =>
    clear hD
    obtain ⟨i, j, rfl, rfl, hA, hD, hbl⟩ := hrel
    have hi1 : a ≤ i := hA.1
    have hi2 : i ≤ j := hA.2.1
    have hi3 : j ≤ m := hA.2.2.1
    have HA := Lib.hid hA
    clear hA
    have hgl := hD.lt
    obtain ⟨w3, hw3⟩ : ∃ x : World, x = wr := ⟨_, rfl⟩
    subst hw3
    by_cases hlt : i < j
    · obtain ⟨h, hh⟩ : ∃ h : Nat, (i + j) / 2 = h := ⟨_, rfl⟩
      have hhe : ((i : Int) + (j : Int)) / 2 = (h : Int) := by omega
      have hh1 : i ≤ h := by omega
      have hh2 : h < j := by omega
      have hhz : h < d.size := by omega
      have hmz : m < d.size := by omega
      clear hh
      obtain ⟨x, hx⟩ : ∃ x : Bk, d[m]! = x := ⟨_, rfl⟩
      obtain ⟨y, hy⟩ : ∃ y : Bk, d[h]! = y := ⟨_, rfl⟩
      have HX := Lib.hid hx
      have HY := Lib.hid hy
      clear hx hy
      obtain ⟨x0, x1, x2, x3⟩ := hD.at_ (k := m) (by omega) HX
      obtain ⟨y0, y1, y2, y3⟩ := hD.at_ (k := h) (by omega) HY
      have hpz : m < d.size := by omega
      have hqz : h < d.size := by omega
      obtain ⟨v, hv⟩ : ∃ v, cmpB x y = v := ⟨_, rfl⟩
      have HV := Lib.hid hv
      have HL : Hid (decide (v < 0) = ltB d[m]! d[h]!) := by show _ = _; rw [← hv, HX.out, HY.out]; exact cmpB_lt _ _
      clear hv
      by_cases hv0 : v < 0
      · have HA2 : Hid (SearchB ltB a m i h d) := SearchB.lo swoB HA.out H1.out hh1 hh2 (by rw [← HL.out]; exact decide_eq_true hv0)
        have hdv : decide (v < 0) = true := decide_eq_true hv0
        go_wp2_with fail
        go_region_held3 (fun w' => w'.cell? ⟨g, m * 4, none⟩ = some (.int .i64 x.line) ∧ w'.cell? ⟨g, m * 4 + 1, none⟩ = some (.int .i64 x.cls) ∧ w'.cell? ⟨g, m * 4 + 2, none⟩ = some (.int .i64 x.kind) ∧ w'.cell? ⟨g, m * 4 + 3, none⟩ = some (.int .i64 x.gen) ∧ w'.cell? ⟨g, h * 4, none⟩ = some (.int .i64 y.line) ∧ w'.cell? ⟨g, h * 4 + 1, none⟩ = some (.int .i64 y.cls) ∧ w'.cell? ⟨g, h * 4 + 2, none⟩ = some (.int .i64 y.kind) ∧ w'.cell? ⟨g, h * 4 + 3, none⟩ = some (.int .i64 y.gen)) (go_keep)
          (first
            | (go_at_call 45; refine (cmp_calls _ x y).mono ?_; rintro e wa ⟨rfl, ba0⟩; rw [HV.out]; (have ba : Below w3.heap.size w3 wa := (by first | exact below_of_drew ba0 | exact ba0)); (have dA := Dat.below hD ba hgl); (have qa := Dat.at_ dA hpz HX); (have qb := Dat.at_ dA hqz HY)))
        have hBa : Below g w wa := hbl.trans (ba.mono (Nat.le_of_lt hgl))
        clear x0 x1 x2 x3 y0 y1 y2 y3 qa qb ba hbl hD
        go_wp2_with fail
        go_roundw
        case rel => exact ⟨i, h, rfl, rfl, HA2.out, dA, by (repeat (first | with_reducible exact Below.refl _ _ | with_reducible assumption | with_reducible refine below_drewN ?_ _ | with_reducible refine Below.drew ?_ | with_reducible refine Below.alloc ?_ (by first | omega | (simp; omega) | simp) _ | with_reducible refine Below.setCell ?_ (by first | omega | (simp; omega) | simp) _))⟩
        case measure => simp [intOf]; omega
      · have HA2 : Hid (SearchB ltB a m (h + 1) j d) := SearchB.hi swoB HA.out H1.out hh1 hh2 (by rw [← HL.out]; exact decide_eq_false hv0)
        have hdv : decide (v < 0) = false := decide_eq_false hv0
        go_wp2_with fail
        go_region_held3 (fun w' => w'.cell? ⟨g, m * 4, none⟩ = some (.int .i64 x.line) ∧ w'.cell? ⟨g, m * 4 + 1, none⟩ = some (.int .i64 x.cls) ∧ w'.cell? ⟨g, m * 4 + 2, none⟩ = some (.int .i64 x.kind) ∧ w'.cell? ⟨g, m * 4 + 3, none⟩ = some (.int .i64 x.gen) ∧ w'.cell? ⟨g, h * 4, none⟩ = some (.int .i64 y.line) ∧ w'.cell? ⟨g, h * 4 + 1, none⟩ = some (.int .i64 y.cls) ∧ w'.cell? ⟨g, h * 4 + 2, none⟩ = some (.int .i64 y.kind) ∧ w'.cell? ⟨g, h * 4 + 3, none⟩ = some (.int .i64 y.gen)) (go_keep)
          (first
            | (go_at_call 45; refine (cmp_calls _ x y).mono ?_; rintro e wa ⟨rfl, ba0⟩; rw [HV.out]; (have ba : Below w3.heap.size w3 wa := (by first | exact below_of_drew ba0 | exact ba0)); (have dA := Dat.below hD ba hgl); (have qa := Dat.at_ dA hpz HX); (have qb := Dat.at_ dA hqz HY)))
        have hBa : Below g w wa := hbl.trans (ba.mono (Nat.le_of_lt hgl))
        clear x0 x1 x2 x3 y0 y1 y2 y3 qa qb ba hbl hD
        go_wp2_with fail
        go_roundw
        case rel => exact ⟨h + 1, j, by go_num, rfl, HA2.out, dA, by (repeat (first | with_reducible exact Below.refl _ _ | with_reducible assumption | with_reducible refine below_drewN ?_ _ | with_reducible refine Below.drew ?_ | with_reducible refine Below.alloc ?_ (by first | omega | (simp; omega) | simp) _ | with_reducible refine Below.setCell ?_ (by first | omega | (simp; omega) | simp) _))⟩
        case measure => simp [intOf]; omega
    · obtain rfl : i = j := by omega
      go_wp2_with fail
      go_loopw [17] (fun k wr => DubRel w g a m i d k wr) (fun k _ => (intOf k).toNat)
      case atStart => exact ⟨m, d, rfl, by omega, by omega, Dub.zero m d, permIn_refl _ _ _, hD, hbl⟩
      case round =>
        clear hD hbl
        obtain ⟨k, d', rfl, hk1, hk2, hB, hP, hD, hbl⟩ := hrel
        have HB := Lib.hid hB
        have HP := Lib.hid hP
        have HSZ := Lib.hid hB.1
        clear hB hP
        by_cases hki : i < k
        · obtain ⟨r, hr⟩ : ∃ r : Nat, k = r + 1 := ⟨k - 1, by omega⟩
          have hre : (k : Int) - 1 = (r : Int) := by omega
          have hrw : IntKind.i64.wrap (r : Int) = (r : Int) := IntWalk.i64_in _ (by omega)
          have hkz : k < d'.size := by have := HSZ.out; omega
          have hrz : r < d'.size := by have := HSZ.out; omega
          have hks : k < d.size := by omega
          have hrs : r < d.size := by omega
          have hkr : r < k := by omega
          have hrq : i ≤ r := by omega
          have HR := Lib.hid hr
          have hgl := hD.lt
          obtain ⟨x, hx⟩ : ∃ x : Bk, d'[k]! = x := ⟨_, rfl⟩
          obtain ⟨y, hy⟩ : ∃ y : Bk, d'[r]! = y := ⟨_, rfl⟩
          have HX := Lib.hid hx
          have HY := Lib.hid hy
          clear hx hy
          obtain ⟨x0, x1, x2, x3⟩ := hD.at_ hkz HX
          obtain ⟨y0, y1, y2, y3⟩ := hD.at_ hrz HY
          obtain ⟨f0, f1, f2, f3⟩ := hD.free4 k
          obtain ⟨h0, h1, h2, h3⟩ := hD.free4 r
          have hF := hD.swap hkz hrz
          rw [HX.out, HY.out] at hF
          have HF := Lib.hid hF
          clear hF
          have HB2 : Hid (Dub m r d (swp d' k r)) := by
            show Dub m r d (swp d' k r)
            have h9 := HB.out
            rw [HR.out] at h9 ⊢
            exact h9.step (by omega) (by omega)
          have HP2 : Hid (PermIn a (m + 1) d (swp d' k r)) := permIn_trans _ _ _ _ _ HP.out (swp_permIn d' a (m + 1) k r (by omega) (by omega) (by omega) (by omega) (by have := HSZ.out; omega))
          clear hr
          go_wp2_with fail
          go_region
          go_wp2_with fail
          go_roundw
          case rel => exact ⟨r, swp d' k r, rfl, by omega, by omega, HB2.out, HP2.out, HF.out.drew, by (repeat (first | with_reducible exact Below.refl _ _ | with_reducible assumption | with_reducible refine below_drewN ?_ _ | with_reducible refine Below.drew ?_ | with_reducible refine Below.alloc ?_ (by first | omega | (simp; omega) | simp) _ | with_reducible refine Below.setCell ?_ (by first | omega | (simp; omega) | simp) _))⟩
          case measure => simp [intOf]; omega
        · have HE : Hid (MergeOk a b d d') := by
            have h1 := HB.out
            have h2 : k = i := by omega
            rw [h2] at h1
            show MergeOk a b d d'
            rw [← HMB.out]
            exact ⟨HP.out, SearchB.done swoB HA.out H1.out h1⟩
          go_wp2_with fail
          go_end0
          exact ⟨rfl, d', hD, HE.out, hbl⟩
end Go.Proofs.YtcoeoggoaiebeaaDoor
