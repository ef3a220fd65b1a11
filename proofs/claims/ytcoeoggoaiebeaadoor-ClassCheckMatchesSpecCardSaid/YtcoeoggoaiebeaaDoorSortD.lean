/-
  slices: symMergeCmpFunc at blocks: the general part, and the whole by induction.
-/
import Derived.Test.YtcoeoggoaiebeaaDoorSymTail
namespace Go.Proofs.YtcoeoggoaiebeaaDoor
open Go.RowKit
open Go.Sort (swp PermIn SortedIn SWO swp_permIn permIn_refl permIn_trans permIn_mono permIn_all)
set_option linter.unusedSimpArgs false
set_option linter.unusedVariables false

def SymCRel (w : World) (g n lo hi : Nat) (d : Array Bk) (sv rv : Value) (wr : World) : Prop :=
  ∃ s r : Nat, sv = .int .i64 s ∧ rv = .int .i64 r ∧ SearchS ltB n lo hi s r d ∧ Dat wr g d ∧ Below g w wr

set_option maxRecDepth 100000 in
set_option maxHeartbeats 4000000 in
theorem symC_calls (N : Nat) (ih : Merges N) (w : World) (g a m b c : Nat) (d : Array Bk) (hN : b - a ≤ N + 1) (hD : Dat w g d) (ham : a + 1 < m) (hmb : m + 1 < b) (hb : b ≤ d.size) (hs : d.size ≤ 1000) (h1 : SortedIn ltB a m d) (h2 : SortedIn ltB m b d) :
    Calls Tryd.prog 86 #[.slice (some ⟨g, 0, none⟩) d.size c, .int .i64 (a : Int), .int .i64 (m : Int), .int .i64 (b : Int), .func (.func 45) #[] #[]] w (RowPost w g (MergeOk a b d)) := by
  have IH := Lib.hid ih
  have H1 := Lib.hid h1
  have H2 := Lib.hid h2
  have e1 : (((m : Int) - (a : Int)) == 1) = false := by simp; omega
  have e2 : (((b : Int) - (m : Int)) == 1) = false := by simp; omega
  obtain ⟨mid, hmid⟩ : ∃ mid : Nat, (a + b) / 2 = mid := ⟨_, rfl⟩
  have hme : ((a : Int) + (b : Int)) / 2 = (mid : Int) := by omega
  have hm1 : 2 * mid ≤ a + b := by omega
  have hm2 : a + b ≤ 2 * mid + 1 := by omega
  obtain ⟨n, hn⟩ : ∃ n : Nat, mid + m = n := ⟨_, rfl⟩
  have hne : (mid : Int) + (m : Int) = (n : Int) := by omega
  have HN := Lib.hid hn
  obtain ⟨P, hP⟩ : ∃ P : Nat, n = P + 1 := ⟨n - 1, by omega⟩
  have hPe : (n : Int) - 1 = (P : Int) := by omega
  have hPw : IntKind.i64.wrap (P : Int) = (P : Int) := IntWalk.i64_in _ (by omega)
  have HP := Lib.hid hP
  have hn9 : n ≤ 2000 := by omega
  clear ih h1 h2 hmid hn hP
  go_enter Tryd.func86, Tryd.ntmps86
  go_upto_if 140 with (fail)
  go_cut [20, 21] (fun s r wx => ∃ lo hi : Nat, s = .int .i64 lo ∧ r = .int .i64 hi ∧ ((mid < m ∧ lo + b = n ∧ hi = mid) ∨ (m ≤ mid ∧ lo = a ∧ hi = m)) ∧ w = wx)
  case first =>
    by_cases hgt : mid < m
    · obtain ⟨lo, hlo⟩ : ∃ lo : Nat, n = lo + b := ⟨n - b, by have := HN.out; omega⟩
      have hle : (n : Int) - (b : Int) = (lo : Int) := by omega
      have hgb : decide ((mid : Int) < (m : Int)) = true := decide_eq_true (by omega)
      have HLO := Lib.hid hlo
      clear hlo
      go_wp2_with fail
      go_meet
      exact ⟨lo, mid, rfl, rfl, .inl ⟨hgt, HLO.out.symm, rfl⟩, rfl⟩
    · have hgb : decide ((mid : Int) < (m : Int)) = false := decide_eq_false (by omega)
      go_wp2_with fail
      go_meet
      exact ⟨a, m, rfl, rfl, .inr ⟨by omega, rfl, rfl⟩, rfl⟩
  case rest =>
    obtain ⟨lo, hi, rfl, rfl, hcase, hw⟩ := hcut
    subst hw
    have HC := Lib.hid hcase
    have k1 : lo ≤ hi := by have := HN.out; omega
    have k2 : a ≤ lo := by have := HN.out; omega
    have k3 : hi ≤ m := by omega
    have k4 : hi ≤ mid := by omega
    have k5 : n ≤ lo + b := by have := HN.out; omega
    clear hcase
    go_wp2_with fail
    go_loopw [20, 21, 23] (fun s r _ wr => SymCRel w g n lo hi d s r wr) (fun s r _ _ => (intOf r).toNat - (intOf s).toNat)
    case atStart => exact ⟨lo, hi, rfl, rfl, SearchS.start d k1, hD, Below.refl _ _⟩
    case round =>
      clear hD
      obtain ⟨s, r, rfl, rfl, hA, hD, hbl⟩ := hrel
      have i1 : lo ≤ s := hA.1
      have i2 : s ≤ r := hA.2.1
      have i3 : r ≤ hi := hA.2.2.1
      have HA := Lib.hid hA
      clear hA
      have hgl := hD.lt
      obtain ⟨w3, hw3⟩ : ∃ x : World, x = wr := ⟨_, rfl⟩
      subst hw3
      by_cases hlt : s < r
      · obtain ⟨t, ht⟩ : ∃ t : Nat, (s + r) / 2 = t := ⟨_, rfl⟩
        have hte : ((s : Int) + (r : Int)) / 2 = (t : Int) := by omega
        have ht1 : s ≤ t := by omega
        have ht2 : t < r := by omega
        obtain ⟨q, hq⟩ : ∃ q : Nat, P = q + t := ⟨P - t, by have := HN.out; have := HP.out; omega⟩
        have hqe : (P : Int) - (t : Int) = (q : Int) := by omega
        have hqw : IntKind.i64.wrap (q : Int) = (q : Int) := IntWalk.i64_in _ (by omega)
        have hqb : q < b := by have := HN.out; have := HP.out; omega
        have hqn : n - 1 - t = q := by have := HP.out; omega
        have HQN := Lib.hid hqn
        have htz : t < d.size := by omega
        have hqz : q < d.size := by omega
        clear ht hq hqn
        obtain ⟨x, hx⟩ : ∃ x : Bk, d[q]! = x := ⟨_, rfl⟩
        obtain ⟨y, hy⟩ : ∃ y : Bk, d[t]! = y := ⟨_, rfl⟩
        have HX := Lib.hid hx
        have HY := Lib.hid hy
        clear hx hy
        obtain ⟨x0, x1, x2, x3⟩ := hD.at_ (k := q) (by omega) HX
        obtain ⟨y0, y1, y2, y3⟩ := hD.at_ (k := t) (by omega) HY
        have hpz : q < d.size := by omega
        have hqz : t < d.size := by omega
        obtain ⟨v, hv⟩ : ∃ v, cmpB x y = v := ⟨_, rfl⟩
        have HV := Lib.hid hv
        have HL : Hid (decide (v < 0) = ltB d[q]! d[t]!) := by show _ = _; rw [← hv, HX.out, HY.out]; exact cmpB_lt _ _
        clear hv
        by_cases hv0 : v < 0
        · have HA2 : Hid (SearchS ltB n lo hi s t d) := SearchS.lo HA.out ht1 ht2 (by rw [HQN.out, ← HL.out]; exact decide_eq_true hv0)
          have hdv : decide (v < 0) = true := decide_eq_true hv0
          go_wp2_with fail
          go_region_held3 (fun w' => w'.cell? ⟨g, q * 4, none⟩ = some (.int .i64 x.line) ∧ w'.cell? ⟨g, q * 4 + 1, none⟩ = some (.int .i64 x.cls) ∧ w'.cell? ⟨g, q * 4 + 2, none⟩ = some (.int .i64 x.kind) ∧ w'.cell? ⟨g, q * 4 + 3, none⟩ = some (.int .i64 x.gen) ∧ w'.cell? ⟨g, t * 4, none⟩ = some (.int .i64 y.line) ∧ w'.cell? ⟨g, t * 4 + 1, none⟩ = some (.int .i64 y.cls) ∧ w'.cell? ⟨g, t * 4 + 2, none⟩ = some (.int .i64 y.kind) ∧ w'.cell? ⟨g, t * 4 + 3, none⟩ = some (.int .i64 y.gen)) (go_keep)
            (first
              | (go_at_call 45; refine (cmp_calls _ x y).mono ?_; rintro e wa ⟨rfl, ba0⟩; rw [HV.out]; (have ba : Below w3.heap.size w3 wa := (by first | exact below_of_drew ba0 | exact ba0)); (have dA := Dat.below hD ba hgl); (have qa := Dat.at_ dA hpz HX); (have qb := Dat.at_ dA hqz HY)))
          have hBa : Below g w wa := hbl.trans (ba.mono (Nat.le_of_lt hgl))
          clear x0 x1 x2 x3 y0 y1 y2 y3 qa qb ba hbl hD
          go_wp2_with fail
          go_roundw
          case rel => exact ⟨s, t, rfl, rfl, HA2.out, dA, by (repeat (first | with_reducible exact Below.refl _ _ | with_reducible assumption | with_reducible refine below_drewN ?_ _ | with_reducible refine Below.drew ?_ | with_reducible refine Below.alloc ?_ (by first | omega | (simp; omega) | simp) _ | with_reducible refine Below.setCell ?_ (by first | omega | (simp; omega) | simp) _))⟩
          case measure => simp [intOf]; omega
        · have HA2 : Hid (SearchS ltB n lo hi (t + 1) r d) := SearchS.hi HA.out ht1 ht2 (by rw [HQN.out, ← HL.out]; exact decide_eq_false hv0)
          have hdv : decide (v < 0) = false := decide_eq_false hv0
          go_wp2_with fail
          go_region_held3 (fun w' => w'.cell? ⟨g, q * 4, none⟩ = some (.int .i64 x.line) ∧ w'.cell? ⟨g, q * 4 + 1, none⟩ = some (.int .i64 x.cls) ∧ w'.cell? ⟨g, q * 4 + 2, none⟩ = some (.int .i64 x.kind) ∧ w'.cell? ⟨g, q * 4 + 3, none⟩ = some (.int .i64 x.gen) ∧ w'.cell? ⟨g, t * 4, none⟩ = some (.int .i64 y.line) ∧ w'.cell? ⟨g, t * 4 + 1, none⟩ = some (.int .i64 y.cls) ∧ w'.cell? ⟨g, t * 4 + 2, none⟩ = some (.int .i64 y.kind) ∧ w'.cell? ⟨g, t * 4 + 3, none⟩ = some (.int .i64 y.gen)) (go_keep)
            (first
              | (go_at_call 45; refine (cmp_calls _ x y).mono ?_; rintro e wa ⟨rfl, ba0⟩; rw [HV.out]; (have ba : Below w3.heap.size w3 wa := (by first | exact below_of_drew ba0 | exact ba0)); (have dA := Dat.below hD ba hgl); (have qa := Dat.at_ dA hpz HX); (have qb := Dat.at_ dA hqz HY)))
          have hBa : Below g w wa := hbl.trans (ba.mono (Nat.le_of_lt hgl))
          clear x0 x1 x2 x3 y0 y1 y2 y3 qa qb ba hbl hD
          go_wp2_with fail
          go_roundw
          case rel => exact ⟨t + 1, r, by go_num, rfl, HA2.out, dA, by (repeat (first | with_reducible exact Below.refl _ _ | with_reducible assumption | with_reducible refine below_drewN ?_ _ | with_reducible refine Below.drew ?_ | with_reducible refine Below.alloc ?_ (by first | omega | (simp; omega) | simp) _ | with_reducible refine Below.setCell ?_ (by first | omega | (simp; omega) | simp) _))⟩
          case measure => simp [intOf]; omega
      · obtain rfl : s = r := by omega
        obtain ⟨e, he⟩ : ∃ e : Nat, n = e + s := ⟨n - s, by have := HN.out; omega⟩
        have hee : (n : Int) - (s : Int) = (e : Int) := by omega
        have g1 : a ≤ s := by omega
        have g2 : s ≤ m := by omega
        have g3 : m ≤ e := by have := HN.out; omega
        have g4 : e ≤ b := by omega
        have hmd : mid = s + (e - m) := by have := HN.out; omega
        have hl : a < s → e < b → ltB d[e]! d[s - 1]! = false := fun x1 x2 => by
          have x3 := HA.out.2.2.2.1 (by have := HC.out; omega)
          rw [show n - s = e by omega] at x3
          exact x3
        have hr : s < m → m < e → ltB d[s]! d[e - 1]! = false := fun x1 x2 => by
          have x3 := HA.out.2.2.2.2 (by have := HC.out; have := HN.out; omega)
          rw [show n - 1 - s = e - 1 by omega] at x3
          exact swoB.asymmA x3
        have HLL := Lib.hid hl
        have HRR := Lib.hid hr
        have HMD := Lib.hid hmd
        have hms : s ≤ mid := by omega
        have hme2 : mid ≤ e := by have := HN.out; omega
        have hab1 : a < mid := by omega
        have hab2 : mid < b := by omega
        clear hl hr hmd he hlt i1 i2 i3 k1 k2 k3 k4 k5 HA HC
        go_upto_region 38 with (fail)
        exact sym38 N IH w _ g a m b c s e mid n d hN hb hs hn9 hee g1 g2 g3 g4 hms hme2 hab1 hab2 HMD H1 H2 HLL HRR hD hbl _ (by assumption) _ _ _ _ _ _ _ _ _ _ _ _ _ _ _ _ _ _ _ _ _ _ _ _ _ _ _ _ _ _ _ _ _ _ _ _ _ _ _ _ _ _ _ _ _ _ _ _ _ _ _ _ _ _ _ _ _ _ _ _ _ _ _ _ _ _ _ _ _ _ _ _ _ _ _ _ _ _ _ _ _ _ _ _ _ _ _ _ _ _ _ _ _ _ _ _ _ _ _ _ _ _ _ _ _ _ _ _ _ _ _ _ _ _ _ _ _ _ _ _ _ _ _ _ _ _ _ _ _ _ _ _ _ _ _ _ _ _ _ _ _ _ _ _ _ _ _ _ _ _ _ _ _ _ _ _ _ _ _ _ _ _ _ _ _ _ _ _ _ _ _ _ _ _ _ _ _ _ _ _ _ _ _ _ _ _ _ _ _ _ _ _ _ _ _ _ _ _ _ _ _ _ _ _ _ _ _ _ _ _ _ _ 

theorem merges (N : Nat) : Merges N := by
  induction N with
  | zero => intro w g a m b c d hN _ h1 h2; omega
  | succ N ih =>
    intro w g a m b c d hN hD h1 h2 h3 h4 h5 h6
    by_cases hA : a + 1 = m
    · exact symA_calls w g a m b c d hD hA h2 h3 h4 h6
    · by_cases hB : m + 1 = b
      · exact symB_calls w g a m b c d hD (by omega) hB h3 h4 h5
      · exact symC_calls N ih w g a m b c d hN hD (by omega) (by omega) h3 h4 h5 h6
end Go.Proofs.YtcoeoggoaiebeaaDoor
