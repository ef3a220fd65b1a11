/-
  class.can and the specification's header, at every block whose class is 0 to 4.
-/
import Derived.Test.YtcoeoggoaiebeaaDoorHead
namespace Go.Proofs.YtcoeoggoaiebeaaDoor
open Go.RowKit
set_option linter.unusedSimpArgs false
set_option linter.unusedVariables false

/-- Whether the kind and the generation are those of a proper header. -/
def canZ (k g : Int) : Bool := if k = 0 then decide (0 ≤ g ∧ g ≤ 1048575) else decide (0 < k ∧ k ≤ 6 ∧ 1 ≤ g ∧ g ≤ 1048575)

set_option maxHeartbeats 1000000 in
theorem packw_calls (w : World) (k c g : Int) (hd : Hd w) (hk : 0 ≤ k) (hk1 : k ≤ 15) (hc : 0 ≤ c) (hc1 : c ≤ 4) (hg : 0 ≤ g) (hg1 : g ≤ 1048575) :
    Calls Tryd.prog 67 #[.int .i64 k, .int .i64 c, .int .i64 g] w fun e w' => e = .returned (.int .i64 (packB k c g)) ∧ w = w' := by
  obtain ⟨d0, d1, d2, d3, d4, d5⟩ := hd
  have j0 := Lib.hid (or_join 0 0 k (by omega) (by omega) (by omega) hk (by omega) (by omega))
  have j1 := Lib.hid (or_join 4 k (c * 16) hk (by omega) (by omega) (by omega) (by omega) (by omega))
  have j2 := Lib.hid (or_join 7 (k + 16 * c) (g * 128) (by omega) (by omega) (by omega) (by omega) (by omega) (by omega))
  go_enter Tryd.func67, Tryd.ntmps67
  go_wp2
  go_loop [7, 8, 9, 14] (fun o _ _ i => ∃ n : Nat, n ≤ 3 ∧ i = .int .i64 n ∧ o = .int .i64 (packK k c g n)) (fun _ _ _ i => 3 - (intOf i).toNat)
  case atStart => exact ⟨0, by omega, rfl, rfl⟩
  case round =>
    obtain ⟨n, hn, rfl, rfl⟩ := hrel
    match n, hn with
    | 0, _ =>
      rw [show packK k c g 0 = 0 from rfl]
      go_wp2
      go_round
      case rel => exact ⟨1, by omega, rfl, by rw [j0.out, show packK k c g 1 = k from rfl, Int.zero_add]⟩
      case measure => simp [intOf]
    | 1, _ =>
      rw [show packK k c g 1 = k from rfl]
      go_wp2
      go_round
      case rel => exact ⟨2, by omega, rfl, by rw [j1.out, show packK k c g 2 = k + 16 * c from rfl, Int.mul_comm]⟩
      case measure => simp [intOf]
    | 2, _ =>
      rw [show packK k c g 2 = k + 16 * c from rfl]
      go_wp2
      go_round
      case rel => exact ⟨3, by omega, rfl, by rw [j2.out, show packK k c g 3 = k + 16 * c + 128 * g from rfl, Int.mul_comm g]⟩
      case measure => simp [intOf]
    | 3, _ =>
      rw [show packK k c g 3 = packB k c g from rfl]
      go_wp2
      go_ret
      exact ⟨rfl, rfl⟩

set_option maxHeartbeats 1000000 in
theorem pack0_a (w : World) (k c g : Int) (hd : Hd w) (h : k<0) :
    Calls Tryd.prog 67 #[.int .i64 k, .int .i64 c, .int .i64 g] w fun e w' => e = .returned (.int .i64 0) ∧ w = w' := by
  obtain ⟨d0, d1, d2, d3, d4, d5⟩ := hd
  go_enter Tryd.func67, Tryd.ntmps67
  go_wp2
  refine wp_loop_rounds 1 ?_
  rw [rounds_succ]
  go_wp2
  go_ret
  exact ⟨rfl, rfl⟩
set_option maxHeartbeats 1000000 in
theorem pack0_b (w : World) (k c g : Int) (hd : Hd w) (h : 16≤k) :
    Calls Tryd.prog 67 #[.int .i64 k, .int .i64 c, .int .i64 g] w fun e w' => e = .returned (.int .i64 0) ∧ w = w' := by
  obtain ⟨d0, d1, d2, d3, d4, d5⟩ := hd
  go_enter Tryd.func67, Tryd.ntmps67
  go_wp2
  refine wp_loop_rounds 1 ?_
  rw [rounds_succ]
  go_wp2
  go_ret
  exact ⟨rfl, rfl⟩

set_option maxHeartbeats 1000000 in
theorem packg_a (w : World) (k c g : Int) (hd : Hd w) (hk : 0 ≤ k) (hk1 : k ≤ 15) (hc : 0 ≤ c) (hc1 : c ≤ 4) (h : g<0) :
    Calls Tryd.prog 67 #[.int .i64 k, .int .i64 c, .int .i64 g] w fun e w' => e = .returned (.int .i64 0) ∧ w = w' := by
  obtain ⟨d0, d1, d2, d3, d4, d5⟩ := hd
  have j0 := Lib.hid (or_join 0 0 k (by omega) (by omega) (by omega) hk (by omega) (by omega))
  have j1 := Lib.hid (or_join 4 k (c * 16) hk (by omega) (by omega) (by omega) (by omega) (by omega))
  go_enter Tryd.func67, Tryd.ntmps67
  go_wp2
  go_loop [7, 8, 9, 14] (fun o _ _ i => ∃ n : Nat, n ≤ 2 ∧ i = .int .i64 n ∧ o = .int .i64 (packK k c g n)) (fun _ _ _ i => 3 - (intOf i).toNat)
  case atStart => exact ⟨0, by omega, rfl, rfl⟩
  case round =>
    obtain ⟨n, hn, rfl, rfl⟩ := hrel
    match n, hn with
    | 0, _ =>
      rw [show packK k c g 0 = 0 from rfl]
      go_wp2
      go_round
      case rel => exact ⟨1, by omega, rfl, by rw [j0.out, show packK k c g 1 = k from rfl, Int.zero_add]⟩
      case measure => simp [intOf]
    | 1, _ =>
      rw [show packK k c g 1 = k from rfl]
      go_wp2
      go_round
      case rel => exact ⟨2, by omega, rfl, by rw [j1.out, show packK k c g 2 = k + 16 * c from rfl, Int.mul_comm]⟩
      case measure => simp [intOf]
    | 2, _ =>
      rw [show packK k c g 2 = k + 16 * c from rfl]
      go_wp2
      go_ret
      exact ⟨rfl, rfl⟩
set_option maxHeartbeats 1000000 in
theorem packg_b (w : World) (k c g : Int) (hd : Hd w) (hk : 0 ≤ k) (hk1 : k ≤ 15) (hc : 0 ≤ c) (hc1 : c ≤ 4) (h : 1048576≤g) :
    Calls Tryd.prog 67 #[.int .i64 k, .int .i64 c, .int .i64 g] w fun e w' => e = .returned (.int .i64 0) ∧ w = w' := by
  obtain ⟨d0, d1, d2, d3, d4, d5⟩ := hd
  have j0 := Lib.hid (or_join 0 0 k (by omega) (by omega) (by omega) hk (by omega) (by omega))
  have j1 := Lib.hid (or_join 4 k (c * 16) hk (by omega) (by omega) (by omega) (by omega) (by omega))
  go_enter Tryd.func67, Tryd.ntmps67
  go_wp2
  go_loop [7, 8, 9, 14] (fun o _ _ i => ∃ n : Nat, n ≤ 2 ∧ i = .int .i64 n ∧ o = .int .i64 (packK k c g n)) (fun _ _ _ i => 3 - (intOf i).toNat)
  case atStart => exact ⟨0, by omega, rfl, rfl⟩
  case round =>
    obtain ⟨n, hn, rfl, rfl⟩ := hrel
    match n, hn with
    | 0, _ =>
      rw [show packK k c g 0 = 0 from rfl]
      go_wp2
      go_round
      case rel => exact ⟨1, by omega, rfl, by rw [j0.out, show packK k c g 1 = k from rfl, Int.zero_add]⟩
      case measure => simp [intOf]
    | 1, _ =>
      rw [show packK k c g 1 = k from rfl]
      go_wp2
      go_round
      case rel => exact ⟨2, by omega, rfl, by rw [j1.out, show packK k c g 2 = k + 16 * c from rfl, Int.mul_comm]⟩
      case measure => simp [intOf]
    | 2, _ =>
      rw [show packK k c g 2 = k + 16 * c from rfl]
      go_wp2
      go_ret
      exact ⟨rfl, rfl⟩

theorem pack0_calls (w : World) (k c g : Int) (hd : Hd w) (hc : 0 ≤ c) (hc1 : c ≤ 4) (h : ¬ (0 ≤ k ∧ k ≤ 15 ∧ 0 ≤ g ∧ g ≤ 1048575)) :
    Calls Tryd.prog 67 #[.int .i64 k, .int .i64 c, .int .i64 g] w fun e w' => e = .returned (.int .i64 0) ∧ w = w' := by
  by_cases h1 : k < 0
  · exact pack0_a w k c g hd h1
  · by_cases h2 : 16 ≤ k
    · exact pack0_b w k c g hd h2
    · by_cases h3 : g < 0
      · exact packg_a w k c g hd (by omega) (by omega) hc hc1 h3
      · exact packg_b w k c g hd (by omega) (by omega) hc hc1 (by omega)

theorem packw_parts {k c g : Int} (hk : 0 ≤ k) (hk1 : k ≤ 15) (hc : 0 ≤ c) (hc1 : c ≤ 4) (hg : 0 ≤ g) (hg1 : g ≤ 1048575) :
    0 ≤ packB k c g ∧ packB k c g < 134217728 ∧ packB k c g % 16 = k ∧ packB k c g / 16 % 8 = c ∧ packB k c g / 128 % 1048576 = g := by unfold packB; omega

set_option maxHeartbeats 1000000 in
/-- A header whose kind is none, or whose block was never taken. -/
theorem proper_no (w : World) (k c g : Int) (hd : Hd w) (hk : 0 < k) (hk1 : k ≤ 15) (hc : 0 ≤ c) (hc1 : c ≤ 4) (hg : 0 ≤ g) (hg1 : g ≤ 1048575) (hno : 6 < k ∨ g = 0) :
    Calls Tryd.prog 68 #[.int .i64 (packB k c g), .int .i64 c] w fun e w' => e = .returned (.bool false) ∧ Below w.heap.size w w' := by
  obtain ⟨p0, p1, p2, p3, p4⟩ := packw_parts (by omega : 0 ≤ k) hk1 hc hc1 hg hg1
  have p5 : packB k c g / 16 % 8 ≤ 4 := by omega
  have h0 : packB k c g ≠ 0 := by unfold packB; omega
  have b0 : (packB k c g == 0) = false := by simp [h0]
  have bc : (c != c) = false := by simp
  have P2 := Lib.hid p2
  have P3 := Lib.hid p3
  have P4 := Lib.hid p4
  clear p2 p3 p4 h0
  generalize packB k c g = h at *
  go_enter Tryd.func68, Tryd.ntmps68
  go_wp2_with fail
  refine (formed_yes _ h hd p0 p1 p5).mono ?_
  rintro e w1 ⟨rfl, hb1⟩
  have hd1 := hd.below hb1
  go_wp2_with fail
  refine (partClass _ h hd1 p0 p1 p5).mono ?_
  rintro e w2 ⟨rfl, hb2⟩
  rw [P3.out]
  have hd2 := hd1.below hb2
  have hB2 := hb1.trans (hb2.mono hb1.size)
  clear hb1 hb2 hd hd1
  go_wp2_with fail
  refine (partKind _ h hd2 p0 p1 p5).mono ?_
  rintro e w3 ⟨rfl, hb3⟩
  rw [P2.out]
  have hd3 := hd2.below hb3
  have hB3 := hB2.trans (hb3.mono hB2.size)
  clear hb3 hB2 hd2
  have bk : (k == 0) = false := by simp; omega
  go_wp2_with fail
  refine (partKind _ h hd3 p0 p1 p5).mono ?_
  rintro e w4 ⟨rfl, hb4⟩
  rw [P2.out]
  have hd4 := hd3.below hb4
  have hB4 := hB3.trans (hb4.mono hB3.size)
  clear hb4 hB3 hd3
  by_cases h6 : k ≤ 6
  · obtain rfl : g = 0 := by omega
    clear hno
    go_wp2_with fail
    refine (partGeneration _ h hd4 p0 p1 p5).mono ?_
    rintro e w5 ⟨rfl, hb5⟩
    rw [P4.out]
    have hB5 := hB4.trans (hb5.mono hB4.size)
    clear hb5 hB4 hd4
    go_wp2_with fail
    go_ret
    exact ⟨rfl, hB5⟩
  · clear hno
    go_wp2_with fail
    go_ret
    exact ⟨rfl, hB4⟩

set_option maxHeartbeats 1000000 in
theorem can_no (w : World) (b : Bk) (hd : Hd w) (hc : 0 ≤ b.cls) (hc1 : b.cls ≤ 4) (hn : canZ b.kind b.gen = false) : Calls Tryd.prog 39 #[.agg #[.int .i64 (Bk.line b), .int .i64 (Bk.cls b), .int .i64 (Bk.kind b), .int .i64 (Bk.gen b)]] w fun e w' => e = .returned (.bool false) ∧ Below w.heap.size w w' := by
  have hz : ¬ (b.kind = 0 ∧ b.gen = 0) := by
    rintro ⟨h1, h2⟩
    rw [h1, h2] at hn
    exact absurd hn (by decide)
  by_cases hin : 0 ≤ b.kind ∧ b.kind ≤ 15 ∧ 0 ≤ b.gen ∧ b.gen ≤ 1048575
  · have hk0 : b.kind ≠ 0 := by
      intro h
      rw [canZ, if_pos h] at hn
      simp at hn
      omega
    have hno : 6 < b.kind ∨ b.gen = 0 := by
      rw [canZ, if_neg hk0] at hn
      simp at hn
      omega
    have hp : packB b.kind b.cls b.gen ≠ 0 := by
      unfold packB
      omega
    have bp : (packB b.kind b.cls b.gen != 0) = true := by simp [hp]
    have b1 : (b.kind == 0) = false := by simp [hk0]
    have H := Lib.hid hin
    have HNO := Lib.hid hno
    have hkp : 0 < b.kind := by omega
    clear hz hk0 hin hno hn hp
    go_enter Tryd.func39, Tryd.ntmps39
    go_wp2_with fail
    refine (packw_calls _ b.kind b.cls b.gen (hd.below (by (repeat (first | with_reducible exact Below.refl _ _ | with_reducible assumption | with_reducible refine below_drewN ?_ _ | with_reducible refine Below.drew ?_ | with_reducible refine Below.alloc ?_ (by first | omega | (simp; omega) | simp) _ | with_reducible refine Below.setCell ?_ (by first | omega | (simp; omega) | simp) _)))) H.out.1 H.out.2.1 hc hc1 H.out.2.2.1 H.out.2.2.2).mono ?_
    rintro e w1 ⟨rfl, rfl⟩
    go_wp2_with fail
    refine (proper_no _ b.kind b.cls b.gen (hd.below (by (repeat (first | with_reducible exact Below.refl _ _ | with_reducible assumption | with_reducible refine below_drewN ?_ _ | with_reducible refine Below.drew ?_ | with_reducible refine Below.alloc ?_ (by first | omega | (simp; omega) | simp) _ | with_reducible refine Below.setCell ?_ (by first | omega | (simp; omega) | simp) _)))) hkp H.out.2.1 hc hc1 H.out.2.2.1 H.out.2.2.2 HNO.out).mono ?_
    rintro e w2 ⟨rfl, hb2⟩
    have hB2 : Below w.heap.size w w2 := Below.trans (by (repeat (first | with_reducible exact Below.refl _ _ | with_reducible assumption | with_reducible refine below_drewN ?_ _ | with_reducible refine Below.drew ?_ | with_reducible refine Below.alloc ?_ (by first | omega | (simp; omega) | simp) _ | with_reducible refine Below.setCell ?_ (by first | omega | (simp; omega) | simp) _))) (hb2.mono (by simp))
    clear hb2
    go_wp2_with fail
    go_ret
    exact ⟨rfl, hB2⟩
  · have H := Lib.hid hin
    clear hin hn
    by_cases hk0 : b.kind = 0
    · have b1 : (b.kind == 0) = true := by simp [hk0]
      have b2 : (b.gen == 0) = false := by simp; intro h; exact hz ⟨hk0, h⟩
      clear hz hk0
      go_enter Tryd.func39, Tryd.ntmps39
      go_wp2_with fail
      refine (pack0_calls _ b.kind b.cls b.gen (hd.below (by (repeat (first | with_reducible exact Below.refl _ _ | with_reducible assumption | with_reducible refine below_drewN ?_ _ | with_reducible refine Below.drew ?_ | with_reducible refine Below.alloc ?_ (by first | omega | (simp; omega) | simp) _ | with_reducible refine Below.setCell ?_ (by first | omega | (simp; omega) | simp) _)))) hc hc1 H.out).mono ?_
      rintro e w1 ⟨rfl, rfl⟩
      go_wp2_with fail
      go_ret
      exact ⟨rfl, by (repeat (first | with_reducible exact Below.refl _ _ | with_reducible assumption | with_reducible refine below_drewN ?_ _ | with_reducible refine Below.drew ?_ | with_reducible refine Below.alloc ?_ (by first | omega | (simp; omega) | simp) _ | with_reducible refine Below.setCell ?_ (by first | omega | (simp; omega) | simp) _))⟩
    · have b1 : (b.kind == 0) = false := by simp [hk0]
      clear hz hk0
      go_enter Tryd.func39, Tryd.ntmps39
      go_wp2_with fail
      refine (pack0_calls _ b.kind b.cls b.gen (hd.below (by (repeat (first | with_reducible exact Below.refl _ _ | with_reducible assumption | with_reducible refine below_drewN ?_ _ | with_reducible refine Below.drew ?_ | with_reducible refine Below.alloc ?_ (by first | omega | (simp; omega) | simp) _ | with_reducible refine Below.setCell ?_ (by first | omega | (simp; omega) | simp) _)))) hc hc1 H.out).mono ?_
      rintro e w1 ⟨rfl, rfl⟩
      go_wp2_with fail
      go_ret
      exact ⟨rfl, by (repeat (first | with_reducible exact Below.refl _ _ | with_reducible assumption | with_reducible refine below_drewN ?_ _ | with_reducible refine Below.drew ?_ | with_reducible refine Below.alloc ?_ (by first | omega | (simp; omega) | simp) _ | with_reducible refine Below.setCell ?_ (by first | omega | (simp; omega) | simp) _))⟩

theorem canZ_can {b : Bk} (hc : 0 ≤ b.cls) (hc1 : b.cls ≤ 4) (h : canZ b.kind b.gen = true) : CanB b := by
  unfold canZ at h
  unfold CanB
  split at h <;> simp at h <;> omega
theorem can_calls (w : World) (b : Bk) (hd : Hd w) (hc : 0 ≤ b.cls) (hc1 : b.cls ≤ 4) : Calls Tryd.prog 39 #[.agg #[.int .i64 (Bk.line b), .int .i64 (Bk.cls b), .int .i64 (Bk.kind b), .int .i64 (Bk.gen b)]] w fun e w' => e = .returned (.bool (canZ b.kind b.gen)) ∧ Below w.heap.size w w' := by
  cases h : canZ b.kind b.gen
  · exact can_no w b hd hc hc1 h
  · exact can_yes w b hd (canZ_can hc hc1 h)

set_option maxHeartbeats 1000000 in
theorem rheader_calls (w : World) (b : Bk) : Calls Tryd.prog 40 #[.agg #[.int .i64 (Bk.line b), .int .i64 (Bk.cls b), .int .i64 (Bk.kind b), .int .i64 (Bk.gen b)]] w fun e w' => e = .returned (.bool (canZ b.kind b.gen)) ∧ Below w.heap.size w w' := by
  by_cases hk : b.kind = 0
  · have b1 : (b.kind == 0) = true := by simp [hk]
    by_cases h1 : 0 ≤ b.gen
    · by_cases h2 : b.gen < 1048576
      · have hz : Hid (canZ b.kind b.gen = true) := by show canZ b.kind b.gen = true; rw [canZ, if_pos hk]; simp; omega
        clear hk
        go_enter Tryd.func40, Tryd.ntmps40
        go_wp2_with fail
        go_ret
        exact ⟨by rw [hz.out]; rfl, by (repeat (first | with_reducible exact Below.refl _ _ | with_reducible assumption | with_reducible refine below_drewN ?_ _ | with_reducible refine Below.drew ?_ | with_reducible refine Below.alloc ?_ (by first | omega | (simp; omega) | simp) _ | with_reducible refine Below.setCell ?_ (by first | omega | (simp; omega) | simp) _))⟩
      · have hz : Hid (canZ b.kind b.gen = false) := by show canZ b.kind b.gen = false; rw [canZ, if_pos hk]; simp; omega
        clear hk
        go_enter Tryd.func40, Tryd.ntmps40
        go_wp2_with fail
        go_ret
        exact ⟨by rw [hz.out]; rfl, by (repeat (first | with_reducible exact Below.refl _ _ | with_reducible assumption | with_reducible refine below_drewN ?_ _ | with_reducible refine Below.drew ?_ | with_reducible refine Below.alloc ?_ (by first | omega | (simp; omega) | simp) _ | with_reducible refine Below.setCell ?_ (by first | omega | (simp; omega) | simp) _))⟩
    · have hz : Hid (canZ b.kind b.gen = false) := by show canZ b.kind b.gen = false; rw [canZ, if_pos hk]; simp; omega
      clear hk
      go_enter Tryd.func40, Tryd.ntmps40
      go_wp2_with fail
      go_ret
      exact ⟨by rw [hz.out]; rfl, by (repeat (first | with_reducible exact Below.refl _ _ | with_reducible assumption | with_reducible refine below_drewN ?_ _ | with_reducible refine Below.drew ?_ | with_reducible refine Below.alloc ?_ (by first | omega | (simp; omega) | simp) _ | with_reducible refine Below.setCell ?_ (by first | omega | (simp; omega) | simp) _))⟩
  · have b1 : (b.kind == 0) = false := by simp [hk]
    have hu : canZ b.kind b.gen = decide (0 < b.kind ∧ b.kind ≤ 6 ∧ 1 ≤ b.gen ∧ b.gen ≤ 1048575) := by rw [canZ, if_neg hk]
    by_cases h0 : 0 < b.kind
    · by_cases h6 : b.kind ≤ 6
      · by_cases h1 : 1 ≤ b.gen
        · by_cases h2 : b.gen < 1048576
          · have hz : Hid (canZ b.kind b.gen = true) := by show canZ b.kind b.gen = true; rw [hu]; simp; omega
            clear hk hu
            go_enter Tryd.func40, Tryd.ntmps40
            go_wp2_with fail
            go_ret
            exact ⟨by rw [hz.out]; rfl, by (repeat (first | with_reducible exact Below.refl _ _ | with_reducible assumption | with_reducible refine below_drewN ?_ _ | with_reducible refine Below.drew ?_ | with_reducible refine Below.alloc ?_ (by first | omega | (simp; omega) | simp) _ | with_reducible refine Below.setCell ?_ (by first | omega | (simp; omega) | simp) _))⟩
          · have hz : Hid (canZ b.kind b.gen = false) := by show canZ b.kind b.gen = false; rw [hu]; simp; omega
            clear hk hu
            go_enter Tryd.func40, Tryd.ntmps40
            go_wp2_with fail
            go_ret
            exact ⟨by rw [hz.out]; rfl, by (repeat (first | with_reducible exact Below.refl _ _ | with_reducible assumption | with_reducible refine below_drewN ?_ _ | with_reducible refine Below.drew ?_ | with_reducible refine Below.alloc ?_ (by first | omega | (simp; omega) | simp) _ | with_reducible refine Below.setCell ?_ (by first | omega | (simp; omega) | simp) _))⟩
        · have hz : Hid (canZ b.kind b.gen = false) := by show canZ b.kind b.gen = false; rw [hu]; simp; omega
          clear hk hu
          go_enter Tryd.func40, Tryd.ntmps40
          go_wp2_with fail
          go_ret
          exact ⟨by rw [hz.out]; rfl, by (repeat (first | with_reducible exact Below.refl _ _ | with_reducible assumption | with_reducible refine below_drewN ?_ _ | with_reducible refine Below.drew ?_ | with_reducible refine Below.alloc ?_ (by first | omega | (simp; omega) | simp) _ | with_reducible refine Below.setCell ?_ (by first | omega | (simp; omega) | simp) _))⟩
      · have hz : Hid (canZ b.kind b.gen = false) := by show canZ b.kind b.gen = false; rw [hu]; simp; omega
        clear hk hu
        go_enter Tryd.func40, Tryd.ntmps40
        go_wp2_with fail
        go_ret
        exact ⟨by rw [hz.out]; rfl, by (repeat (first | with_reducible exact Below.refl _ _ | with_reducible assumption | with_reducible refine below_drewN ?_ _ | with_reducible refine Below.drew ?_ | with_reducible refine Below.alloc ?_ (by first | omega | (simp; omega) | simp) _ | with_reducible refine Below.setCell ?_ (by first | omega | (simp; omega) | simp) _))⟩
    · have hz : Hid (canZ b.kind b.gen = false) := by show canZ b.kind b.gen = false; rw [hu]; simp; omega
      clear hk hu
      go_enter Tryd.func40, Tryd.ntmps40
      go_wp2_with fail
      go_ret
      exact ⟨by rw [hz.out]; rfl, by (repeat (first | with_reducible exact Below.refl _ _ | with_reducible assumption | with_reducible refine below_drewN ?_ _ | with_reducible refine Below.drew ?_ | with_reducible refine Below.alloc ?_ (by first | omega | (simp; omega) | simp) _ | with_reducible refine Below.setCell ?_ (by first | omega | (simp; omega) | simp) _))⟩
end Go.Proofs.YtcoeoggoaiebeaaDoor
