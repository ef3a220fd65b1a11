/-
  The parts of a header: pointer.word, of, Formed, header, Kind, Class, Generation, Pack; class.proper, class.can.
-/
import Derived.Test.YtckamjbdogpacaaGreatDoorAfterB
import Derived.Test.YtckamjbdogpacaaGreatDoorTakeLaw
import Derived.Laws.BitsLemmas
namespace Go.Proofs.YtckamjbdogpacaaGreatDoor
open Go.RowKit

/-- The table of the parts of headers, as the program lays it. -/
def Hd (w : World) : Prop := w.cell? ⟨2, 0, none⟩ = some (.int .i64 0) ∧ w.cell? ⟨2, 1, none⟩ = some (.int .i64 4) ∧ w.cell? ⟨2, 2, none⟩ = some (.int .i64 4) ∧
  w.cell? ⟨2, 3, none⟩ = some (.int .i64 3) ∧ w.cell? ⟨2, 4, none⟩ = some (.int .i64 7) ∧ w.cell? ⟨2, 5, none⟩ = some (.int .i64 20)
theorem Hd.lt {w : World} (h : Hd w) : 2 < w.heap.size := World.block_lt_of_cell? w _ h.1
theorem Hd.below {w w' : World} (h : Hd w) (hb : Below w.heap.size w w') : Hd w' := by
  have hl := h.lt
  obtain ⟨h0, h1, h2, h3, h4, h5⟩ := h
  exact ⟨(hb.cell hl).trans h0, (hb.cell hl).trans h1, (hb.cell hl).trans h2, (hb.cell hl).trans h3, (hb.cell hl).trans h4, (hb.cell hl).trans h5⟩

theorem wraps_i64 (n : Int) (h₀ : 0 ≤ n) (h₁ : n < 2 ^ 40) : IntKind.i64.wrap n = n := by rw [IntKind.wrap_i64]; omega
theorem mask_of (i : Nat) (hi : i ≤ 20) (x : Int) (h0 : 0 ≤ x) (h1 : x < 2 ^ 40) : bits .and .i64 x (2 ^ i - 1) = x % 2 ^ i := bits_mask .i64 40 (by decide) wraps_i64 i (by omega) x h0 h1
theorem and15 (x : Int) (h0 : 0 ≤ x) (h1 : x ≤ 200000000) : bits .and .i64 x 15 = x % 16 := mask_of 4 (by omega) x h0 (by omega)
theorem and7 (x : Int) (h0 : 0 ≤ x) (h1 : x ≤ 200000000) : bits .and .i64 x 7 = x % 8 := mask_of 3 (by omega) x h0 (by omega)
theorem and20 (x : Int) (h0 : 0 ≤ x) (h1 : x ≤ 200000000) : bits .and .i64 x 1048575 = x % 1048576 := mask_of 20 (by omega) x h0 (by omega)
theorem or_join (i : Nat) (a b : Int) (ha : 0 ≤ a) (ha1 : a < 2 ^ i) (ha2 : a < 2 ^ 40) (hb : 0 ≤ b) (hb1 : b % 2 ^ i = 0) (hb2 : b < 2 ^ 40) : bits .or .i64 a b = a + b := by
  have hc : bits .or .i64 a b = bits .or .i64 b a := by simp only [bits, BitVec.or_comm]
  rw [hc, bits_join .i64 40 (by decide) wraps_i64 i b a hb hb1 hb2 ha ha1 ha2]
  omega

set_option maxHeartbeats 400000 in
theorem of_part0 (w : World) (p : Nat) (h : Int) (hp : w.cell? ⟨p, 0, none⟩ = some (.int .i64 h)) (h0 : 0 ≤ h) (h1 : h ≤ 200000000) :
    Calls Tryz.prog 95 #[.agg #[.int .i64 0, .int .i64 4], .pointer (some ⟨p, 0, none⟩)] w fun e w' => e = .returned (.int .i64 (h%16)) ∧ Below w.heap.size w w' := by
  have hpl : p < w.heap.size := World.block_lt_of_cell? w _ hp
  have hL := Lib.hid (and15 h (by omega) (by omega))
  go_enter Tryz.func95, Tryz.ntmps95
  go_wp2
  go_quiet (fail)
  go_wp2
  go_ret
  exact ⟨by rw [hL.out]; rfl, by (repeat (first | with_reducible exact Below.refl _ _ | with_reducible assumption | with_reducible refine below_drewN ?_ _ | with_reducible refine Below.drew ?_ | with_reducible refine Below.alloc ?_ (by first | omega | (simp; omega) | simp) _ | with_reducible refine Below.setCell ?_ (by first | omega | (simp; omega) | simp) _))⟩
set_option maxHeartbeats 400000 in
theorem of_part1 (w : World) (p : Nat) (h : Int) (hp : w.cell? ⟨p, 0, none⟩ = some (.int .i64 h)) (h0 : 0 ≤ h) (h1 : h ≤ 200000000) :
    Calls Tryz.prog 95 #[.agg #[.int .i64 4, .int .i64 3], .pointer (some ⟨p, 0, none⟩)] w fun e w' => e = .returned (.int .i64 (h/16%8)) ∧ Below w.heap.size w w' := by
  have hpl : p < w.heap.size := World.block_lt_of_cell? w _ hp
  have hL := Lib.hid (and7 (h/16) (by omega) (by omega))
  go_enter Tryz.func95, Tryz.ntmps95
  go_wp2
  go_quiet (fail)
  go_wp2
  go_ret
  exact ⟨by rw [hL.out]; rfl, by (repeat (first | with_reducible exact Below.refl _ _ | with_reducible assumption | with_reducible refine below_drewN ?_ _ | with_reducible refine Below.drew ?_ | with_reducible refine Below.alloc ?_ (by first | omega | (simp; omega) | simp) _ | with_reducible refine Below.setCell ?_ (by first | omega | (simp; omega) | simp) _))⟩
set_option maxHeartbeats 400000 in
theorem of_part2 (w : World) (p : Nat) (h : Int) (hp : w.cell? ⟨p, 0, none⟩ = some (.int .i64 h)) (h0 : 0 ≤ h) (h1 : h ≤ 200000000) :
    Calls Tryz.prog 95 #[.agg #[.int .i64 7, .int .i64 20], .pointer (some ⟨p, 0, none⟩)] w fun e w' => e = .returned (.int .i64 (h/128%1048576)) ∧ Below w.heap.size w w' := by
  have hpl : p < w.heap.size := World.block_lt_of_cell? w _ hp
  have hL := Lib.hid (and20 (h/128) (by omega) (by omega))
  go_enter Tryz.func95, Tryz.ntmps95
  go_wp2
  go_quiet (fail)
  go_wp2
  go_ret
  exact ⟨by rw [hL.out]; rfl, by (repeat (first | with_reducible exact Below.refl _ _ | with_reducible assumption | with_reducible refine below_drewN ?_ _ | with_reducible refine Below.drew ?_ | with_reducible refine Below.alloc ?_ (by first | omega | (simp; omega) | simp) _ | with_reducible refine Below.setCell ?_ (by first | omega | (simp; omega) | simp) _))⟩

set_option maxHeartbeats 400000 in
theorem of_mk (w : World) (h : Int) : Calls Tryz.prog 69 #[.int .i64 h] w fun e w' => e = .returned (.func (.func 95) #[] #[.pointer (some ⟨w.heap.size, 0, none⟩)]) ∧ w.alloc (.cells #[.int .i64 h] 3) = w' := by
  go_enter Tryz.func69, Tryz.ntmps69
  go_wp2
  go_ret
  exact ⟨rfl, rfl⟩

set_option maxHeartbeats 400000 in
theorem word_yes (w : World) (h : Int) (h0 : 0 ≤ h) (h1 : h ≤ 200000000) : Calls Tryz.prog 70 #[.int .i64 h] w fun e w' => e = .returned (.bool true) ∧ w = w' := by
  have b1 : decide (h ≤ 1099511627775) = true := by simp; omega
  go_enter Tryz.func70, Tryz.ntmps70
  go_wp2
  go_ret
  exact ⟨rfl, rfl⟩

set_option maxHeartbeats 1000000 in
theorem formed_yes (w : World) (h : Int) (hd : Hd w) (h0 : 0 ≤ h) (h1 : h < 134217728) (h2 : h / 16 % 8 ≤ 4) : Calls Tryz.prog 97 #[.int .i64 h] w fun e w' => e = .returned (.bool true) ∧ Below w.heap.size w w' := by
  obtain ⟨d0, d1, d2, d3, d4, d5⟩ := hd
  have hl := World.block_lt_of_cell? w _ d0
  have b27 : (h / 134217728 == 0) = true := by simp; omega
  go_enter Tryz.func97, Tryz.ntmps97
  go_wp2_with fail
  go_region_held3 (fun w' => w'.cell? ⟨2, 2, none⟩ = some (.int .i64 4) ∧ w'.cell? ⟨2, 3, none⟩ = some (.int .i64 3)) (go_keep)
    (first
      | (go_at_call 70; refine (word_yes _ h h0 (by omega)).mono ?_; rintro e w' ⟨rfl, rfl⟩)
      | (go_at_call 69; refine (of_mk _ h).mono ?_; rintro e w' ⟨rfl, rfl⟩)
      | (go_at_call 95; refine (of_part1 _ _ h (by go_simp) h0 (by omega)).mono ?_; rintro e wa ⟨rfl, ba0⟩; (have ba : Below w.heap.size w wa := Below.trans (by (repeat (first | with_reducible exact Below.refl _ _ | with_reducible assumption | with_reducible refine below_drewN ?_ _ | with_reducible refine Below.drew ?_ | with_reducible refine Below.alloc ?_ (by first | omega | (simp; omega) | simp) _ | with_reducible refine Below.setCell ?_ (by first | omega | (simp; omega) | simp) _))) (ba0.mono (by simp))); (have e0 := (ba.cell (p := ⟨2, 0, none⟩) hl).trans d0); (have e1 := (ba.cell (p := ⟨2, 1, none⟩) hl).trans d1); (have e2 := (ba.cell (p := ⟨2, 2, none⟩) hl).trans d2); (have e3 := (ba.cell (p := ⟨2, 3, none⟩) hl).trans d3); (have e4 := (ba.cell (p := ⟨2, 4, none⟩) hl).trans d4); (have e5 := (ba.cell (p := ⟨2, 5, none⟩) hl).trans d5); (have lba := ba.size)))
  go_wp2_with fail
  go_ret
  exact ⟨rfl, ba⟩

set_option maxHeartbeats 1000000 in
theorem header0 (w : World) (h : Int) (hd : Hd w) (h0 : 0 ≤ h) (h1 : h < 134217728) (h2 : h / 16 % 8 ≤ 4) : Calls Tryz.prog 99 #[.int .i64 h, .int .i64 0] w fun e w' => e = .returned (.int .i64 (h % 16)) ∧ Below w.heap.size w w' := by
  go_enter Tryz.func99, Tryz.ntmps99
  go_wp2_with fail
  refine (formed_yes _ h hd h0 h1 h2).mono ?_
  rintro e w1 ⟨rfl, hb1⟩
  obtain ⟨d0, d1, d2, d3, d4, d5⟩ := hd.below hb1
  have hl := World.block_lt_of_cell? w1 _ d0
  clear hd
  go_wp2_with fail
  go_region_held3 (fun w' => w'.cell? ⟨2, 0, none⟩ = some (.int .i64 0) ∧ w'.cell? ⟨2, 1, none⟩ = some (.int .i64 4)) (go_keep)
    (first
      | (go_at_call 69; refine (of_mk _ h).mono ?_; rintro e w' ⟨rfl, rfl⟩)
      | (go_at_call 95; refine (of_part0 _ _ h (by go_simp) h0 (by omega)).mono ?_; rintro e wa ⟨rfl, ba0⟩; (have ba : Below w1.heap.size w1 wa := Below.trans (by (repeat (first | with_reducible exact Below.refl _ _ | with_reducible assumption | with_reducible refine below_drewN ?_ _ | with_reducible refine Below.drew ?_ | with_reducible refine Below.alloc ?_ (by first | omega | (simp; omega) | simp) _ | with_reducible refine Below.setCell ?_ (by first | omega | (simp; omega) | simp) _))) (ba0.mono (by simp))); (have e0 := (ba.cell (p := ⟨2, 0, none⟩) hl).trans d0); (have e1 := (ba.cell (p := ⟨2, 1, none⟩) hl).trans d1); (have e2 := (ba.cell (p := ⟨2, 2, none⟩) hl).trans d2); (have e3 := (ba.cell (p := ⟨2, 3, none⟩) hl).trans d3); (have e4 := (ba.cell (p := ⟨2, 4, none⟩) hl).trans d4); (have e5 := (ba.cell (p := ⟨2, 5, none⟩) hl).trans d5); (have lba := ba.size)))
  go_wp2_with fail
  go_ret
  exact ⟨rfl, hb1.trans (ba.mono hb1.size)⟩

set_option maxHeartbeats 400000 in
theorem partKind (w : World) (h : Int) (hd : Hd w) (h0 : 0 ≤ h) (h1 : h < 134217728) (h2 : h / 16 % 8 ≤ 4) : Calls Tryz.prog 73 #[.int .i64 h] w fun e w' => e = .returned (.int .i64 (h % 16)) ∧ Below w.heap.size w w' := by
  go_enter Tryz.func73, Tryz.ntmps73
  go_wp2_with fail
  refine (header0 _ h hd h0 h1 h2).mono ?_
  rintro e w1 ⟨rfl, hb1⟩
  go_wp2_with fail
  go_ret
  exact ⟨rfl, hb1⟩

set_option maxHeartbeats 1000000 in
theorem header1 (w : World) (h : Int) (hd : Hd w) (h0 : 0 ≤ h) (h1 : h < 134217728) (h2 : h / 16 % 8 ≤ 4) : Calls Tryz.prog 99 #[.int .i64 h, .int .i64 1] w fun e w' => e = .returned (.int .i64 (h / 16 % 8)) ∧ Below w.heap.size w w' := by
  go_enter Tryz.func99, Tryz.ntmps99
  go_wp2_with fail
  refine (formed_yes _ h hd h0 h1 h2).mono ?_
  rintro e w1 ⟨rfl, hb1⟩
  obtain ⟨d0, d1, d2, d3, d4, d5⟩ := hd.below hb1
  have hl := World.block_lt_of_cell? w1 _ d0
  clear hd
  go_wp2_with fail
  go_region_held3 (fun w' => w'.cell? ⟨2, 2, none⟩ = some (.int .i64 4) ∧ w'.cell? ⟨2, 3, none⟩ = some (.int .i64 3)) (go_keep)
    (first
      | (go_at_call 69; refine (of_mk _ h).mono ?_; rintro e w' ⟨rfl, rfl⟩)
      | (go_at_call 95; refine (of_part1 _ _ h (by go_simp) h0 (by omega)).mono ?_; rintro e wa ⟨rfl, ba0⟩; (have ba : Below w1.heap.size w1 wa := Below.trans (by (repeat (first | with_reducible exact Below.refl _ _ | with_reducible assumption | with_reducible refine below_drewN ?_ _ | with_reducible refine Below.drew ?_ | with_reducible refine Below.alloc ?_ (by first | omega | (simp; omega) | simp) _ | with_reducible refine Below.setCell ?_ (by first | omega | (simp; omega) | simp) _))) (ba0.mono (by simp))); (have e0 := (ba.cell (p := ⟨2, 0, none⟩) hl).trans d0); (have e1 := (ba.cell (p := ⟨2, 1, none⟩) hl).trans d1); (have e2 := (ba.cell (p := ⟨2, 2, none⟩) hl).trans d2); (have e3 := (ba.cell (p := ⟨2, 3, none⟩) hl).trans d3); (have e4 := (ba.cell (p := ⟨2, 4, none⟩) hl).trans d4); (have e5 := (ba.cell (p := ⟨2, 5, none⟩) hl).trans d5); (have lba := ba.size)))
  go_wp2_with fail
  go_ret
  exact ⟨rfl, hb1.trans (ba.mono hb1.size)⟩

set_option maxHeartbeats 400000 in
theorem partClass (w : World) (h : Int) (hd : Hd w) (h0 : 0 ≤ h) (h1 : h < 134217728) (h2 : h / 16 % 8 ≤ 4) : Calls Tryz.prog 98 #[.int .i64 h] w fun e w' => e = .returned (.int .i64 (h / 16 % 8)) ∧ Below w.heap.size w w' := by
  go_enter Tryz.func98, Tryz.ntmps98
  go_wp2_with fail
  refine (header1 _ h hd h0 h1 h2).mono ?_
  rintro e w1 ⟨rfl, hb1⟩
  go_wp2_with fail
  go_ret
  exact ⟨rfl, hb1⟩

set_option maxHeartbeats 1000000 in
theorem header2 (w : World) (h : Int) (hd : Hd w) (h0 : 0 ≤ h) (h1 : h < 134217728) (h2 : h / 16 % 8 ≤ 4) : Calls Tryz.prog 99 #[.int .i64 h, .int .i64 2] w fun e w' => e = .returned (.int .i64 (h / 128 % 1048576)) ∧ Below w.heap.size w w' := by
  go_enter Tryz.func99, Tryz.ntmps99
  go_wp2_with fail
  refine (formed_yes _ h hd h0 h1 h2).mono ?_
  rintro e w1 ⟨rfl, hb1⟩
  obtain ⟨d0, d1, d2, d3, d4, d5⟩ := hd.below hb1
  have hl := World.block_lt_of_cell? w1 _ d0
  clear hd
  go_wp2_with fail
  go_region_held3 (fun w' => w'.cell? ⟨2, 4, none⟩ = some (.int .i64 7) ∧ w'.cell? ⟨2, 5, none⟩ = some (.int .i64 20)) (go_keep)
    (first
      | (go_at_call 69; refine (of_mk _ h).mono ?_; rintro e w' ⟨rfl, rfl⟩)
      | (go_at_call 95; refine (of_part2 _ _ h (by go_simp) h0 (by omega)).mono ?_; rintro e wa ⟨rfl, ba0⟩; (have ba : Below w1.heap.size w1 wa := Below.trans (by (repeat (first | with_reducible exact Below.refl _ _ | with_reducible assumption | with_reducible refine below_drewN ?_ _ | with_reducible refine Below.drew ?_ | with_reducible refine Below.alloc ?_ (by first | omega | (simp; omega) | simp) _ | with_reducible refine Below.setCell ?_ (by first | omega | (simp; omega) | simp) _))) (ba0.mono (by simp))); (have e0 := (ba.cell (p := ⟨2, 0, none⟩) hl).trans d0); (have e1 := (ba.cell (p := ⟨2, 1, none⟩) hl).trans d1); (have e2 := (ba.cell (p := ⟨2, 2, none⟩) hl).trans d2); (have e3 := (ba.cell (p := ⟨2, 3, none⟩) hl).trans d3); (have e4 := (ba.cell (p := ⟨2, 4, none⟩) hl).trans d4); (have e5 := (ba.cell (p := ⟨2, 5, none⟩) hl).trans d5); (have lba := ba.size)))
  go_wp2_with fail
  go_ret
  exact ⟨rfl, hb1.trans (ba.mono hb1.size)⟩

set_option maxHeartbeats 400000 in
theorem partGeneration (w : World) (h : Int) (hd : Hd w) (h0 : 0 ≤ h) (h1 : h < 134217728) (h2 : h / 16 % 8 ≤ 4) : Calls Tryz.prog 74 #[.int .i64 h] w fun e w' => e = .returned (.int .i64 (h / 128 % 1048576)) ∧ Below w.heap.size w w' := by
  go_enter Tryz.func74, Tryz.ntmps74
  go_wp2_with fail
  refine (header2 _ h hd h0 h1 h2).mono ?_
  rintro e w1 ⟨rfl, hb1⟩
  go_wp2_with fail
  go_ret
  exact ⟨rfl, hb1⟩

theorem run_index0 (w : World) (a b c : Int) : (Instr.index 163 (.agg #[.int .i64 a, .int .i64 b, .int .i64 c]) (.int .i64 0)).run Tryz.prog w = .ok (.int .i64 a) w := by kernel_rfl
theorem run_index1 (w : World) (a b c : Int) : (Instr.index 163 (.agg #[.int .i64 a, .int .i64 b, .int .i64 c]) (.int .i64 1)).run Tryz.prog w = .ok (.int .i64 b) w := by kernel_rfl
theorem run_index2 (w : World) (a b c : Int) : (Instr.index 163 (.agg #[.int .i64 a, .int .i64 b, .int .i64 c]) (.int .i64 2)).run Tryz.prog w = .ok (.int .i64 c) w := by kernel_rfl
attribute [go_sem high] run_index0 run_index1 run_index2

/-- The header of a block, as a number. -/
def packB (k c g : Int) : Int := k + 16 * c + 128 * g
theorem packB_parts {k c g : Int} (hk : 0 ≤ k) (hk1 : k ≤ 6) (hc : 0 ≤ c) (hc1 : c ≤ 4) (hg : 0 ≤ g) (hg1 : g ≤ 1048575) :
    0 ≤ packB k c g ∧ packB k c g < 134217728 ∧ packB k c g % 16 = k ∧ packB k c g / 16 % 8 = c ∧ packB k c g / 128 % 1048576 = g := by unfold packB; omega
/-- What is packed when the first n parts are in. -/
def packK (k c g : Int) : Nat → Int
  | 0 => 0
  | 1 => k
  | 2 => k + 16 * c
  | _ => packB k c g

set_option maxHeartbeats 1000000 in
theorem pack_calls (w : World) (k c g : Int) (hd : Hd w) (hk : 0 ≤ k) (hk1 : k ≤ 6) (hc : 0 ≤ c) (hc1 : c ≤ 4) (hg : 0 ≤ g) (hg1 : g ≤ 1048575) :
    Calls Tryz.prog 82 #[.int .i64 k, .int .i64 c, .int .i64 g] w fun e w' => e = .returned (.int .i64 (packB k c g)) ∧ w = w' := by
  obtain ⟨d0, d1, d2, d3, d4, d5⟩ := hd
  have j0 := Lib.hid (or_join 0 0 k (by omega) (by omega) (by omega) hk (by omega) (by omega))
  have j1 := Lib.hid (or_join 4 k (c * 16) hk (by omega) (by omega) (by omega) (by omega) (by omega))
  have j2 := Lib.hid (or_join 7 (k + 16 * c) (g * 128) (by omega) (by omega) (by omega) (by omega) (by omega) (by omega))
  go_enter Tryz.func82, Tryz.ntmps82
  go_wp2
  go_loop [7, 8, 9, 14] (fun o _ _ i => ∃ n : Nat, n ≤ 3 ∧ i = .int .i64 n ∧ o = .int .i64 (packK k c g n)) (fun _ _ _ i => 3 - (intOf i).toNat)
  case atStart => exact ⟨0, by omega, rfl, rfl⟩
  case round =>
    obtain ⟨n, hn, rfl, rfl⟩ := hrel
    match n, hn with
    | 0, _ =>
      rw [show packK k c g 0 = 0 from rfl]
      go_wp2
      go_round
      case rel => exact ⟨1, by omega, rfl, by rw [j0.out, show packK k c g 1 = k from rfl, Int.zero_add]⟩
      case measure => simp [intOf]
    | 1, _ =>
      rw [show packK k c g 1 = k from rfl]
      go_wp2
      go_round
      case rel => exact ⟨2, by omega, rfl, by rw [j1.out, show packK k c g 2 = k + 16 * c from rfl, Int.mul_comm]⟩
      case measure => simp [intOf]
    | 2, _ =>
      rw [show packK k c g 2 = k + 16 * c from rfl]
      go_wp2
      go_round
      case rel => exact ⟨3, by omega, rfl, by rw [j2.out, show packK k c g 3 = k + 16 * c + 128 * g from rfl, Int.mul_comm g]⟩
      case measure => simp [intOf]
    | 3, _ =>
      rw [show packK k c g 3 = packB k c g from rfl]
      go_wp2
      go_ret
      exact ⟨rfl, rfl⟩

set_option maxHeartbeats 1000000 in
theorem proper_yes (w : World) (k c g : Int) (hd : Hd w) (hk : 0 ≤ k) (hk1 : k ≤ 6) (hc : 0 ≤ c) (hc1 : c ≤ 4) (hg : 0 ≤ g) (hg1 : g ≤ 1048575) (h0 : packB k c g ≠ 0) (h1 : k ≠ 0 → 0 < g) :
    Calls Tryz.prog 72 #[.int .i64 (packB k c g), .int .i64 c] w fun e w' => e = .returned (.bool true) ∧ Below w.heap.size w w' := by
  obtain ⟨p0, p1, p2, p3, p4⟩ := packB_parts hk hk1 hc hc1 hg hg1
  have p5 : packB k c g / 16 % 8 ≤ 4 := by omega
  have b0 : (packB k c g == 0) = false := by simp [h0]
  have bc : (c != c) = false := by simp
  have P2 := Lib.hid p2
  have P3 := Lib.hid p3
  have P4 := Lib.hid p4
  clear p2 p3 p4 h0
  generalize packB k c g = h at *
  go_enter Tryz.func72, Tryz.ntmps72
  go_wp2_with fail
  refine (formed_yes _ h hd p0 p1 p5).mono ?_
  rintro e w1 ⟨rfl, hb1⟩
  have hd1 := hd.below hb1
  go_wp2_with fail
  refine (partClass _ h hd1 p0 p1 p5).mono ?_
  rintro e w2 ⟨rfl, hb2⟩
  rw [P3.out]
  have hd2 := hd1.below hb2
  have hB2 := hb1.trans (hb2.mono hb1.size)
  clear hb1 hb2 hd hd1
  go_wp2_with fail
  refine (partKind _ h hd2 p0 p1 p5).mono ?_
  rintro e w3 ⟨rfl, hb3⟩
  rw [P2.out]
  have hd3 := hd2.below hb3
  have hB3 := hB2.trans (hb3.mono hB2.size)
  clear hb3 hB2 hd2
  by_cases hkz : k = 0
  · have bk : (k == 0) = true := by simp [hkz]
    clear hkz h1
    go_wp2_with fail
    go_ret
    exact ⟨rfl, hB3⟩
  · have bk : (k == 0) = false := by simp [hkz]
    have hg2 := h1 hkz
    clear hkz h1
    go_wp2_with fail
    refine (partKind _ h hd3 p0 p1 p5).mono ?_
    rintro e w4 ⟨rfl, hb4⟩
    rw [P2.out]
    have hd4 := hd3.below hb4
    have hB4 := hB3.trans (hb4.mono hB3.size)
    clear hb4 hB3 hd3
    go_wp2_with fail
    refine (partGeneration _ h hd4 p0 p1 p5).mono ?_
    rintro e w5 ⟨rfl, hb5⟩
    rw [P4.out]
    have hB5 := hB4.trans (hb5.mono hB4.size)
    clear hb5 hB4 hd4
    go_wp2_with fail
    go_ret
    exact ⟨rfl, hB5⟩

set_option maxHeartbeats 1000000 in
theorem can_yes (w : World) (b : Bk) (hd : Hd w) (hC : CanB b) : Calls Tryz.prog 51 #[.agg #[.int .i64 (Bk.line b), .int .i64 (Bk.cls b), .int .i64 (Bk.kind b), .int .i64 (Bk.gen b)]] w fun e w' => e = .returned (.bool true) ∧ Below w.heap.size w w' := by
  obtain ⟨hk, hk1, hc, hc1, hg, hg1, h1⟩ := hC
  by_cases hz : b.kind = 0 ∧ b.gen = 0
  · have b1 : (b.kind == 0) = true := by simp [hz.1]
    have b2 : (b.gen == 0) = true := by simp [hz.2]
    clear hz h1
    go_enter Tryz.func51, Tryz.ntmps51
    go_wp2_with fail
    go_ret
    exact ⟨rfl, by (repeat (first | with_reducible exact Below.refl _ _ | with_reducible assumption | with_reducible refine below_drewN ?_ _ | with_reducible refine Below.drew ?_ | with_reducible refine Below.alloc ?_ (by first | omega | (simp; omega) | simp) _ | with_reducible refine Below.setCell ?_ (by first | omega | (simp; omega) | simp) _))⟩
  · have hp : packB b.kind b.cls b.gen ≠ 0 := by
      unfold packB
      intro h
      exact hz ⟨by omega, by omega⟩
    have bp : (packB b.kind b.cls b.gen != 0) = true := by simp [hp]
    by_cases hk0 : b.kind = 0
    · have b1 : (b.kind == 0) = true := by simp [hk0]
      have b2 : (b.gen == 0) = false := by simp; intro h; exact hz ⟨hk0, h⟩
      clear hz hk0
      have H1 := Lib.hid h1
      have HP := Lib.hid hp
      clear h1 hp
      go_enter Tryz.func51, Tryz.ntmps51
      go_wp2_with fail
      refine (pack_calls _ b.kind b.cls b.gen (hd.below (by (repeat (first | with_reducible exact Below.refl _ _ | with_reducible assumption | with_reducible refine below_drewN ?_ _ | with_reducible refine Below.drew ?_ | with_reducible refine Below.alloc ?_ (by first | omega | (simp; omega) | simp) _ | with_reducible refine Below.setCell ?_ (by first | omega | (simp; omega) | simp) _)))) hk hk1 hc hc1 hg hg1).mono ?_
      rintro e w1 ⟨rfl, rfl⟩
      go_wp2_with fail
      refine (proper_yes _ b.kind b.cls b.gen (hd.below (by (repeat (first | with_reducible exact Below.refl _ _ | with_reducible assumption | with_reducible refine below_drewN ?_ _ | with_reducible refine Below.drew ?_ | with_reducible refine Below.alloc ?_ (by first | omega | (simp; omega) | simp) _ | with_reducible refine Below.setCell ?_ (by first | omega | (simp; omega) | simp) _)))) hk hk1 hc hc1 hg hg1 HP.out H1.out).mono ?_
      rintro e w2 ⟨rfl, hb2⟩
      have hB2 : Below w.heap.size w w2 := Below.trans (by (repeat (first | with_reducible exact Below.refl _ _ | with_reducible assumption | with_reducible refine below_drewN ?_ _ | with_reducible refine Below.drew ?_ | with_reducible refine Below.alloc ?_ (by first | omega | (simp; omega) | simp) _ | with_reducible refine Below.setCell ?_ (by first | omega | (simp; omega) | simp) _))) (hb2.mono (by simp))
      clear hb2
      go_wp2_with fail
      go_ret
      exact ⟨rfl, hB2⟩
    · have b1 : (b.kind == 0) = false := by simp [hk0]
      clear hz hk0
      have H1 := Lib.hid h1
      have HP := Lib.hid hp
      clear h1 hp
      go_enter Tryz.func51, Tryz.ntmps51
      go_wp2_with fail
      refine (pack_calls _ b.kind b.cls b.gen (hd.below (by (repeat (first | with_reducible exact Below.refl _ _ | with_reducible assumption | with_reducible refine below_drewN ?_ _ | with_reducible refine Below.drew ?_ | with_reducible refine Below.alloc ?_ (by first | omega | (simp; omega) | simp) _ | with_reducible refine Below.setCell ?_ (by first | omega | (simp; omega) | simp) _)))) hk hk1 hc hc1 hg hg1).mono ?_
      rintro e w1 ⟨rfl, rfl⟩
      go_wp2_with fail
      refine (proper_yes _ b.kind b.cls b.gen (hd.below (by (repeat (first | with_reducible exact Below.refl _ _ | with_reducible assumption | with_reducible refine below_drewN ?_ _ | with_reducible refine Below.drew ?_ | with_reducible refine Below.alloc ?_ (by first | omega | (simp; omega) | simp) _ | with_reducible refine Below.setCell ?_ (by first | omega | (simp; omega) | simp) _)))) hk hk1 hc hc1 hg hg1 HP.out H1.out).mono ?_
      rintro e w2 ⟨rfl, hb2⟩
      have hB2 : Below w.heap.size w w2 := Below.trans (by (repeat (first | with_reducible exact Below.refl _ _ | with_reducible assumption | with_reducible refine below_drewN ?_ _ | with_reducible refine Below.drew ?_ | with_reducible refine Below.alloc ?_ (by first | omega | (simp; omega) | simp) _ | with_reducible refine Below.setCell ?_ (by first | omega | (simp; omega) | simp) _))) (hb2.mono (by simp))
      clear hb2
      go_wp2_with fail
      go_ret
      exact ⟨rfl, hB2⟩
end Go.Proofs.YtckamjbdogpacaaGreatDoor
