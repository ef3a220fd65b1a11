/-
  class.proper at every word and class; pointer.Right, Line, Gen at every pointer; the specification's Make.
  class: assigned and block through any loader, on the layouts of 64 to 103 lines.
-/
import Derived.Test.YtckamjbdogpacaaGreatDoorPtr
import Derived.Test.YtckamjbdogpacaaGreatDoorGView
namespace Go.Proofs.YtckamjbdogpacaaGreatDoor
open Go.RowKit
set_option linter.unusedSimpArgs false
set_option linter.unusedVariables false

theorem packw_parts {k c g : Int} (hk : 0 ≤ k) (hk1 : k ≤ 15) (hc : 0 ≤ c) (hc1 : c ≤ 4) (hg : 0 ≤ g) (hg1 : g ≤ 1048575) :
    0 ≤ packB k c g ∧ packB k c g < 134217728 ∧ packB k c g % 16 = k ∧ packB k c g / 16 % 8 = c ∧ packB k c g / 128 % 1048576 = g := by unfold packB; omega

set_option maxHeartbeats 1000000 in
/-- A header whose kind is none, or whose block was never taken. -/
theorem proper_no (w : World) (k c g : Int) (hd : Hd w) (hk : 0 < k) (hk1 : k ≤ 15) (hc : 0 ≤ c) (hc1 : c ≤ 4) (hg : 0 ≤ g) (hg1 : g ≤ 1048575) (hno : 6 < k ∨ g = 0) :
    Calls Tryz.prog 72 #[.int .i64 (packB k c g), .int .i64 c] w fun e w' => e = .returned (.bool false) ∧ Below w.heap.size w w' := by
  obtain ⟨p0, p1, p2, p3, p4⟩ := packw_parts (by omega : 0 ≤ k) hk1 hc hc1 hg hg1
  have p5 : packB k c g / 16 % 8 ≤ 4 := by omega
  have h0 : packB k c g ≠ 0 := by unfold packB; omega
  have b0 : (packB k c g == 0) = false := by simp [h0]
  have bc : (c != c) = false := by simp
  have P2 := Lib.hid p2
  have P3 := Lib.hid p3
  have P4 := Lib.hid p4
  clear p2 p3 p4 h0
  generalize packB k c g = h at *
  go_enter Tryz.func72, Tryz.ntmps72
  go_wp2_with fail
  refine (formed_yes _ h hd p0 p1 p5).mono ?_
  rintro e w1 ⟨rfl, hb1⟩
  have hd1 := hd.below hb1
  go_wp2_with fail
  refine (partClass _ h hd1 p0 p1 p5).mono ?_
  rintro e w2 ⟨rfl, hb2⟩
  rw [P3.out]
  have hd2 := hd1.below hb2
  have hB2 := hb1.trans (hb2.mono hb1.size)
  clear hb1 hb2 hd hd1
  go_wp2_with fail
  refine (partKind _ h hd2 p0 p1 p5).mono ?_
  rintro e w3 ⟨rfl, hb3⟩
  rw [P2.out]
  have hd3 := hd2.below hb3
  have hB3 := hB2.trans (hb3.mono hB2.size)
  clear hb3 hB2 hd2
  have bk : (k == 0) = false := by simp; omega
  go_wp2_with fail
  refine (partKind _ h hd3 p0 p1 p5).mono ?_
  rintro e w4 ⟨rfl, hb4⟩
  rw [P2.out]
  have hd4 := hd3.below hb4
  have hB4 := hB3.trans (hb4.mono hB3.size)
  clear hb4 hB3 hd3
  by_cases h6 : k ≤ 6
  · obtain rfl : g = 0 := by omega
    clear hno
    go_wp2_with fail
    refine (partGeneration _ h hd4 p0 p1 p5).mono ?_
    rintro e w5 ⟨rfl, hb5⟩
    rw [P4.out]
    have hB5 := hB4.trans (hb5.mono hB4.size)
    clear hb5 hB4 hd4
    go_wp2_with fail
    go_ret
    exact ⟨rfl, hB5⟩
  · clear hno
    go_wp2_with fail
    go_ret
    exact ⟨rfl, hB4⟩


set_option maxHeartbeats 400000 in
theorem wordy (w : World) (h : Int) (h0 : 0 ≤ h) (h1 : h ≤ 1099511627775) : Calls Tryz.prog 70 #[.int .i64 h] w fun e w' => e = .returned (.bool true) ∧ w = w' := by
  have b1 : decide (h ≤ 1099511627775) = true := by simp; omega
  go_enter Tryz.func70, Tryz.ntmps70
  go_wp2
  go_ret
  exact ⟨rfl, rfl⟩

set_option maxHeartbeats 1000000 in
theorem formed_big (w : World) (h : Int) (h0 : 134217728 ≤ h) (h1 : h ≤ 1099511627775) : Calls Tryz.prog 97 #[.int .i64 h] w fun e w' => e = .returned (.bool false) ∧ Below w.heap.size w w' := by
  have b27 : (h / 134217728 == 0) = false := by simp; omega
  go_enter Tryz.func97, Tryz.ntmps97
  go_wp2_with fail
  go_quiet (first | (go_at_call 70; refine Calls.quiet_of_same ((wordy _ h (by omega) h1).mono fun _ _ q => ⟨q.1, q.2.symm⟩)))
  go_wp2_with fail
  go_ret
  exact ⟨rfl, by (repeat (first | with_reducible exact Below.refl _ _ | with_reducible assumption | with_reducible refine below_drewN ?_ _ | with_reducible refine Below.drew ?_ | with_reducible refine Below.alloc ?_ (by first | omega | (simp; omega) | simp) _ | with_reducible refine Below.setCell ?_ (by first | omega | (simp; omega) | simp) _))⟩

set_option maxHeartbeats 1000000 in
theorem formed_cls (w : World) (h : Int) (hd : Hd w) (h0 : 0 ≤ h) (h1 : h < 134217728) (h2 : 4 < h / 16 % 8) : Calls Tryz.prog 97 #[.int .i64 h] w fun e w' => e = .returned (.bool false) ∧ Below w.heap.size w w' := by
  obtain ⟨d0, d1, d2, d3, d4, d5⟩ := hd
  have hl := World.block_lt_of_cell? w _ d0
  have b27 : (h / 134217728 == 0) = true := by simp; omega
  go_enter Tryz.func97, Tryz.ntmps97
  go_wp2_with fail
  go_region_held3 (fun w' => w'.cell? ⟨2, 2, none⟩ = some (.int .i64 4) ∧ w'.cell? ⟨2, 3, none⟩ = some (.int .i64 3)) (go_keep)
    (first
      | (go_at_call 70; refine (word_yes _ h h0 (by omega)).mono ?_; rintro e w' ⟨rfl, rfl⟩)
      | (go_at_call 69; refine (of_mk _ h).mono ?_; rintro e w' ⟨rfl, rfl⟩)
      | (go_at_call 95; refine (of_part1 _ _ h (by go_simp) h0 (by omega)).mono ?_; rintro e wa ⟨rfl, ba0⟩; (have ba : Below w.heap.size w wa := Below.trans (by (repeat (first | with_reducible exact Below.refl _ _ | with_reducible assumption | with_reducible refine below_drewN ?_ _ | with_reducible refine Below.drew ?_ | with_reducible refine Below.alloc ?_ (by first | omega | (simp; omega) | simp) _ | with_reducible refine Below.setCell ?_ (by first | omega | (simp; omega) | simp) _))) (ba0.mono (by simp))); (have e0 := (ba.cell (p := ⟨2, 0, none⟩) hl).trans d0); (have e1 := (ba.cell (p := ⟨2, 1, none⟩) hl).trans d1); (have e2 := (ba.cell (p := ⟨2, 2, none⟩) hl).trans d2); (have e3 := (ba.cell (p := ⟨2, 3, none⟩) hl).trans d3); (have e4 := (ba.cell (p := ⟨2, 4, none⟩) hl).trans d4); (have e5 := (ba.cell (p := ⟨2, 5, none⟩) hl).trans d5); (have lba := ba.size)))
  go_wp2_with fail
  go_ret
  exact ⟨by simp; omega, ba⟩

/-- Whether a word is a proper header for a class. -/
def properZ (h c : Int) : Bool := if h = 0 then true else if 134217728 ≤ h then false else if 4 < h / 16 % 8 then false else if h / 16 % 8 ≠ c then false else if h % 16 = 0 then true else decide (h % 16 ≤ 6 ∧ 1 ≤ h / 128 % 1048576)

set_option maxHeartbeats 1000000 in
theorem proper_not (w : World) (h c : Int) (h0 : 0 < h) (hf : ∀ w', Below w.heap.size w w' → Calls Tryz.prog 97 #[.int .i64 h] w' fun e w'' => e = .returned (.bool false) ∧ Below w'.heap.size w' w'') :
    Calls Tryz.prog 72 #[.int .i64 h, .int .i64 c] w fun e w' => e = .returned (.bool false) ∧ Below w.heap.size w w' := by
  have b0 : (h == 0) = false := by simp; omega
  have HF := Lib.hid hf
  clear hf
  go_enter Tryz.func72, Tryz.ntmps72
  go_wp2_with fail
  refine (HF.out _ (by (repeat (first | with_reducible exact Below.refl _ _ | with_reducible assumption | with_reducible refine below_drewN ?_ _ | with_reducible refine Below.drew ?_ | with_reducible refine Below.alloc ?_ (by first | omega | (simp; omega) | simp) _ | with_reducible refine Below.setCell ?_ (by first | omega | (simp; omega) | simp) _)))).mono ?_
  rintro e w1 ⟨rfl, hb1⟩
  go_wp2_with fail
  go_ret
  exact ⟨rfl, hb1⟩
set_option maxHeartbeats 1000000 in
theorem proper_other (w : World) (h c : Int) (hd : Hd w) (h0 : 0 < h) (h1 : h < 134217728) (h2 : h / 16 % 8 ≤ 4) (hc : h / 16 % 8 ≠ c) :
    Calls Tryz.prog 72 #[.int .i64 h, .int .i64 c] w fun e w' => e = .returned (.bool false) ∧ Below w.heap.size w w' := by
  have b0 : (h == 0) = false := by simp; omega
  have bc : (h / 16 % 8 != c) = true := by simp [hc]
  have p0 : 0 ≤ h := by omega
  go_enter Tryz.func72, Tryz.ntmps72
  go_wp2_with fail
  refine (formed_yes _ h hd p0 h1 h2).mono ?_
  rintro e w1 ⟨rfl, hb1⟩
  have hd1 := hd.below hb1
  go_wp2_with fail
  refine (partClass _ h hd1 p0 h1 h2).mono ?_
  rintro e w2 ⟨rfl, hb2⟩
  have hB2 := hb1.trans (hb2.mono hb1.size)
  clear hb1 hb2 hd hd1
  go_wp2_with fail
  go_ret
  exact ⟨rfl, hB2⟩

theorem proper_calls (w : World) (h c : Int) (hd : Hd w) (h0 : 0 ≤ h) (h1 : h ≤ 1099511627775) (hc : 0 ≤ c) (hc1 : c ≤ 4) :
    Calls Tryz.prog 72 #[.int .i64 h, .int .i64 c] w fun e w' => e = .returned (.bool (properZ h c)) ∧ Below w.heap.size w w' := by
  unfold properZ
  by_cases hz : h = 0
  · subst hz
    rw [if_pos rfl]
    exact proper_zero w c
  rw [if_neg hz]
  by_cases hb : 134217728 ≤ h
  · rw [if_pos hb]
    exact proper_not w h c (by omega) (fun w' _ => formed_big w' h hb h1)
  rw [if_neg hb]
  by_cases h4 : 4 < h / 16 % 8
  · rw [if_pos h4]
    exact proper_not w h c (by omega) (fun w' hw => formed_cls w' h (hd.below hw) h0 (by omega) h4)
  rw [if_neg h4]
  by_cases he : h / 16 % 8 ≠ c
  · rw [if_pos he]
    exact proper_other w h c hd (by omega) (by omega) (by omega) he
  rw [if_neg he]
  have hp : h = packB (h % 16) c (h / 128 % 1048576) := by unfold packB; omega
  by_cases hk : h % 16 = 0
  · rw [if_pos hk]
    have := proper_yes w (h % 16) c (h / 128 % 1048576) hd (by omega) (by omega) hc hc1 (by omega) (by omega) (by rw [← hp]; exact hz) (fun hn => absurd hk hn)
    rw [← hp] at this
    exact this
  rw [if_neg hk]
  by_cases hg : h % 16 ≤ 6 ∧ 1 ≤ h / 128 % 1048576
  · rw [decide_eq_true hg]
    have := proper_yes w (h % 16) c (h / 128 % 1048576) hd (by omega) (by omega) hc hc1 (by omega) (by omega) (by rw [← hp]; exact hz) (fun _ => by omega)
    rw [← hp] at this
    exact this
  · rw [decide_eq_false hg]
    have := proper_no w (h % 16) c (h / 128 % 1048576) hd (by omega) (by omega) hc hc1 (by omega) (by omega) (by omega)
    rw [← hp] at this
    exact this
/-- What a proper header tells. -/
theorem properZ_parts {h c : Int} (hp : properZ h c = true) (h0 : 0 ≤ h) (hc : 0 ≤ c) (hc1 : c ≤ 4) : h < 134217728 ∧ h / 16 % 8 ≤ 4 ∧ (h % 16 = 0 ∨ 1 ≤ h / 128 % 1048576) := by
  unfold properZ at hp
  repeat' split at hp
  all_goals first | (cases hp; done) | (simp at hp; omega) | omega

/-- A pointer, as a number. -/
def ptrZ (ln g : Int) : Int := ln + g * 4096
theorem ptrZ_parts {ln g : Int} (h0 : 1 ≤ ln) (h1 : ln ≤ 4095) (g0 : 1 ≤ g) (g1 : g ≤ 1048575) : 0 < ptrZ ln g ∧ ptrZ ln g < 4294967296 ∧ ptrZ ln g % 4096 = ln ∧ ptrZ ln g / 4096 % 1048576 = g ∧ ptrZ ln g / 4294967296 = 0 := by unfold ptrZ; omega

set_option maxHeartbeats 400000 in
theorem rmake_calls (w : World) (ln g : Int) (h0 : 1 ≤ ln) (h1 : ln ≤ 4095) (g0 : 1 ≤ g) (g1 : g ≤ 1048575) : Calls Tryz.prog 8 #[.int .i64 ln, .int .i64 g] w fun e w' => e = .returned (.int .i64 (ptrZ ln g)) ∧ w = w' := by
  go_enter Tryz.func8, Tryz.ntmps8
  go_wp2
  go_ret
  exact ⟨rfl, rfl⟩

theorem and12 (x : Int) (h0 : 0 ≤ x) (h1 : x < 4294967296) : bits .and .i64 x 4095 = x % 4096 := mask_of 12 (by omega) x h0 (by omega)
theorem and20' (x : Int) (h0 : 0 ≤ x) (h1 : x < 4294967296) : bits .and .i64 x 1048575 = x % 1048576 := mask_of 20 (by omega) x h0 (by omega)

set_option maxHeartbeats 400000 in
theorem of_pt0 (w : World) (p : Nat) (h : Int) (hp : w.cell? ⟨p, 0, none⟩ = some (.int .i64 h)) (h0 : 0 ≤ h) (h1 : h < 4294967296) :
    Calls Tryz.prog 95 #[.agg #[.int .i64 0, .int .i64 12], .pointer (some ⟨p, 0, none⟩)] w fun e w' => e = .returned (.int .i64 (h%4096)) ∧ Below w.heap.size w w' := by
  have hpl : p < w.heap.size := World.block_lt_of_cell? w _ hp
  have hL := Lib.hid (and12 h (by omega) (by omega))
  go_enter Tryz.func95, Tryz.ntmps95
  go_wp2
  go_quiet (fail)
  go_wp2
  go_ret
  exact ⟨by rw [hL.out]; rfl, by (repeat (first | with_reducible exact Below.refl _ _ | with_reducible assumption | with_reducible refine below_drewN ?_ _ | with_reducible refine Below.drew ?_ | with_reducible refine Below.alloc ?_ (by first | omega | (simp; omega) | simp) _ | with_reducible refine Below.setCell ?_ (by first | omega | (simp; omega) | simp) _))⟩
set_option maxHeartbeats 400000 in
theorem of_pt12 (w : World) (p : Nat) (h : Int) (hp : w.cell? ⟨p, 0, none⟩ = some (.int .i64 h)) (h0 : 0 ≤ h) (h1 : h < 4294967296) :
    Calls Tryz.prog 95 #[.agg #[.int .i64 12, .int .i64 20], .pointer (some ⟨p, 0, none⟩)] w fun e w' => e = .returned (.int .i64 (h/4096%1048576)) ∧ Below w.heap.size w w' := by
  have hpl : p < w.heap.size := World.block_lt_of_cell? w _ hp
  have hL := Lib.hid (and20' (h/4096) (by omega) (by omega))
  go_enter Tryz.func95, Tryz.ntmps95
  go_wp2
  go_quiet (fail)
  go_wp2
  go_ret
  exact ⟨by rw [hL.out]; rfl, by (repeat (first | with_reducible exact Below.refl _ _ | with_reducible assumption | with_reducible refine below_drewN ?_ _ | with_reducible refine Below.drew ?_ | with_reducible refine Below.alloc ?_ (by first | omega | (simp; omega) | simp) _ | with_reducible refine Below.setCell ?_ (by first | omega | (simp; omega) | simp) _))⟩

set_option maxRecDepth 100000 in
set_option maxHeartbeats 2000000 in
theorem right_calls (w : World) (ln g p : Int) (hp : Pt w) (hpp : p = ptrZ ln g) (l0 : 1 ≤ ln) (l1 : ln ≤ 4095) (g0 : 1 ≤ g) (g1 : g ≤ 1048575) : Calls Tryz.prog 35 #[.int .i64 p] w fun e w' => e = .returned (.bool true) ∧ Below w.heap.size w w' := by
  obtain ⟨d0, d1, d2, d3⟩ := hp
  have hl := World.block_lt_of_cell? w _ d0
  obtain ⟨p0, p1, p2, p3, p4⟩ := ptrZ_parts l0 l1 g0 g1
  rw [← hpp] at p0 p1 p2 p3 p4
  have bp : (p == 0) = false := by simp; omega
  have P2 := Lib.hid p2
  have P3 := Lib.hid p3
  have p0' : 0 ≤ p := by omega
  clear hpp p2 p3
  go_enter Tryz.func35, Tryz.ntmps35
  go_wp2_with fail
  refine (of_mk _ p).mono ?_
  rintro e w1 ⟨rfl, hw1⟩
  have hc : w1.cell? ⟨w.heap.size, 0, none⟩ = some (.int .i64 p) := by rw [← hw1]; exact (Cl.new _ _ _).cell 0
  have hB : Below w.heap.size w w1 := by rw [← hw1]; (repeat (first | with_reducible exact Below.refl _ _ | with_reducible assumption | with_reducible refine below_drewN ?_ _ | with_reducible refine Below.drew ?_ | with_reducible refine Below.alloc ?_ (by first | omega | (simp; omega) | simp) _ | with_reducible refine Below.setCell ?_ (by first | omega | (simp; omega) | simp) _))
  have c0 := (hB.cell (p := ⟨0, 0, none⟩) hl).trans d0
  have c1 := (hB.cell (p := ⟨0, 1, none⟩) hl).trans d1
  have c2 := (hB.cell (p := ⟨0, 2, none⟩) hl).trans d2
  have c3 := (hB.cell (p := ⟨0, 3, none⟩) hl).trans d3
  clear hw1 d0 d1 d2 d3
  go_wp2_with fail
  refine (wordy _ p p0' (by omega)).mono ?_
  rintro e w' ⟨rfl, rfl⟩
  go_wp2_with fail
  refine (of_pt0 _ _ p hc p0' p1).mono ?_
  rintro e w2 ⟨rfl, hb2⟩
  rw [P2.out]
  have hlc := World.block_lt_of_cell? w1 _ hc
  have hl1 : 0 < w1.heap.size := by have := hB.size; omega
  have hc2 := (hb2.cell (p := ⟨w.heap.size, 0, none⟩) hlc).trans hc
  have e2 := (hb2.cell (p := ⟨0, 2, none⟩) hl1).trans c2
  have e3 := (hb2.cell (p := ⟨0, 3, none⟩) hl1).trans c3
  have hB2 := hB.trans (hb2.mono hB.size)
  clear hb2 hB hc c0 c1 c2 c3 hlc hl1
  go_wp2_with fail
  refine (of_pt12 _ _ p hc2 p0' p1).mono ?_
  rintro e w3 ⟨rfl, hb3⟩
  rw [P3.out]
  have hB3 := hB2.trans (hb3.mono hB2.size)
  clear hb3 hB2 hc2 e2 e3
  go_wp2_with fail
  go_ret
  exact ⟨by simp; omega, hB3⟩

set_option maxRecDepth 100000 in
set_option maxHeartbeats 2000000 in
theorem ptrLine_calls (w : World) (ln g p : Int) (hp : Pt w) (hpp : p = ptrZ ln g) (l0 : 1 ≤ ln) (l1 : ln ≤ 4095) (g0 : 1 ≤ g) (g1 : g ≤ 1048575) : Calls Tryz.prog 38 #[.int .i64 p] w fun e w' => e = .returned (.int .i64 ln) ∧ Below w.heap.size w w' := by
  have HR := Lib.hid (right_calls w ln g p hp hpp l0 l1 g0 g1)
  obtain ⟨p0, p1, p2, p3, p4⟩ := ptrZ_parts l0 l1 g0 g1
  rw [← hpp] at p0 p1 p2 p3 p4
  have P2 := Lib.hid p2
  have P3 := Lib.hid p3
  have p0' : 0 ≤ p := by omega
  clear hpp p2 p3
  go_enter Tryz.func38, Tryz.ntmps38
  go_wp2_with fail
  refine HR.out.mono ?_
  rintro e w1 ⟨rfl, hb1⟩
  obtain ⟨d0, d1, d2, d3⟩ := hp.below hb1
  have hl := World.block_lt_of_cell? w1 _ d0
  clear hp
  go_wp2_with fail
  go_region_held3 (fun w' => w'.cell? ⟨0, 0, none⟩ = some (.int .i64 0) ∧ w'.cell? ⟨0, 1, none⟩ = some (.int .i64 12)) (go_keep)
    (first
      | (go_at_call 69; refine (of_mk _ p).mono ?_; rintro e w' ⟨rfl, rfl⟩)
      | (go_at_call 95; refine (of_pt0 _ _ p (by go_simp) p0' p1).mono ?_; rintro e wa ⟨rfl, ba0⟩; (rw [P2.out]); (have ba : Below w1.heap.size w1 wa := Below.trans (by (repeat (first | with_reducible exact Below.refl _ _ | with_reducible assumption | with_reducible refine below_drewN ?_ _ | with_reducible refine Below.drew ?_ | with_reducible refine Below.alloc ?_ (by first | omega | (simp; omega) | simp) _ | with_reducible refine Below.setCell ?_ (by first | omega | (simp; omega) | simp) _))) (ba0.mono (by simp))); (have e0 := (ba.cell (p := ⟨0, 0, none⟩) hl).trans d0); (have e1 := (ba.cell (p := ⟨0, 1, none⟩) hl).trans d1); (have e2 := (ba.cell (p := ⟨0, 2, none⟩) hl).trans d2); (have e3 := (ba.cell (p := ⟨0, 3, none⟩) hl).trans d3); (have lba := ba.size)))
  go_wp2_with fail
  go_ret
  exact ⟨rfl, hb1.trans (ba.mono hb1.size)⟩
set_option maxRecDepth 100000 in
set_option maxHeartbeats 2000000 in
theorem ptrGen_calls (w : World) (ln g p : Int) (hp : Pt w) (hpp : p = ptrZ ln g) (l0 : 1 ≤ ln) (l1 : ln ≤ 4095) (g0 : 1 ≤ g) (g1 : g ≤ 1048575) : Calls Tryz.prog 39 #[.int .i64 p] w fun e w' => e = .returned (.int .i64 g) ∧ Below w.heap.size w w' := by
  have HR := Lib.hid (right_calls w ln g p hp hpp l0 l1 g0 g1)
  obtain ⟨p0, p1, p2, p3, p4⟩ := ptrZ_parts l0 l1 g0 g1
  rw [← hpp] at p0 p1 p2 p3 p4
  have P2 := Lib.hid p2
  have P3 := Lib.hid p3
  have p0' : 0 ≤ p := by omega
  clear hpp p2 p3
  go_enter Tryz.func39, Tryz.ntmps39
  go_wp2_with fail
  refine HR.out.mono ?_
  rintro e w1 ⟨rfl, hb1⟩
  obtain ⟨d0, d1, d2, d3⟩ := hp.below hb1
  have hl := World.block_lt_of_cell? w1 _ d0
  clear hp
  go_wp2_with fail
  go_region_held3 (fun w' => w'.cell? ⟨0, 2, none⟩ = some (.int .i64 12) ∧ w'.cell? ⟨0, 3, none⟩ = some (.int .i64 20)) (go_keep)
    (first
      | (go_at_call 69; refine (of_mk _ p).mono ?_; rintro e w' ⟨rfl, rfl⟩)
      | (go_at_call 95; refine (of_pt12 _ _ p (by go_simp) p0' p1).mono ?_; rintro e wa ⟨rfl, ba0⟩; (rw [P3.out]); (have ba : Below w1.heap.size w1 wa := Below.trans (by (repeat (first | with_reducible exact Below.refl _ _ | with_reducible assumption | with_reducible refine below_drewN ?_ _ | with_reducible refine Below.drew ?_ | with_reducible refine Below.alloc ?_ (by first | omega | (simp; omega) | simp) _ | with_reducible refine Below.setCell ?_ (by first | omega | (simp; omega) | simp) _))) (ba0.mono (by simp))); (have e0 := (ba.cell (p := ⟨0, 0, none⟩) hl).trans d0); (have e1 := (ba.cell (p := ⟨0, 1, none⟩) hl).trans d1); (have e2 := (ba.cell (p := ⟨0, 2, none⟩) hl).trans d2); (have e3 := (ba.cell (p := ⟨0, 3, none⟩) hl).trans d3); (have lba := ba.size)))
  go_wp2_with fail
  go_ret
  exact ⟨rfl, hb1.trans (ba.mono hb1.size)⟩
end Go.Proofs.YtckamjbdogpacaaGreatDoor

namespace Go.Proofs.YtckamjbdogpacaaGreatDoor
open Go.RowKit
set_option linter.unusedSimpArgs false
set_option linter.unusedVariables false

/-- The class to which a chunk is assigned, out of what its word shows. -/
def asgZ (x e : Int) : Int × Int := if e = 0 then (if 5 < x then (0, 3) else (x - 1, 0)) else (0, e)
/-- The block that begins at a line of a chunk of the class c, out of what its first word shows. -/
def blkZ (ln c h e : Int) : Bk × Int := if e = 0 then (if properZ h c then ((ln, c, h % 16, h / 128 % 1048576), 0) else ((0, 0, 0, 0), 3)) else ((0, 0, 0, 0), e)

set_option maxRecDepth 100000 in
set_option maxHeartbeats 1000000 in
theorem assignedG_calls (w : World) (g : Nat) (lL C k x e : Int) (hk0 : 0 ≤ k) (hk1 : k < C) (hC : C ≤ 5) (hA : LdG w g (112 + k) x e) (hx0 : 0 ≤ x) (hx1 : x ≤ 1099511627775) :
    Calls Tryz.prog 43 #[.func (.func 42) #[.pointer (some ⟨g, 0, none⟩)] #[], .agg #[.int .i64 lL, .int .i64 2, .int .i64 8, .int .i64 10, .int .i64 4, .int .i64 14, .int .i64 16, .int .i64 C], .int .i64 k] w
      fun en w' => en = .returned (.tuple #[.int .i64 (asgZ x e).1, .int .i64 (asgZ x e).2]) ∧ Below w.heap.size w w' := by
  have h3 : ¬ C ≤ k := by omega
  by_cases he : e = 0
  · subst he
    by_cases h5 : 5 < x
    · have HZ : Hid (asgZ x 0 = (0, 3)) := by show asgZ x 0 = (0, 3); unfold asgZ; rw [if_pos rfl, if_pos h5]
      go_enter Tryz.func43, Tryz.ntmps43
      go_wp2_with fail
      refine (hA _ (by (repeat (first | with_reducible exact Below.refl _ _ | with_reducible assumption | with_reducible refine below_drewN ?_ _ | with_reducible refine Below.drew ?_ | with_reducible refine Below.alloc ?_ (by first | omega | (simp; omega) | simp) _ | with_reducible refine Below.setCell ?_ (by first | omega | (simp; omega) | simp) _)))).mono ?_
      rintro e w1 ⟨rfl, hb1⟩
      have hB : Below w.heap.size w w1 := Below.trans (by (repeat (first | with_reducible exact Below.refl _ _ | with_reducible assumption | with_reducible refine below_drewN ?_ _ | with_reducible refine Below.drew ?_ | with_reducible refine Below.alloc ?_ (by first | omega | (simp; omega) | simp) _ | with_reducible refine Below.setCell ?_ (by first | omega | (simp; omega) | simp) _))) (hb1.mono (by simp))
      clear hb1
      go_wp2_with fail
      go_ret2
      exact ⟨by rw [HZ.out]; rfl, hB⟩
    · have HZ : Hid (asgZ x 0 = (x - 1, 0)) := by show asgZ x 0 = (x - 1, 0); unfold asgZ; rw [if_pos rfl, if_neg h5]
      go_enter Tryz.func43, Tryz.ntmps43
      go_wp2_with fail
      refine (hA _ (by (repeat (first | with_reducible exact Below.refl _ _ | with_reducible assumption | with_reducible refine below_drewN ?_ _ | with_reducible refine Below.drew ?_ | with_reducible refine Below.alloc ?_ (by first | omega | (simp; omega) | simp) _ | with_reducible refine Below.setCell ?_ (by first | omega | (simp; omega) | simp) _)))).mono ?_
      rintro e w1 ⟨rfl, hb1⟩
      have hB : Below w.heap.size w w1 := Below.trans (by (repeat (first | with_reducible exact Below.refl _ _ | with_reducible assumption | with_reducible refine below_drewN ?_ _ | with_reducible refine Below.drew ?_ | with_reducible refine Below.alloc ?_ (by first | omega | (simp; omega) | simp) _ | with_reducible refine Below.setCell ?_ (by first | omega | (simp; omega) | simp) _))) (hb1.mono (by simp))
      clear hb1
      go_wp2_with fail
      go_ret2
      exact ⟨by rw [HZ.out]; rfl, hB⟩
  · have HZ : Hid (asgZ x e = (0, e)) := by show asgZ x e = (0, e); unfold asgZ; rw [if_neg he]
    have be : (e == 0) = false := by simp [he]
    have be2 : (e != 0) = true := by simp [he]
    clear he
    go_enter Tryz.func43, Tryz.ntmps43
    go_wp2_with fail
    refine (hA _ (by (repeat (first | with_reducible exact Below.refl _ _ | with_reducible assumption | with_reducible refine below_drewN ?_ _ | with_reducible refine Below.drew ?_ | with_reducible refine Below.alloc ?_ (by first | omega | (simp; omega) | simp) _ | with_reducible refine Below.setCell ?_ (by first | omega | (simp; omega) | simp) _)))).mono ?_
    rintro e w1 ⟨rfl, hb1⟩
    have hB : Below w.heap.size w w1 := Below.trans (by (repeat (first | with_reducible exact Below.refl _ _ | with_reducible assumption | with_reducible refine below_drewN ?_ _ | with_reducible refine Below.drew ?_ | with_reducible refine Below.alloc ?_ (by first | omega | (simp; omega) | simp) _ | with_reducible refine Below.setCell ?_ (by first | omega | (simp; omega) | simp) _))) (hb1.mono (by simp))
    clear hb1
    go_wp2_with fail
    go_ret2
    exact ⟨by rw [HZ.out]; rfl, hB⟩
set_option maxRecDepth 100000 in
set_option maxHeartbeats 1000000 in
theorem assignedV_calls (w : World) (g : Nat) (lL C k x e : Int) (hk0 : 0 ≤ k) (hk1 : k < C) (hC : C ≤ 5) (hA : LdV w g (112 + k) x e) (hx0 : 0 ≤ x) (hx1 : x ≤ 1099511627775) :
    Calls Tryz.prog 43 #[.func (.func 36) #[.pointer (some ⟨g, 0, none⟩)] #[], .agg #[.int .i64 lL, .int .i64 2, .int .i64 8, .int .i64 10, .int .i64 4, .int .i64 14, .int .i64 16, .int .i64 C], .int .i64 k] w
      fun en w' => en = .returned (.tuple #[.int .i64 (asgZ x e).1, .int .i64 (asgZ x e).2]) ∧ Below w.heap.size w w' := by
  have h3 : ¬ C ≤ k := by omega
  by_cases he : e = 0
  · subst he
    by_cases h5 : 5 < x
    · have HZ : Hid (asgZ x 0 = (0, 3)) := by show asgZ x 0 = (0, 3); unfold asgZ; rw [if_pos rfl, if_pos h5]
      go_enter Tryz.func43, Tryz.ntmps43
      go_wp2_with fail
      refine (hA _ (by (repeat (first | with_reducible exact Below.refl _ _ | with_reducible assumption | with_reducible refine below_drewN ?_ _ | with_reducible refine Below.drew ?_ | with_reducible refine Below.alloc ?_ (by first | omega | (simp; omega) | simp) _ | with_reducible refine Below.setCell ?_ (by first | omega | (simp; omega) | simp) _)))).mono ?_
      rintro e w1 ⟨rfl, hb1⟩
      have hB : Below w.heap.size w w1 := Below.trans (by (repeat (first | with_reducible exact Below.refl _ _ | with_reducible assumption | with_reducible refine below_drewN ?_ _ | with_reducible refine Below.drew ?_ | with_reducible refine Below.alloc ?_ (by first | omega | (simp; omega) | simp) _ | with_reducible refine Below.setCell ?_ (by first | omega | (simp; omega) | simp) _))) (hb1.mono (by simp))
      clear hb1
      go_wp2_with fail
      go_ret2
      exact ⟨by rw [HZ.out]; rfl, hB⟩
    · have HZ : Hid (asgZ x 0 = (x - 1, 0)) := by show asgZ x 0 = (x - 1, 0); unfold asgZ; rw [if_pos rfl, if_neg h5]
      go_enter Tryz.func43, Tryz.ntmps43
      go_wp2_with fail
      refine (hA _ (by (repeat (first | with_reducible exact Below.refl _ _ | with_reducible assumption | with_reducible refine below_drewN ?_ _ | with_reducible refine Below.drew ?_ | with_reducible refine Below.alloc ?_ (by first | omega | (simp; omega) | simp) _ | with_reducible refine Below.setCell ?_ (by first | omega | (simp; omega) | simp) _)))).mono ?_
      rintro e w1 ⟨rfl, hb1⟩
      have hB : Below w.heap.size w w1 := Below.trans (by (repeat (first | with_reducible exact Below.refl _ _ | with_reducible assumption | with_reducible refine below_drewN ?_ _ | with_reducible refine Below.drew ?_ | with_reducible refine Below.alloc ?_ (by first | omega | (simp; omega) | simp) _ | with_reducible refine Below.setCell ?_ (by first | omega | (simp; omega) | simp) _))) (hb1.mono (by simp))
      clear hb1
      go_wp2_with fail
      go_ret2
      exact ⟨by rw [HZ.out]; rfl, hB⟩
  · have HZ : Hid (asgZ x e = (0, e)) := by show asgZ x e = (0, e); unfold asgZ; rw [if_neg he]
    have be : (e == 0) = false := by simp [he]
    have be2 : (e != 0) = true := by simp [he]
    clear he
    go_enter Tryz.func43, Tryz.ntmps43
    go_wp2_with fail
    refine (hA _ (by (repeat (first | with_reducible exact Below.refl _ _ | with_reducible assumption | with_reducible refine below_drewN ?_ _ | with_reducible refine Below.drew ?_ | with_reducible refine Below.alloc ?_ (by first | omega | (simp; omega) | simp) _ | with_reducible refine Below.setCell ?_ (by first | omega | (simp; omega) | simp) _)))).mono ?_
    rintro e w1 ⟨rfl, hb1⟩
    have hB : Below w.heap.size w w1 := Below.trans (by (repeat (first | with_reducible exact Below.refl _ _ | with_reducible assumption | with_reducible refine below_drewN ?_ _ | with_reducible refine Below.drew ?_ | with_reducible refine Below.alloc ?_ (by first | omega | (simp; omega) | simp) _ | with_reducible refine Below.setCell ?_ (by first | omega | (simp; omega) | simp) _))) (hb1.mono (by simp))
    clear hb1
    go_wp2_with fail
    go_ret2
    exact ⟨by rw [HZ.out]; rfl, hB⟩

set_option maxRecDepth 100000 in
set_option maxHeartbeats 1000000 in
theorem AssignedG (w : World) (g : Nat) (lL C k x e : Int) (hk0 : 0 ≤ k) (hk1 : k < C) (hC : C ≤ 5) (hA : LdG w g (112 + k) x e) (hx0 : 0 ≤ x) (hx1 : x ≤ 1099511627775) :
    Calls Tryz.prog 15 #[.pointer (some ⟨g, 0, none⟩), .agg #[.int .i64 lL, .int .i64 2, .int .i64 8, .int .i64 10, .int .i64 4, .int .i64 14, .int .i64 16, .int .i64 C], .int .i64 k] w
      fun en w' => en = .returned (.tuple #[.int .i64 (asgZ x e).1, .int .i64 (asgZ x e).2]) ∧ Below w.heap.size w w' := by
  go_enter Tryz.func15, Tryz.ntmps15
  go_wp2_with fail
  refine (assignedG_calls _ g lL C k x e hk0 hk1 hC (hA.below (by (repeat (first | with_reducible exact Below.refl _ _ | with_reducible assumption | with_reducible refine below_drewN ?_ _ | with_reducible refine Below.drew ?_ | with_reducible refine Below.alloc ?_ (by first | omega | (simp; omega) | simp) _ | with_reducible refine Below.setCell ?_ (by first | omega | (simp; omega) | simp) _)))) hx0 hx1).mono ?_
  rintro e w1 ⟨rfl, hb1⟩
  have hB : Below w.heap.size w w1 := Below.trans (by (repeat (first | with_reducible exact Below.refl _ _ | with_reducible assumption | with_reducible refine below_drewN ?_ _ | with_reducible refine Below.drew ?_ | with_reducible refine Below.alloc ?_ (by first | omega | (simp; omega) | simp) _ | with_reducible refine Below.setCell ?_ (by first | omega | (simp; omega) | simp) _))) (hb1.mono (by simp))
  clear hb1
  go_wp2_with fail
  go_ret2
  exact ⟨rfl, hB⟩

theorem five_pow (c : Int) (h0 : 0 ≤ c) (h1 : c ≤ 4) : c = 0 ∨ c = 1 ∨ c = 2 ∨ c = 3 ∨ c = 4 := by omega
theorem tmod_zero {a q : Int} (ha : 0 ≤ a) (h : a % q = 0) : a.tmod q = 0 := by rw [Int.tmod_eq_emod_of_nonneg ha]; exact h

set_option maxRecDepth 100000 in
set_option maxHeartbeats 8000000 in
theorem blockG_calls (w : World) (g : Nat) (lL C ln k c s h e : Int) (hC0 : 0 ≤ C) (hC : C ≤ 5) (hl0 : 16 ≤ ln) (hl1 : ln < 16 + 16 * C) (hk : (ln - 16) / 16 = k) (hc0 : 0 ≤ c) (hc1 : c ≤ 4) (hs : s = 2 ^ c.toNat) (hal : (ln - 16) % s = 0)
    (hA : LdG w g (112 + k) (c + 1) 0) (hH : LdG w g (8 * ln) h e) (hd : Hd w) (h0 : 0 ≤ h) (h1 : h ≤ 1099511627775) :
    Calls Tryz.prog 37 #[.func (.func 42) #[.pointer (some ⟨g, 0, none⟩)] #[], .agg #[.int .i64 lL, .int .i64 2, .int .i64 8, .int .i64 10, .int .i64 4, .int .i64 14, .int .i64 16, .int .i64 C], .int .i64 ln] w
      fun en w' => en = .returned (.tuple #[.agg #[.int .i64 (Bk.line (blkZ ln c h e).1), .int .i64 (Bk.cls (blkZ ln c h e).1), .int .i64 (Bk.kind (blkZ ln c h e).1), .int .i64 (Bk.gen (blkZ ln c h e).1)], .int .i64 (blkZ ln c h e).2]) ∧ Below w.heap.size w w' := by
  have hk0 : 0 ≤ k := by omega
  have hk1 : k < C := by omega
  have hasg : asgZ (c + 1) 0 = (c, 0) := by unfold asgZ; rw [if_pos rfl, if_neg (by omega)]; simp
  have HAS := Lib.hid hasg
  have HKK := Lib.hid hk
  have HS := Lib.hid hs
  have HAL := Lib.hid hal
  clear hasg hk hs hal
  go_enter Tryz.func37, Tryz.ntmps37
  go_upto_region 1 with (fail)
  generalize hwn : (w.alloc (.cells #[.int .i64 lL, .int .i64 2, .int .i64 8, .int .i64 10, .int .i64 4, .int .i64 14, .int .i64 16, .int .i64 C] 29)).alloc (.cells #[.int .i64 0, .int .i64 0, .int .i64 0, .int .i64 0] 43) = wn
  have hLn : Cl wn w.heap.size 29 #[.int .i64 lL, .int .i64 2, .int .i64 8, .int .i64 10, .int .i64 4, .int .i64 14, .int .i64 16, .int .i64 C] := by rw [← hwn]; exact (Cl.new _ _ _).alloc _
  have hZn : Cl wn (w.heap.size + 1) 43 #[.int .i64 0, .int .i64 0, .int .i64 0, .int .i64 0] := by rw [← hwn]; exact Cl.new_ _ _ _ _ (by simp)
  have hAn : Below w.heap.size w wn := by rw [← hwn]; (repeat (first | with_reducible exact Below.refl _ _ | with_reducible assumption | with_reducible refine below_drewN ?_ _ | with_reducible refine Below.drew ?_ | with_reducible refine Below.alloc ?_ (by first | omega | (simp; omega) | simp) _ | with_reducible refine Below.setCell ?_ (by first | omega | (simp; omega) | simp) _))
  clear hwn
  have hA' := hA.below hAn
  have hH' := hH.below hAn
  have hdn := hd.below hAn
  have hln' := hLn.lt
  obtain ⟨y0, y1, y2, y3, y4, y5, y6, y7⟩ := hLn.cells8
  go_cut [8, 9] (fun x y wx => x = .int .i64 c ∧ y = .int .i64 0 ∧ Below wn.heap.size wn wx)
  case first =>
    go_region_held3 (fun w' => w'.cell? ⟨w.heap.size, 0, none⟩ = some (.int .i64 lL) ∧ w'.cell? ⟨w.heap.size, 1, none⟩ = some (.int .i64 2) ∧ w'.cell? ⟨w.heap.size, 2, none⟩ = some (.int .i64 8) ∧ w'.cell? ⟨w.heap.size, 3, none⟩ = some (.int .i64 10) ∧ w'.cell? ⟨w.heap.size, 4, none⟩ = some (.int .i64 4) ∧ w'.cell? ⟨w.heap.size, 5, none⟩ = some (.int .i64 14) ∧ w'.cell? ⟨w.heap.size, 6, none⟩ = some (.int .i64 16) ∧ w'.cell? ⟨w.heap.size, 7, none⟩ = some (.int .i64 C)) (go_keep)
      (first
        | (go_at_call 46; refine (chunk_calls _ lL 2 8 10 4 14 16 C ln (by omega) (by omega) hC0 (by omega) hl0 hl1).mono ?_; rintro e wa ⟨rfl, ba0⟩; rw [HKK.out]; (have ba : Below wn.heap.size wn wa := (by first | exact below_of_drew ba0 | exact ba0)); (have qa := Cl.cells8 (hLn.below ba hLn.lt)); unfold Cells8 at qa; (have la := (hLn.below ba hLn.lt).lt))
        | (go_at_call 43; refine (assignedG_calls _ g lL C k (c + 1) 0 hk0 hk1 hC (hA'.below ba) (by omega) (by omega)).mono ?_; rintro e wb ⟨rfl, bb0⟩; rw [HAS.out]; (have bb := ba.trans (bb0.mono ba.size)); (have qb := Cl.cells8 (hLn.below bb hLn.lt)); unfold Cells8 at qb; (have lb := (hLn.below bb hLn.lt).lt)))
    go_wp2_with fail
    go_meet
    exact ⟨rfl, rfl, bb⟩
  case rest =>
    obtain ⟨rfl, rfl, hbx⟩ := hcut
    obtain ⟨w2, hw2⟩ : ∃ x : World, x = wc := ⟨_, rfl⟩
    subst hw2
    have hL2 := hLn.below hbx hLn.lt
    have hZ2 := hZn.below hbx hZn.lt
    have hB2 := hAn.trans (hbx.mono hAn.size)
    have hH2 := hH'.below hbx
    have hd2 := hdn.below hbx
    clear hLn hAn hbx hA' hH' hA hH y0 y1 y2 y3 y4 y5 y6 y7 hln' hd hdn hZn HAS
    have y6 := hL2.cell 6
    simp only [List.getElem?_toArray, List.getElem?_cons_succ, List.getElem?_cons_zero] at y6
    have hl2 := hL2.lt
    have cm1 : (c == -1) = false := by simp; omega
    have hw16 : IntKind.i64.wrap (ln - 16) = ln - 16 := IntWalk.i64_in _ (by omega)
    go_upto_region 4 with (fail)
    go_cut [35] (fun t wx => t = .bool false ∧ Below w2.heap.size w2 wx)
    case first =>
      have hs5 := HS.out
      have hal := HAL.out
      rcases five_pow c hc0 hc1 with rfl | rfl | rfl | rfl | rfl
      · go_region_held3 (fun w' => w'.cell? ⟨w.heap.size, 6, none⟩ = some (.int .i64 16)) (go_keep)
          (first | (go_at_call 41; refine (plines0 _).mono ?_; rintro e w' ⟨rfl, rfl⟩))
        go_wp2_with fail
        go_meet
        exact ⟨by simp, by (repeat (first | with_reducible exact Below.refl _ _ | with_reducible assumption | with_reducible refine below_drewN ?_ _ | with_reducible refine Below.drew ?_ | with_reducible refine Below.alloc ?_ (by first | omega | (simp; omega) | simp) _ | with_reducible refine Below.setCell ?_ (by first | omega | (simp; omega) | simp) _))⟩
      · have hr : (ln - 16).tmod 2 = 0 := tmod_zero (by omega) (by rw [hs5] at hal; exact hal)
        clear hs5 hal
        go_region_held3 (fun w' => w'.cell? ⟨w.heap.size, 6, none⟩ = some (.int .i64 16)) (go_keep)
          (first | (go_at_call 41; refine (plines1 _).mono ?_; rintro e w' ⟨rfl, rfl⟩))
        go_wp2_with fail
        go_meet
        exact ⟨rfl, by (repeat (first | with_reducible exact Below.refl _ _ | with_reducible assumption | with_reducible refine below_drewN ?_ _ | with_reducible refine Below.drew ?_ | with_reducible refine Below.alloc ?_ (by first | omega | (simp; omega) | simp) _ | with_reducible refine Below.setCell ?_ (by first | omega | (simp; omega) | simp) _))⟩
      · have hr : (ln - 16).tmod 4 = 0 := tmod_zero (by omega) (by rw [hs5] at hal; exact hal)
        clear hs5 hal
        go_region_held3 (fun w' => w'.cell? ⟨w.heap.size, 6, none⟩ = some (.int .i64 16)) (go_keep)
          (first | (go_at_call 41; refine (plines2 _).mono ?_; rintro e w' ⟨rfl, rfl⟩))
        go_wp2_with fail
        go_meet
        exact ⟨rfl, by (repeat (first | with_reducible exact Below.refl _ _ | with_reducible assumption | with_reducible refine below_drewN ?_ _ | with_reducible refine Below.drew ?_ | with_reducible refine Below.alloc ?_ (by first | omega | (simp; omega) | simp) _ | with_reducible refine Below.setCell ?_ (by first | omega | (simp; omega) | simp) _))⟩
      · have hr : (ln - 16).tmod 8 = 0 := tmod_zero (by omega) (by rw [hs5] at hal; exact hal)
        clear hs5 hal
        go_region_held3 (fun w' => w'.cell? ⟨w.heap.size, 6, none⟩ = some (.int .i64 16)) (go_keep)
          (first | (go_at_call 41; refine (plines3 _).mono ?_; rintro e w' ⟨rfl, rfl⟩))
        go_wp2_with fail
        go_meet
        exact ⟨rfl, by (repeat (first | with_reducible exact Below.refl _ _ | with_reducible assumption | with_reducible refine below_drewN ?_ _ | with_reducible refine Below.drew ?_ | with_reducible refine Below.alloc ?_ (by first | omega | (simp; omega) | simp) _ | with_reducible refine Below.setCell ?_ (by first | omega | (simp; omega) | simp) _))⟩
      · have hr : (ln - 16).tmod 16 = 0 := tmod_zero (by omega) (by rw [hs5] at hal; exact hal)
        clear hs5 hal
        go_region_held3 (fun w' => w'.cell? ⟨w.heap.size, 6, none⟩ = some (.int .i64 16)) (go_keep)
          (first | (go_at_call 41; refine (plines4 _).mono ?_; rintro e w' ⟨rfl, rfl⟩))
        go_wp2_with fail
        go_meet
        exact ⟨rfl, by (repeat (first | with_reducible exact Below.refl _ _ | with_reducible assumption | with_reducible refine below_drewN ?_ _ | with_reducible refine Below.drew ?_ | with_reducible refine Below.alloc ?_ (by first | omega | (simp; omega) | simp) _ | with_reducible refine Below.setCell ?_ (by first | omega | (simp; omega) | simp) _))⟩
    case rest =>
      obtain ⟨rfl, hbx⟩ := hcut
      obtain ⟨w3, hw3⟩ : ∃ x : World, x = wc := ⟨_, rfl⟩
      subst hw3
      have hZ3 := hZ2.below hbx hZ2.lt
      have hB3 := hB2.trans (hbx.mono hB2.size)
      have hH3 := hH2.below hbx
      have hd3 := hd2.below hbx
      clear hL2 hZ2 hB2 hH2 hd2 y6 hl2 hbx HS HAL
      have hwm : IntKind.i64.wrap (8 * ln) = 8 * ln := IntWalk.i64_in _ (by omega)
      go_upto_region 6 with (fail)
      go_wp2_with fail
      refine (hH3 _ (by (repeat (first | with_reducible exact Below.refl _ _ | with_reducible assumption | with_reducible refine below_drewN ?_ _ | with_reducible refine Below.drew ?_ | with_reducible refine Below.alloc ?_ (by first | omega | (simp; omega) | simp) _ | with_reducible refine Below.setCell ?_ (by first | omega | (simp; omega) | simp) _)))).mono ?_
      rintro en w4 ⟨rfl, hb4⟩
      replace hb4 : Below w3.heap.size w3 w4 := (by first | exact below_of_drew hb4 | exact hb4)
      have hZ4 := hZ3.below hb4 hZ3.lt
      have hB4 := hB3.trans (hb4.mono hB3.size)
      have hd4 := hd3.below hb4
      clear hZ3 hB3 hd3 hH3 hb4
      by_cases he : e = 0
      · subst he
        go_wp2_with fail
        refine (proper_calls _ h c hd4 h0 h1 hc0 hc1).mono ?_
        rintro en w5 ⟨rfl, hb5⟩
        have hZ5 := hZ4.below hb5 hZ4.lt
        have hB5 := hB4.trans (hb5.mono hB4.size)
        have hd5 := hd4.below hb5
        clear hZ4 hB4 hd4 hb5
        cases hp : properZ h c with
        | false =>
          have HZ : Hid (blkZ ln c h 0 = ((0, 0, 0, 0), 3)) := by show blkZ ln c h 0 = _; unfold blkZ; rw [if_pos rfl, hp]; rfl
          clear hp
          obtain ⟨⟨z0, z1, z2, z3⟩, ⟨z4, z5, z6, z7⟩⟩ := hZ5.has4
          have hl5 := hZ5.lt
          go_wp2_with fail
          refine bodyPost_ret (v := .tuple #[.agg #[.int .i64 (Bk.line (blkZ ln c h 0).1), .int .i64 (Bk.cls (blkZ ln c h 0).1), .int .i64 (Bk.kind (blkZ ln c h 0).1), .int .i64 (Bk.gen (blkZ ln c h 0).1)], .int .i64 (blkZ ln c h 0).2]) ?_ rfl ⟨rfl, by (repeat (first | with_reducible exact Below.refl _ _ | with_reducible assumption | with_reducible refine below_drewN ?_ _ | with_reducible refine Below.drew ?_ | with_reducible refine Below.alloc ?_ (by first | omega | (simp; omega) | simp) _ | with_reducible refine Below.setCell ?_ (by first | omega | (simp; omega) | simp) _))⟩
          rw [HZ.out]
          simp [results, Tryz.results37, go_sem, Bk.line, Bk.cls, Bk.kind, Bk.gen, *]
        | true =>
          obtain ⟨p1, p2, -⟩ := properZ_parts hp h0 hc0 hc1
          have HZ : Hid (blkZ ln c h 0 = ((ln, c, h % 16, h / 128 % 1048576), 0)) := by show blkZ ln c h 0 = _; unfold blkZ; rw [if_pos rfl, hp]; rfl
          clear hp
          go_wp2_with fail
          refine (partKind _ h hd5 h0 p1 p2).mono ?_
          rintro en w6 ⟨rfl, hb6⟩
          have hZ6 := hZ5.below hb6 hZ5.lt
          have hB6 := hB5.trans (hb6.mono hB5.size)
          have hd6 := hd5.below hb6
          clear hZ5 hB5 hd5 hb6
          go_wp2_with fail
          refine (partGeneration _ h hd6 h0 p1 p2).mono ?_
          rintro en w7 ⟨rfl, hb7⟩
          have hZ7 := hZ6.below hb7 hZ6.lt
          have hB7 := hB6.trans (hb7.mono hB6.size)
          clear hZ6 hB6 hd6 hb7
          obtain ⟨⟨z0, z1, z2, z3⟩, ⟨z4, z5, z6, z7⟩⟩ := hZ7.has4
          have hl7 := hZ7.lt
          go_wp2_with fail
          refine bodyPost_ret (v := .tuple #[.agg #[.int .i64 (Bk.line (blkZ ln c h 0).1), .int .i64 (Bk.cls (blkZ ln c h 0).1), .int .i64 (Bk.kind (blkZ ln c h 0).1), .int .i64 (Bk.gen (blkZ ln c h 0).1)], .int .i64 (blkZ ln c h 0).2]) ?_ rfl ⟨rfl, by (repeat (first | with_reducible exact Below.refl _ _ | with_reducible assumption | with_reducible refine below_drewN ?_ _ | with_reducible refine Below.drew ?_ | with_reducible refine Below.alloc ?_ (by first | omega | (simp; omega) | simp) _ | with_reducible refine Below.setCell ?_ (by first | omega | (simp; omega) | simp) _))⟩
          rw [HZ.out]
          simp [results, Tryz.results37, go_sem, Bk.line, Bk.cls, Bk.kind, Bk.gen, *]
      · have HZ : Hid (blkZ ln c h e = ((0, 0, 0, 0), e)) := by show blkZ ln c h e = _; unfold blkZ; rw [if_neg he]
        have be : (e == 0) = false := by simp [he]
        have be2 : (e != 0) = true := by simp [he]
        clear he
        obtain ⟨⟨z0, z1, z2, z3⟩, ⟨z4, z5, z6, z7⟩⟩ := hZ4.has4
        have hl4 := hZ4.lt
        go_wp2_with fail
        refine bodyPost_ret (v := .tuple #[.agg #[.int .i64 (Bk.line (blkZ ln c h e).1), .int .i64 (Bk.cls (blkZ ln c h e).1), .int .i64 (Bk.kind (blkZ ln c h e).1), .int .i64 (Bk.gen (blkZ ln c h e).1)], .int .i64 (blkZ ln c h e).2]) ?_ rfl ⟨rfl, by (repeat (first | with_reducible exact Below.refl _ _ | with_reducible assumption | with_reducible refine below_drewN ?_ _ | with_reducible refine Below.drew ?_ | with_reducible refine Below.alloc ?_ (by first | omega | (simp; omega) | simp) _ | with_reducible refine Below.setCell ?_ (by first | omega | (simp; omega) | simp) _))⟩
        rw [HZ.out]
        simp [results, Tryz.results37, go_sem, Bk.line, Bk.cls, Bk.kind, Bk.gen, *]
set_option maxRecDepth 100000 in
set_option maxHeartbeats 8000000 in
theorem blockV_calls (w : World) (g : Nat) (lL C ln k c s h e : Int) (hC0 : 0 ≤ C) (hC : C ≤ 5) (hl0 : 16 ≤ ln) (hl1 : ln < 16 + 16 * C) (hk : (ln - 16) / 16 = k) (hc0 : 0 ≤ c) (hc1 : c ≤ 4) (hs : s = 2 ^ c.toNat) (hal : (ln - 16) % s = 0)
    (hA : LdV w g (112 + k) (c + 1) 0) (hH : LdV w g (8 * ln) h e) (hd : Hd w) (h0 : 0 ≤ h) (h1 : h ≤ 1099511627775) :
    Calls Tryz.prog 37 #[.func (.func 36) #[.pointer (some ⟨g, 0, none⟩)] #[], .agg #[.int .i64 lL, .int .i64 2, .int .i64 8, .int .i64 10, .int .i64 4, .int .i64 14, .int .i64 16, .int .i64 C], .int .i64 ln] w
      fun en w' => en = .returned (.tuple #[.agg #[.int .i64 (Bk.line (blkZ ln c h e).1), .int .i64 (Bk.cls (blkZ ln c h e).1), .int .i64 (Bk.kind (blkZ ln c h e).1), .int .i64 (Bk.gen (blkZ ln c h e).1)], .int .i64 (blkZ ln c h e).2]) ∧ Below w.heap.size w w' := by
  have hk0 : 0 ≤ k := by omega
  have hk1 : k < C := by omega
  have hasg : asgZ (c + 1) 0 = (c, 0) := by unfold asgZ; rw [if_pos rfl, if_neg (by omega)]; simp
  have HAS := Lib.hid hasg
  have HKK := Lib.hid hk
  have HS := Lib.hid hs
  have HAL := Lib.hid hal
  clear hasg hk hs hal
  go_enter Tryz.func37, Tryz.ntmps37
  go_upto_region 1 with (fail)
  generalize hwn : (w.alloc (.cells #[.int .i64 lL, .int .i64 2, .int .i64 8, .int .i64 10, .int .i64 4, .int .i64 14, .int .i64 16, .int .i64 C] 29)).alloc (.cells #[.int .i64 0, .int .i64 0, .int .i64 0, .int .i64 0] 43) = wn
  have hLn : Cl wn w.heap.size 29 #[.int .i64 lL, .int .i64 2, .int .i64 8, .int .i64 10, .int .i64 4, .int .i64 14, .int .i64 16, .int .i64 C] := by rw [← hwn]; exact (Cl.new _ _ _).alloc _
  have hZn : Cl wn (w.heap.size + 1) 43 #[.int .i64 0, .int .i64 0, .int .i64 0, .int .i64 0] := by rw [← hwn]; exact Cl.new_ _ _ _ _ (by simp)
  have hAn : Below w.heap.size w wn := by rw [← hwn]; (repeat (first | with_reducible exact Below.refl _ _ | with_reducible assumption | with_reducible refine below_drewN ?_ _ | with_reducible refine Below.drew ?_ | with_reducible refine Below.alloc ?_ (by first | omega | (simp; omega) | simp) _ | with_reducible refine Below.setCell ?_ (by first | omega | (simp; omega) | simp) _))
  clear hwn
  have hA' := hA.below hAn
  have hH' := hH.below hAn
  have hdn := hd.below hAn
  have hln' := hLn.lt
  obtain ⟨y0, y1, y2, y3, y4, y5, y6, y7⟩ := hLn.cells8
  go_cut [8, 9] (fun x y wx => x = .int .i64 c ∧ y = .int .i64 0 ∧ Below wn.heap.size wn wx)
  case first =>
    go_region_held3 (fun w' => w'.cell? ⟨w.heap.size, 0, none⟩ = some (.int .i64 lL) ∧ w'.cell? ⟨w.heap.size, 1, none⟩ = some (.int .i64 2) ∧ w'.cell? ⟨w.heap.size, 2, none⟩ = some (.int .i64 8) ∧ w'.cell? ⟨w.heap.size, 3, none⟩ = some (.int .i64 10) ∧ w'.cell? ⟨w.heap.size, 4, none⟩ = some (.int .i64 4) ∧ w'.cell? ⟨w.heap.size, 5, none⟩ = some (.int .i64 14) ∧ w'.cell? ⟨w.heap.size, 6, none⟩ = some (.int .i64 16) ∧ w'.cell? ⟨w.heap.size, 7, none⟩ = some (.int .i64 C)) (go_keep)
      (first
        | (go_at_call 46; refine (chunk_calls _ lL 2 8 10 4 14 16 C ln (by omega) (by omega) hC0 (by omega) hl0 hl1).mono ?_; rintro e wa ⟨rfl, ba0⟩; rw [HKK.out]; (have ba : Below wn.heap.size wn wa := (by first | exact below_of_drew ba0 | exact ba0)); (have qa := Cl.cells8 (hLn.below ba hLn.lt)); unfold Cells8 at qa; (have la := (hLn.below ba hLn.lt).lt))
        | (go_at_call 43; refine (assignedV_calls _ g lL C k (c + 1) 0 hk0 hk1 hC (hA'.below ba) (by omega) (by omega)).mono ?_; rintro e wb ⟨rfl, bb0⟩; rw [HAS.out]; (have bb := ba.trans (bb0.mono ba.size)); (have qb := Cl.cells8 (hLn.below bb hLn.lt)); unfold Cells8 at qb; (have lb := (hLn.below bb hLn.lt).lt)))
    go_wp2_with fail
    go_meet
    exact ⟨rfl, rfl, bb⟩
  case rest =>
    obtain ⟨rfl, rfl, hbx⟩ := hcut
    obtain ⟨w2, hw2⟩ : ∃ x : World, x = wc := ⟨_, rfl⟩
    subst hw2
    have hL2 := hLn.below hbx hLn.lt
    have hZ2 := hZn.below hbx hZn.lt
    have hB2 := hAn.trans (hbx.mono hAn.size)
    have hH2 := hH'.below hbx
    have hd2 := hdn.below hbx
    clear hLn hAn hbx hA' hH' hA hH y0 y1 y2 y3 y4 y5 y6 y7 hln' hd hdn hZn HAS
    have y6 := hL2.cell 6
    simp only [List.getElem?_toArray, List.getElem?_cons_succ, List.getElem?_cons_zero] at y6
    have hl2 := hL2.lt
    have cm1 : (c == -1) = false := by simp; omega
    have hw16 : IntKind.i64.wrap (ln - 16) = ln - 16 := IntWalk.i64_in _ (by omega)
    go_upto_region 4 with (fail)
    go_cut [35] (fun t wx => t = .bool false ∧ Below w2.heap.size w2 wx)
    case first =>
      have hs5 := HS.out
      have hal := HAL.out
      rcases five_pow c hc0 hc1 with rfl | rfl | rfl | rfl | rfl
      · go_region_held3 (fun w' => w'.cell? ⟨w.heap.size, 6, none⟩ = some (.int .i64 16)) (go_keep)
          (first | (go_at_call 41; refine (plines0 _).mono ?_; rintro e w' ⟨rfl, rfl⟩))
        go_wp2_with fail
        go_meet
        exact ⟨by simp, by (repeat (first | with_reducible exact Below.refl _ _ | with_reducible assumption | with_reducible refine below_drewN ?_ _ | with_reducible refine Below.drew ?_ | with_reducible refine Below.alloc ?_ (by first | omega | (simp; omega) | simp) _ | with_reducible refine Below.setCell ?_ (by first | omega | (simp; omega) | simp) _))⟩
      · have hr : (ln - 16).tmod 2 = 0 := tmod_zero (by omega) (by rw [hs5] at hal; exact hal)
        clear hs5 hal
        go_region_held3 (fun w' => w'.cell? ⟨w.heap.size, 6, none⟩ = some (.int .i64 16)) (go_keep)
          (first | (go_at_call 41; refine (plines1 _).mono ?_; rintro e w' ⟨rfl, rfl⟩))
        go_wp2_with fail
        go_meet
        exact ⟨rfl, by (repeat (first | with_reducible exact Below.refl _ _ | with_reducible assumption | with_reducible refine below_drewN ?_ _ | with_reducible refine Below.drew ?_ | with_reducible refine Below.alloc ?_ (by first | omega | (simp; omega) | simp) _ | with_reducible refine Below.setCell ?_ (by first | omega | (simp; omega) | simp) _))⟩
      · have hr : (ln - 16).tmod 4 = 0 := tmod_zero (by omega) (by rw [hs5] at hal; exact hal)
        clear hs5 hal
        go_region_held3 (fun w' => w'.cell? ⟨w.heap.size, 6, none⟩ = some (.int .i64 16)) (go_keep)
          (first | (go_at_call 41; refine (plines2 _).mono ?_; rintro e w' ⟨rfl, rfl⟩))
        go_wp2_with fail
        go_meet
        exact ⟨rfl, by (repeat (first | with_reducible exact Below.refl _ _ | with_reducible assumption | with_reducible refine below_drewN ?_ _ | with_reducible refine Below.drew ?_ | with_reducible refine Below.alloc ?_ (by first | omega | (simp; omega) | simp) _ | with_reducible refine Below.setCell ?_ (by first | omega | (simp; omega) | simp) _))⟩
      · have hr : (ln - 16).tmod 8 = 0 := tmod_zero (by omega) (by rw [hs5] at hal; exact hal)
        clear hs5 hal
        go_region_held3 (fun w' => w'.cell? ⟨w.heap.size, 6, none⟩ = some (.int .i64 16)) (go_keep)
          (first | (go_at_call 41; refine (plines3 _).mono ?_; rintro e w' ⟨rfl, rfl⟩))
        go_wp2_with fail
        go_meet
        exact ⟨rfl, by (repeat (first | with_reducible exact Below.refl _ _ | with_reducible assumption | with_reducible refine below_drewN ?_ _ | with_reducible refine Below.drew ?_ | with_reducible refine Below.alloc ?_ (by first | omega | (simp; omega) | simp) _ | with_reducible refine Below.setCell ?_ (by first | omega | (simp; omega) | simp) _))⟩
      · have hr : (ln - 16).tmod 16 = 0 := tmod_zero (by omega) (by rw [hs5] at hal; exact hal)
        clear hs5 hal
        go_region_held3 (fun w' => w'.cell? ⟨w.heap.size, 6, none⟩ = some (.int .i64 16)) (go_keep)
          (first | (go_at_call 41; refine (plines4 _).mono ?_; rintro e w' ⟨rfl, rfl⟩))
        go_wp2_with fail
        go_meet
        exact ⟨rfl, by (repeat (first | with_reducible exact Below.refl _ _ | with_reducible assumption | with_reducible refine below_drewN ?_ _ | with_reducible refine Below.drew ?_ | with_reducible refine Below.alloc ?_ (by first | omega | (simp; omega) | simp) _ | with_reducible refine Below.setCell ?_ (by first | omega | (simp; omega) | simp) _))⟩
    case rest =>
      obtain ⟨rfl, hbx⟩ := hcut
      obtain ⟨w3, hw3⟩ : ∃ x : World, x = wc := ⟨_, rfl⟩
      subst hw3
      have hZ3 := hZ2.below hbx hZ2.lt
      have hB3 := hB2.trans (hbx.mono hB2.size)
      have hH3 := hH2.below hbx
      have hd3 := hd2.below hbx
      clear hL2 hZ2 hB2 hH2 hd2 y6 hl2 hbx HS HAL
      have hwm : IntKind.i64.wrap (8 * ln) = 8 * ln := IntWalk.i64_in _ (by omega)
      go_upto_region 6 with (fail)
      go_wp2_with fail
      refine (hH3 _ (by (repeat (first | with_reducible exact Below.refl _ _ | with_reducible assumption | with_reducible refine below_drewN ?_ _ | with_reducible refine Below.drew ?_ | with_reducible refine Below.alloc ?_ (by first | omega | (simp; omega) | simp) _ | with_reducible refine Below.setCell ?_ (by first | omega | (simp; omega) | simp) _)))).mono ?_
      rintro en w4 ⟨rfl, hb4⟩
      replace hb4 : Below w3.heap.size w3 w4 := (by first | exact below_of_drew hb4 | exact hb4)
      have hZ4 := hZ3.below hb4 hZ3.lt
      have hB4 := hB3.trans (hb4.mono hB3.size)
      have hd4 := hd3.below hb4
      clear hZ3 hB3 hd3 hH3 hb4
      by_cases he : e = 0
      · subst he
        go_wp2_with fail
        refine (proper_calls _ h c hd4 h0 h1 hc0 hc1).mono ?_
        rintro en w5 ⟨rfl, hb5⟩
        have hZ5 := hZ4.below hb5 hZ4.lt
        have hB5 := hB4.trans (hb5.mono hB4.size)
        have hd5 := hd4.below hb5
        clear hZ4 hB4 hd4 hb5
        cases hp : properZ h c with
        | false =>
          have HZ : Hid (blkZ ln c h 0 = ((0, 0, 0, 0), 3)) := by show blkZ ln c h 0 = _; unfold blkZ; rw [if_pos rfl, hp]; rfl
          clear hp
          obtain ⟨⟨z0, z1, z2, z3⟩, ⟨z4, z5, z6, z7⟩⟩ := hZ5.has4
          have hl5 := hZ5.lt
          go_wp2_with fail
          refine bodyPost_ret (v := .tuple #[.agg #[.int .i64 (Bk.line (blkZ ln c h 0).1), .int .i64 (Bk.cls (blkZ ln c h 0).1), .int .i64 (Bk.kind (blkZ ln c h 0).1), .int .i64 (Bk.gen (blkZ ln c h 0).1)], .int .i64 (blkZ ln c h 0).2]) ?_ rfl ⟨rfl, by (repeat (first | with_reducible exact Below.refl _ _ | with_reducible assumption | with_reducible refine below_drewN ?_ _ | with_reducible refine Below.drew ?_ | with_reducible refine Below.alloc ?_ (by first | omega | (simp; omega) | simp) _ | with_reducible refine Below.setCell ?_ (by first | omega | (simp; omega) | simp) _))⟩
          rw [HZ.out]
          simp [results, Tryz.results37, go_sem, Bk.line, Bk.cls, Bk.kind, Bk.gen, *]
        | true =>
          obtain ⟨p1, p2, -⟩ := properZ_parts hp h0 hc0 hc1
          have HZ : Hid (blkZ ln c h 0 = ((ln, c, h % 16, h / 128 % 1048576), 0)) := by show blkZ ln c h 0 = _; unfold blkZ; rw [if_pos rfl, hp]; rfl
          clear hp
          go_wp2_with fail
          refine (partKind _ h hd5 h0 p1 p2).mono ?_
          rintro en w6 ⟨rfl, hb6⟩
          have hZ6 := hZ5.below hb6 hZ5.lt
          have hB6 := hB5.trans (hb6.mono hB5.size)
          have hd6 := hd5.below hb6
          clear hZ5 hB5 hd5 hb6
          go_wp2_with fail
          refine (partGeneration _ h hd6 h0 p1 p2).mono ?_
          rintro en w7 ⟨rfl, hb7⟩
          have hZ7 := hZ6.below hb7 hZ6.lt
          have hB7 := hB6.trans (hb7.mono hB6.size)
          clear hZ6 hB6 hd6 hb7
          obtain ⟨⟨z0, z1, z2, z3⟩, ⟨z4, z5, z6, z7⟩⟩ := hZ7.has4
          have hl7 := hZ7.lt
          go_wp2_with fail
          refine bodyPost_ret (v := .tuple #[.agg #[.int .i64 (Bk.line (blkZ ln c h 0).1), .int .i64 (Bk.cls (blkZ ln c h 0).1), .int .i64 (Bk.kind (blkZ ln c h 0).1), .int .i64 (Bk.gen (blkZ ln c h 0).1)], .int .i64 (blkZ ln c h 0).2]) ?_ rfl ⟨rfl, by (repeat (first | with_reducible exact Below.refl _ _ | with_reducible assumption | with_reducible refine below_drewN ?_ _ | with_reducible refine Below.drew ?_ | with_reducible refine Below.alloc ?_ (by first | omega | (simp; omega) | simp) _ | with_reducible refine Below.setCell ?_ (by first | omega | (simp; omega) | simp) _))⟩
          rw [HZ.out]
          simp [results, Tryz.results37, go_sem, Bk.line, Bk.cls, Bk.kind, Bk.gen, *]
      · have HZ : Hid (blkZ ln c h e = ((0, 0, 0, 0), e)) := by show blkZ ln c h e = _; unfold blkZ; rw [if_neg he]
        have be : (e == 0) = false := by simp [he]
        have be2 : (e != 0) = true := by simp [he]
        clear he
        obtain ⟨⟨z0, z1, z2, z3⟩, ⟨z4, z5, z6, z7⟩⟩ := hZ4.has4
        have hl4 := hZ4.lt
        go_wp2_with fail
        refine bodyPost_ret (v := .tuple #[.agg #[.int .i64 (Bk.line (blkZ ln c h e).1), .int .i64 (Bk.cls (blkZ ln c h e).1), .int .i64 (Bk.kind (blkZ ln c h e).1), .int .i64 (Bk.gen (blkZ ln c h e).1)], .int .i64 (blkZ ln c h e).2]) ?_ rfl ⟨rfl, by (repeat (first | with_reducible exact Below.refl _ _ | with_reducible assumption | with_reducible refine below_drewN ?_ _ | with_reducible refine Below.drew ?_ | with_reducible refine Below.alloc ?_ (by first | omega | (simp; omega) | simp) _ | with_reducible refine Below.setCell ?_ (by first | omega | (simp; omega) | simp) _))⟩
        rw [HZ.out]
        simp [results, Tryz.results37, go_sem, Bk.line, Bk.cls, Bk.kind, Bk.gen, *]

set_option maxRecDepth 100000 in
set_option maxHeartbeats 1000000 in
theorem BlockG (w : World) (g : Nat) (lL C ln k c s h e : Int) (hC0 : 0 ≤ C) (hC : C ≤ 5) (hl0 : 16 ≤ ln) (hl1 : ln < 16 + 16 * C) (hk : (ln - 16) / 16 = k) (hc0 : 0 ≤ c) (hc1 : c ≤ 4) (hs : s = 2 ^ c.toNat) (hal : (ln - 16) % s = 0)
    (hA : LdG w g (112 + k) (c + 1) 0) (hH : LdG w g (8 * ln) h e) (hd : Hd w) (h0 : 0 ≤ h) (h1 : h ≤ 1099511627775) :
    Calls Tryz.prog 18 #[.pointer (some ⟨g, 0, none⟩), .agg #[.int .i64 lL, .int .i64 2, .int .i64 8, .int .i64 10, .int .i64 4, .int .i64 14, .int .i64 16, .int .i64 C], .int .i64 ln] w
      fun en w' => en = .returned (.tuple #[.agg #[.int .i64 (Bk.line (blkZ ln c h e).1), .int .i64 (Bk.cls (blkZ ln c h e).1), .int .i64 (Bk.kind (blkZ ln c h e).1), .int .i64 (Bk.gen (blkZ ln c h e).1)], .int .i64 (blkZ ln c h e).2]) ∧ Below w.heap.size w w' := by
  have HF := Lib.hid (fun w' (hb : Below w.heap.size w w') => blockG_calls w' g lL C ln k c s h e hC0 hC hl0 hl1 hk hc0 hc1 hs hal (hA.below hb) (hH.below hb) (hd.below hb) h0 h1)
  clear hA hH hd hk hs hal
  generalize blkZ ln c h e = r at *
  go_enter Tryz.func18, Tryz.ntmps18
  go_wp2_with fail
  generalize hwn : (w.alloc (.cells #[.int .i64 lL, .int .i64 2, .int .i64 8, .int .i64 10, .int .i64 4, .int .i64 14, .int .i64 16, .int .i64 C] 29)).alloc (.cells #[.int .i64 0, .int .i64 0, .int .i64 0, .int .i64 0] 43) = wn
  have hZn : Cl wn (w.heap.size + 1) 43 #[.int .i64 0, .int .i64 0, .int .i64 0, .int .i64 0] := by rw [← hwn]; exact Cl.new_ _ _ _ _ (by simp)
  have hAn : Below w.heap.size w wn := by rw [← hwn]; (repeat (first | with_reducible exact Below.refl _ _ | with_reducible assumption | with_reducible refine below_drewN ?_ _ | with_reducible refine Below.drew ?_ | with_reducible refine Below.alloc ?_ (by first | omega | (simp; omega) | simp) _ | with_reducible refine Below.setCell ?_ (by first | omega | (simp; omega) | simp) _))
  clear hwn
  refine (HF.out _ hAn).mono ?_
  rintro en w1 ⟨rfl, hb1⟩
  have hB : Below w.heap.size w w1 := Below.trans hAn (hb1.mono hAn.size)
  have hZ6 := hZn.below hb1 hZn.lt
  clear hb1 hZn hAn HF
  obtain ⟨⟨z0, z1, z2, z3⟩, ⟨z4, z5, z6, z7⟩⟩ := hZ6.has4
  have hl6 := hZ6.lt
  go_wp2_with fail
  refine bodyPost_ret (v := .tuple #[.agg #[.int .i64 (Bk.line r.1), .int .i64 (Bk.cls r.1), .int .i64 (Bk.kind r.1), .int .i64 (Bk.gen r.1)], .int .i64 r.2]) ?_ rfl ⟨rfl, by (repeat (first | with_reducible exact Below.refl _ _ | with_reducible assumption | with_reducible refine below_drewN ?_ _ | with_reducible refine Below.drew ?_ | with_reducible refine Below.alloc ?_ (by first | omega | (simp; omega) | simp) _ | with_reducible refine Below.setCell ?_ (by first | omega | (simp; omega) | simp) _))⟩
  simp [results, Tryz.results18, go_sem, *]
end Go.Proofs.YtckamjbdogpacaaGreatDoor
