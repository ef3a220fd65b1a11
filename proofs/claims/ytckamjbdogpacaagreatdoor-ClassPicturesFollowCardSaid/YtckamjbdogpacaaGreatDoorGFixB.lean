/-
  code.Fix of any line of words, at any table: a function of table, words and code.
-/
import Derived.Test.YtckamjbdogpacaaGreatDoorGCheck
namespace Go.Proofs.YtckamjbdogpacaaGreatDoor
open Go.RowKit
set_option linter.unusedSimpArgs false
set_option linter.unusedVariables false

theorem u64_wrap_in (y : Int) : 0 ≤ IntKind.u64.wrap y ∧ IntKind.u64.wrap y < 18446744073709551616 := by
  rw [IntKind.wrap_u64]
  omega
theorem flip_any (f : Nat → Int) (c : Int) (hW : WIn f) (j : Nat) : ∃ f' c', FlipTo f c 8 (j : Int) f' c' := by
  by_cases hj : j < 10
  · obtain ⟨c', h⟩ := flip_code f c j hW hj
    exact ⟨f, c', h⟩
  · exact ⟨f, c, flip_none f c 8 j hW (by simp [exB]; omega)⟩

theorem check_det (T f : Nat → Int) (c : Int) (hW : WIn f) : ∃ st wd bt, CkTo T f c st wd bt ∧ (st = 0 ∨ st = 2 ∨ (st = 1 ∧ ∃ f' c', FlipTo f c wd bt f' c')) := by
  cases hc : okC c
  · exact ⟨2, 0, 0, check_bad T f c hW hc, .inr (.inl rfl)⟩
  · obtain ⟨oF, hO⟩ := ones_ok
    have hn := sumT_n T f hW 8 (by omega)
    obtain ⟨⟨s0, n⟩, hS⟩ : ∃ S, sumT T f 8 = S := ⟨_, rfl⟩
    rw [hS] at hn
    have hn0 : 0 ≤ n := hn.1
    have hn1 : n ≤ 9000000000000 := by have := hn.2; simp at this; omega
    cases bodd : ((n + oF (IntKind.u64.wrap c)) % 2 == 1)
    · cases bs0 : (bits .xor .i64 s0 (bits .and .i64 c 511) == 0)
      · exact ⟨2, 0, 0, check_b T f c n s0 oF hO hW hc hS hn0 hn1 bodd bs0, .inr (.inl rfl)⟩
      · exact ⟨0, 0, 0, check_a T f c n s0 oF hO hW hc hS hn0 hn1 bodd bs0, .inl rfl⟩
    · cases bs0 : (bits .xor .i64 s0 (bits .and .i64 c 511) == 0)
      · cases bpw : (bits .and .i64 (bits .xor .i64 s0 (bits .and .i64 c 511)) (wrap64 (bits .xor .i64 s0 (bits .and .i64 c 511) - 1)) == 0)
        · by_cases hex : ∃ i : Nat, i < 320 ∧ (posF i : Int) = bits .xor .i64 s0 (bits .and .i64 c 511) ∧ (∀ j, j < i → (posF j : Int) ≠ bits .xor .i64 s0 (bits .and .i64 c 511))
          · obtain ⟨i, hi, h1, h2⟩ := hex
            obtain ⟨f', c', hf⟩ := flip_word f c (i / 40) (i % 40) hW (by omega) (Nat.mod_lt _ (by omega))
            have e1 : ((i / 40 : Nat) : Int) = (i : Int) / 40 := by omega
            have e2 : ((i % 40 : Nat) : Int) = (i : Int) % 40 := by omega
            rw [e1, e2] at hf
            exact ⟨1, (i : Int) / 40, (i : Int) % 40, check_e T f c n s0 oF hO hW hc hS hn0 hn1 _ _ _ (.inl ⟨i, hi, h1, h2, rfl, rfl, rfl⟩) bodd bs0 bpw, .inr (.inr ⟨rfl, f', c', hf⟩)⟩
          · have hall : ∀ i, i < 320 → (posF i : Int) ≠ bits .xor .i64 s0 (bits .and .i64 c 511) := by
              intro i
              induction i using Nat.strongRecOn with
              | ind i ih =>
                intro hi h
                exact hex ⟨i, hi, h, fun j hj => ih j hj (by omega)⟩
            exact ⟨2, 0, 0, check_e T f c n s0 oF hO hW hc hS hn0 hn1 _ _ _ (.inr ⟨hall, rfl, rfl, rfl⟩) bodd bs0 bpw, .inr (.inl rfl)⟩
        · obtain ⟨hu0, hu1⟩ := u64_wrap_in (bits .xor .i64 s0 (bits .and .i64 c 511))
          have hxr : -9223372036854775808 ≤ bits .xor .i64 s0 (bits .and .i64 c 511) ∧ bits .xor .i64 s0 (bits .and .i64 c 511) ≤ 9223372036854775807 := by
            show -9223372036854775808 ≤ IntKind.i64.wrap _ ∧ IntKind.i64.wrap _ ≤ 9223372036854775807
            rw [IntKind.wrap_i64]
            omega
          have hy0 : (IntKind.u64.wrap (bits .xor .i64 s0 (bits .and .i64 c 511))).toNat ≠ 0 := by
            intro h
            have h2 : IntKind.u64.wrap (bits .xor .i64 s0 (bits .and .i64 c 511)) = 0 := by omega
            rw [IntKind.wrap_u64] at h2
            have h3 : bits .xor .i64 s0 (bits .and .i64 c 511) = 0 := by omega
            rw [h3] at bs0
            exact absurd bs0 (by decide)
          obtain ⟨f', c', hf⟩ := flip_any f c hW (Lib.ctz 64 (IntKind.u64.wrap (bits .xor .i64 s0 (bits .and .i64 c 511))).toNat)
          exact ⟨1, 8, _, check_d T f c n s0 oF hO hW hc hS hn0 hn1 bodd bs0 bpw _ (by omega) hy0 (by omega), .inr (.inr ⟨rfl, f', c', hf⟩)⟩
      · obtain ⟨f', c', hf⟩ := flip_any f c hW 9
        exact ⟨1, 8, 9, check_c T f c n s0 oF hO hW hc hS hn0 hn1 bodd bs0, .inr (.inr ⟨rfl, f', c', hf⟩)⟩

/-- Fix answers the words f' and the error e. -/
def FixTo (T f : Nat → Int) (c : Int) (f' : Nat → Int) (e : Int) : Prop := WIn f' ∧ ∃ c', ∀ w : World, Tb w T → Db w → Calls Tryz.prog 103 #[.agg #[.int .i64 (f 0), .int .i64 (f 1), .int .i64 (f 2), .int .i64 (f 3), .int .i64 (f 4), .int .i64 (f 5), .int .i64 (f 6), .int .i64 (f 7)], .int .i64 c] w fun en w' => en = .returned (.tuple #[.agg #[.int .i64 (f' 0), .int .i64 (f' 1), .int .i64 (f' 2), .int .i64 (f' 3), .int .i64 (f' 4), .int .i64 (f' 5), .int .i64 (f' 6), .int .i64 (f' 7)], .int .i64 c', .int .i64 e]) ∧ Below w.heap.size w w'

theorem win_zero : WIn (fun _ => 0) := fun _ _ => ⟨Int.le_refl 0, by show (0 : Int) ≤ _; omega⟩

set_option maxRecDepth 100000 in
set_option maxHeartbeats 2000000 in
theorem fix_bad (T f : Nat → Int) (c : Int) (hW : WIn f) (hc : okC c = false) : FixTo T f c (fun _ => 0) 1 := by
  refine ⟨win_zero, 0, fun w hT hdb => ?_⟩
  go_enter Tryz.func103, Tryz.ntmps103
  go_wp2_with fail
  refine (valid_calls _ f c hW).mono ?_
  rintro e w1 ⟨rfl, hb1⟩
  rw [hc]
  have hX := ((Cl.new w 67 #[.int .i64 (f 0), .int .i64 (f 1), .int .i64 (f 2), .int .i64 (f 3), .int .i64 (f 4), .int .i64 (f 5), .int .i64 (f 6), .int .i64 (f 7)]).alloc _).below hb1 (by (first | omega | (simp; omega) | simp))
  have hZ := (Cl.new_ (w.alloc (.cells #[.int .i64 (f 0), .int .i64 (f 1), .int .i64 (f 2), .int .i64 (f 3), .int .i64 (f 4), .int .i64 (f 5), .int .i64 (f 6), .int .i64 (f 7)] 67)) 67 #[.int .i64 0, .int .i64 0, .int .i64 0, .int .i64 0, .int .i64 0, .int .i64 0, .int .i64 0, .int .i64 0] (w.heap.size + 1) (by simp)).below hb1 (by simp)
  have hB : Below w.heap.size w w1 := Below.trans (by (repeat (first | with_reducible exact Below.refl _ _ | with_reducible assumption | with_reducible refine below_drewN ?_ _ | with_reducible refine Below.drew ?_ | with_reducible refine Below.alloc ?_ (by first | omega | (simp; omega) | simp) _ | with_reducible refine Below.setCell ?_ (by first | omega | (simp; omega) | simp) _))) (hb1.mono (by (first | omega | (simp; omega) | simp)))
  clear hb1
  obtain ⟨y0, y1, y2, y3, y4, y5, y6, y7⟩ := hZ.free8'
  obtain ⟨z0, z1, z2, z3, z4, z5, z6, z7⟩ := hZ.has8'
  have l1 := hZ.lt
  go_wp2_with fail
  refine bodyPost_ret (v := .tuple #[.agg #[.int .i64 0, .int .i64 0, .int .i64 0, .int .i64 0, .int .i64 0, .int .i64 0, .int .i64 0, .int .i64 0], .int .i64 0, .int .i64 1]) ?_ rfl ⟨rfl, ?_⟩
  · simp [results, Tryz.results103, go_sem, *]
  · (repeat (first | with_reducible exact Below.refl _ _ | with_reducible assumption | with_reducible refine below_drewN ?_ _ | with_reducible refine Below.drew ?_ | with_reducible refine Below.alloc ?_ (by first | omega | (simp; omega) | simp) _ | with_reducible refine Below.setCell ?_ (by first | omega | (simp; omega) | simp) _))

set_option maxRecDepth 100000 in
set_option maxHeartbeats 4000000 in
theorem fix_rot (T f : Nat → Int) (c : Int) (hW : WIn f) (hc : okC c = true) (wd bt : Int) (hck : CkTo T f c 2 wd bt) : ∃ c', ∀ w : World, Tb w T → Db w → Calls Tryz.prog 103 #[.agg #[.int .i64 (f 0), .int .i64 (f 1), .int .i64 (f 2), .int .i64 (f 3), .int .i64 (f 4), .int .i64 (f 5), .int .i64 (f 6), .int .i64 (f 7)], .int .i64 c] w fun en w' => en = .returned (.tuple #[.agg #[.int .i64 0, .int .i64 0, .int .i64 0, .int .i64 0, .int .i64 0, .int .i64 0, .int .i64 0, .int .i64 0], .int .i64 c', .int .i64 9]) ∧ Below w.heap.size w w' := by
  refine ⟨0, fun w hT hdb => ?_⟩
  have HCK := Lib.hid hck
  clear hck
  go_enter Tryz.func103, Tryz.ntmps103
  go_wp2_with fail
  refine (valid_calls _ f c hW).mono ?_
  rintro e w1 ⟨rfl, hb1⟩
  rw [hc]
  have hX := ((Cl.new w 67 #[.int .i64 (f 0), .int .i64 (f 1), .int .i64 (f 2), .int .i64 (f 3), .int .i64 (f 4), .int .i64 (f 5), .int .i64 (f 6), .int .i64 (f 7)]).alloc _).below hb1 (by (first | omega | (simp; omega) | simp))
  have hZ := (Cl.new_ (w.alloc (.cells #[.int .i64 (f 0), .int .i64 (f 1), .int .i64 (f 2), .int .i64 (f 3), .int .i64 (f 4), .int .i64 (f 5), .int .i64 (f 6), .int .i64 (f 7)] 67)) 67 #[.int .i64 0, .int .i64 0, .int .i64 0, .int .i64 0, .int .i64 0, .int .i64 0, .int .i64 0, .int .i64 0] (w.heap.size + 1) (by simp)).below hb1 (by simp)
  have hB : Below w.heap.size w w1 := Below.trans (by (repeat (first | with_reducible exact Below.refl _ _ | with_reducible assumption | with_reducible refine below_drewN ?_ _ | with_reducible refine Below.drew ?_ | with_reducible refine Below.alloc ?_ (by first | omega | (simp; omega) | simp) _ | with_reducible refine Below.setCell ?_ (by first | omega | (simp; omega) | simp) _))) (hb1.mono (by (first | omega | (simp; omega) | simp)))
  clear hb1
  obtain ⟨x0, x1, x2, x3, x4, x5, x6, x7⟩ := hX.has8'
  go_wp2_with fail
  refine (HCK.out _ (hT.below hB) (hdb.below hB)).mono ?_
  rintro e w2 ⟨rfl, hb2⟩
  have hB2 := hB.trans (hb2.mono hB.size)
  replace hZ := hZ.below hb2 hZ.lt
  replace hX := hX.below hb2 hX.lt
  clear hb2 x0 x1 x2 x3 x4 x5 x6 x7 hB
  obtain ⟨x0, x1, x2, x3, x4, x5, x6, x7⟩ := hX.has8'
  obtain ⟨y0, y1, y2, y3, y4, y5, y6, y7⟩ := hZ.free8'
  obtain ⟨z0, z1, z2, z3, z4, z5, z6, z7⟩ := hZ.has8'
  have l0 := hX.lt
  have l1 := hZ.lt
  go_wp2_with fail
  refine bodyPost_ret (v := .tuple #[.agg #[.int .i64 0, .int .i64 0, .int .i64 0, .int .i64 0, .int .i64 0, .int .i64 0, .int .i64 0, .int .i64 0], .int .i64 0, .int .i64 9]) ?_ rfl ⟨rfl, ?_⟩
  · simp [results, Tryz.results103, go_sem, *]
  · (repeat (first | with_reducible exact Below.refl _ _ | with_reducible assumption | with_reducible refine below_drewN ?_ _ | with_reducible refine Below.drew ?_ | with_reducible refine Below.alloc ?_ (by first | omega | (simp; omega) | simp) _ | with_reducible refine Below.setCell ?_ (by first | omega | (simp; omega) | simp) _))

set_option maxRecDepth 100000 in
set_option maxHeartbeats 4000000 in
theorem fix_clean (T f : Nat → Int) (c : Int) (hW : WIn f) (hc : okC c = true) (wd bt : Int) (hck : CkTo T f c 0 wd bt) : ∃ c', ∀ w : World, Tb w T → Db w → Calls Tryz.prog 103 #[.agg #[.int .i64 (f 0), .int .i64 (f 1), .int .i64 (f 2), .int .i64 (f 3), .int .i64 (f 4), .int .i64 (f 5), .int .i64 (f 6), .int .i64 (f 7)], .int .i64 c] w fun en w' => en = .returned (.tuple #[.agg #[.int .i64 (f 0), .int .i64 (f 1), .int .i64 (f 2), .int .i64 (f 3), .int .i64 (f 4), .int .i64 (f 5), .int .i64 (f 6), .int .i64 (f 7)], .int .i64 c', .int .i64 0]) ∧ Below w.heap.size w w' := by
  refine ⟨c, fun w hT hdb => ?_⟩
  have HCK := Lib.hid hck
  clear hck
  go_enter Tryz.func103, Tryz.ntmps103
  go_wp2_with fail
  refine (valid_calls _ f c hW).mono ?_
  rintro e w1 ⟨rfl, hb1⟩
  rw [hc]
  have hX := ((Cl.new w 67 #[.int .i64 (f 0), .int .i64 (f 1), .int .i64 (f 2), .int .i64 (f 3), .int .i64 (f 4), .int .i64 (f 5), .int .i64 (f 6), .int .i64 (f 7)]).alloc _).below hb1 (by (first | omega | (simp; omega) | simp))
  have hZ := (Cl.new_ (w.alloc (.cells #[.int .i64 (f 0), .int .i64 (f 1), .int .i64 (f 2), .int .i64 (f 3), .int .i64 (f 4), .int .i64 (f 5), .int .i64 (f 6), .int .i64 (f 7)] 67)) 67 #[.int .i64 0, .int .i64 0, .int .i64 0, .int .i64 0, .int .i64 0, .int .i64 0, .int .i64 0, .int .i64 0] (w.heap.size + 1) (by simp)).below hb1 (by simp)
  have hB : Below w.heap.size w w1 := Below.trans (by (repeat (first | with_reducible exact Below.refl _ _ | with_reducible assumption | with_reducible refine below_drewN ?_ _ | with_reducible refine Below.drew ?_ | with_reducible refine Below.alloc ?_ (by first | omega | (simp; omega) | simp) _ | with_reducible refine Below.setCell ?_ (by first | omega | (simp; omega) | simp) _))) (hb1.mono (by (first | omega | (simp; omega) | simp)))
  clear hb1
  obtain ⟨x0, x1, x2, x3, x4, x5, x6, x7⟩ := hX.has8'
  go_wp2_with fail
  refine (HCK.out _ (hT.below hB) (hdb.below hB)).mono ?_
  rintro e w2 ⟨rfl, hb2⟩
  have hB2 := hB.trans (hb2.mono hB.size)
  replace hZ := hZ.below hb2 hZ.lt
  replace hX := hX.below hb2 hX.lt
  clear hb2 x0 x1 x2 x3 x4 x5 x6 x7 hB
  obtain ⟨x0, x1, x2, x3, x4, x5, x6, x7⟩ := hX.has8'
  obtain ⟨y0, y1, y2, y3, y4, y5, y6, y7⟩ := hZ.free8'
  obtain ⟨z0, z1, z2, z3, z4, z5, z6, z7⟩ := hZ.has8'
  have l0 := hX.lt
  have l1 := hZ.lt
  go_wp2_with fail
  refine bodyPost_ret (v := .tuple #[.agg #[.int .i64 (f 0), .int .i64 (f 1), .int .i64 (f 2), .int .i64 (f 3), .int .i64 (f 4), .int .i64 (f 5), .int .i64 (f 6), .int .i64 (f 7)], .int .i64 c, .int .i64 0]) ?_ rfl ⟨rfl, ?_⟩
  · simp [results, Tryz.results103, go_sem, *]
  · (repeat (first | with_reducible exact Below.refl _ _ | with_reducible assumption | with_reducible refine below_drewN ?_ _ | with_reducible refine Below.drew ?_ | with_reducible refine Below.alloc ?_ (by first | omega | (simp; omega) | simp) _ | with_reducible refine Below.setCell ?_ (by first | omega | (simp; omega) | simp) _))

set_option maxRecDepth 100000 in
set_option maxHeartbeats 4000000 in
theorem fix_one (T f : Nat → Int) (c : Int) (hW : WIn f) (hc : okC c = true) (wd bt : Int) (hck : CkTo T f c 1 wd bt) (f' : Nat → Int) (c' : Int) (hfl : FlipTo f c wd bt f' c') : FixTo T f c f' 0 := by
  refine ⟨hfl.1, c', fun w hT hdb => ?_⟩
  have HCK := Lib.hid hck
  have HFL := Lib.hid hfl.2
  clear hck hfl
  go_enter Tryz.func103, Tryz.ntmps103
  go_wp2_with fail
  refine (valid_calls _ f c hW).mono ?_
  rintro e w1 ⟨rfl, hb1⟩
  rw [hc]
  have hX := ((Cl.new w 67 #[.int .i64 (f 0), .int .i64 (f 1), .int .i64 (f 2), .int .i64 (f 3), .int .i64 (f 4), .int .i64 (f 5), .int .i64 (f 6), .int .i64 (f 7)]).alloc _).below hb1 (by (first | omega | (simp; omega) | simp))
  have hZ := (Cl.new_ (w.alloc (.cells #[.int .i64 (f 0), .int .i64 (f 1), .int .i64 (f 2), .int .i64 (f 3), .int .i64 (f 4), .int .i64 (f 5), .int .i64 (f 6), .int .i64 (f 7)] 67)) 67 #[.int .i64 0, .int .i64 0, .int .i64 0, .int .i64 0, .int .i64 0, .int .i64 0, .int .i64 0, .int .i64 0] (w.heap.size + 1) (by simp)).below hb1 (by simp)
  have hB : Below w.heap.size w w1 := Below.trans (by (repeat (first | with_reducible exact Below.refl _ _ | with_reducible assumption | with_reducible refine below_drewN ?_ _ | with_reducible refine Below.drew ?_ | with_reducible refine Below.alloc ?_ (by first | omega | (simp; omega) | simp) _ | with_reducible refine Below.setCell ?_ (by first | omega | (simp; omega) | simp) _))) (hb1.mono (by (first | omega | (simp; omega) | simp)))
  clear hb1
  obtain ⟨x0, x1, x2, x3, x4, x5, x6, x7⟩ := hX.has8'
  go_wp2_with fail
  refine (HCK.out _ (hT.below hB) (hdb.below hB)).mono ?_
  rintro e w2 ⟨rfl, hb2⟩
  have hB2 := hB.trans (hb2.mono hB.size)
  replace hZ := hZ.below hb2 hZ.lt
  replace hX := hX.below hb2 hX.lt
  clear hb2 x0 x1 x2 x3 x4 x5 x6 x7 hB
  obtain ⟨x0, x1, x2, x3, x4, x5, x6, x7⟩ := hX.has8'
  go_wp2_with fail
  refine (HFL.out _).mono ?_
  rintro e w3 ⟨rfl, hb3⟩
  have hB3 := hB2.trans (hb3.mono hB2.size)
  replace hZ := hZ.below hb3 hZ.lt
  replace hX := hX.below hb3 hX.lt
  clear hb3 x0 x1 x2 x3 x4 x5 x6 x7 hB2
  obtain ⟨x0, x1, x2, x3, x4, x5, x6, x7⟩ := hX.has8'
  obtain ⟨u0, u1, u2, u3, u4, u5, u6, u7⟩ := hX.free8'
  obtain ⟨y0, y1, y2, y3, y4, y5, y6, y7⟩ := hZ.free8'
  obtain ⟨z0, z1, z2, z3, z4, z5, z6, z7⟩ := hZ.has8'
  have l0 := hX.lt
  have l1 := hZ.lt
  go_wp2_with fail
  refine bodyPost_ret (v := .tuple #[.agg #[.int .i64 (f' 0), .int .i64 (f' 1), .int .i64 (f' 2), .int .i64 (f' 3), .int .i64 (f' 4), .int .i64 (f' 5), .int .i64 (f' 6), .int .i64 (f' 7)], .int .i64 c', .int .i64 0]) ?_ rfl ⟨rfl, ?_⟩
  · simp [results, Tryz.results103, go_sem, *]
  · (repeat (first | with_reducible exact Below.refl _ _ | with_reducible assumption | with_reducible refine below_drewN ?_ _ | with_reducible refine Below.drew ?_ | with_reducible refine Below.alloc ?_ (by first | omega | (simp; omega) | simp) _ | with_reducible refine Below.setCell ?_ (by first | omega | (simp; omega) | simp) _))

/-- Whatever the words and the code: Fix answers one pair of words and error. -/
theorem fix_det (T f : Nat → Int) (c : Int) (hW : WIn f) : ∃ (f' : Nat → Int) (e : Int), (e = 0 ∨ e = 1 ∨ e = 9) ∧ FixTo T f c f' e := by
  cases hc : okC c
  · exact ⟨_, 1, .inr (.inl rfl), fix_bad T f c hW hc⟩
  · obtain ⟨st, wd, bt, hck, h⟩ := check_det T f c hW
    rcases h with rfl | rfl | ⟨rfl, f', c', hf⟩
    · exact ⟨f, 0, .inl rfl, hW, fix_clean T f c hW hc wd bt hck⟩
    · exact ⟨_, 9, .inr (.inr rfl), win_zero, fix_rot T f c hW hc wd bt hck⟩
    · exact ⟨f', 0, .inl rfl, fix_one T f c hW hc wd bt hck f' c' hf⟩
end Go.Proofs.YtckamjbdogpacaaGreatDoor
