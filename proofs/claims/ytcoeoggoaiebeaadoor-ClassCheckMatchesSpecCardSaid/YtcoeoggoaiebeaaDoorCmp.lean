/-
  cmp.Compare and cmp.Or at integers, and the order in which class.Free sorts.
-/
import Derived.Test.YtcoeoggoaiebeaaDoorClone
import Derived.Test.YtcoeoggoaiebeaaDoorRow
import Derived.Test.YtcoeoggoaiebeaaDoorMergeLaw
import Derived.Test.YtcoeoggoaiebeaaDoorAppend
namespace Go.Proofs.YtcoeoggoaiebeaaDoor
open Go.RowKit
set_option linter.unusedSimpArgs false
set_option linter.unusedVariables false

/-- What cmp.Compare returns for two integers. -/
def cmpI (x y : Int) : Int := if x < y then -1 else if y < x then 1 else 0
/-- What the comparison of class.Free returns for two blocks. -/
def cmpB (x y : Bk) : Int := if cmpI x.gen y.gen ≠ 0 then cmpI x.gen y.gen else cmpI x.line y.line
/-- A block comes before another one. -/
def ltB (x y : Bk) : Bool := rarerB x.gen x.line y.gen y.line
theorem cmpB_lt (x y : Bk) : decide (cmpB x y < 0) = ltB x y := by
  unfold cmpB cmpI ltB rarerB
  by_cases h1 : x.gen < y.gen
  · simp [h1]
  · by_cases h2 : y.gen < x.gen
    · have h3 : ¬ x.gen = y.gen := by omega
      simp [h1, h2, h3]
    · have h3 : x.gen = y.gen := by omega
      by_cases h4 : x.line < y.line
      · simp [h3, h4]
      · by_cases h5 : y.line < x.line <;> simp [h3, h4, h5]
theorem swoB : Go.Sort.SWO ltB where
  irrefl x := by simp [ltB, rarerB]
  trans x y z h1 h2 := by simp only [ltB, rarerB, Bool.or_eq_true, decide_eq_true_eq, Bool.and_eq_true, beq_iff_eq] at *; omega
  ntrans x y z h1 h2 := by simp only [ltB, rarerB, Bool.or_eq_false_iff, decide_eq_false_iff_not, Bool.and_eq_false_iff, beq_eq_false_iff_ne] at *; omega

set_option maxHeartbeats 400000 in
theorem nan_calls (w : World) (x : Int) : Calls Tryd.prog 71 #[.int .i64 x] w fun e w' => e = .returned (.bool false) ∧ w = w' := by
  have h : (x != x) = false := by simp
  go_enter Tryd.func71, Tryd.ntmps71
  go_wp2_with fail
  go_ret
  exact ⟨rfl, rfl⟩
set_option maxHeartbeats 400000 in
theorem compare_calls (w : World) (x y : Int) : Calls Tryd.prog 47 #[.int .i64 x, .int .i64 y] w fun e w' => e = .returned (.int .i64 (cmpI x y)) ∧ w = w' := by
  by_cases h1 : x < y
  · have e : cmpI x y = -1 := by unfold cmpI; rw [if_pos h1]
    rw [e]
    clear e
    go_enter Tryd.func47, Tryd.ntmps47
    go_wp2_with fail
    refine (nan_calls _ x).mono ?_
    rintro e w1 ⟨rfl, rfl⟩
    go_wp2_with fail
    refine (nan_calls _ y).mono ?_
    rintro e w1 ⟨rfl, rfl⟩
    go_wp2_with fail
    go_ret
    exact ⟨rfl, rfl⟩
  · by_cases h2 : y < x
    · have e : cmpI x y = 1 := by unfold cmpI; rw [if_neg h1, if_pos h2]
      rw [e]
      clear e
      go_enter Tryd.func47, Tryd.ntmps47
      go_wp2_with fail
      refine (nan_calls _ x).mono ?_
      rintro e w1 ⟨rfl, rfl⟩
      go_wp2_with fail
      refine (nan_calls _ y).mono ?_
      rintro e w1 ⟨rfl, rfl⟩
      go_wp2_with fail
      go_ret
      exact ⟨rfl, rfl⟩
    · have e : cmpI x y = 0 := by unfold cmpI; rw [if_neg h1, if_neg h2]
      rw [e]
      clear e
      go_enter Tryd.func47, Tryd.ntmps47
      go_wp2_with fail
      refine (nan_calls _ x).mono ?_
      rintro e w1 ⟨rfl, rfl⟩
      go_wp2_with fail
      refine (nan_calls _ y).mono ?_
      rintro e w1 ⟨rfl, rfl⟩
      go_wp2_with fail
      go_ret
      exact ⟨rfl, rfl⟩
set_option maxHeartbeats 400000 in
theorem or_calls (w : World) (g : Nat) (a b : Int) (hc : Cl w g 3 #[.int .i64 a, .int .i64 b]) :
    Calls Tryd.prog 46 #[.slice (some ⟨g, 0, none⟩) 2 2] w fun e w' => e = .returned (.int .i64 (if a ≠ 0 then a else b)) ∧ w = w' := by
  have c0 : w.cell? ⟨g, 0, none⟩ = some (.int .i64 a) := hc.cell 0
  have c1 : w.cell? ⟨g, 1, none⟩ = some (.int .i64 b) := hc.cell 1
  have hl := hc.lt
  clear hc
  by_cases h1 : a = 0
  · subst h1
    rw [if_neg (by simp)]
    by_cases h2 : b = 0
    · subst h2
      go_enter Tryd.func46, Tryd.ntmps46
      go_wp2_with fail
      refine wp_loop_rounds 3 ?_
      rw [rounds_succ]
      go_wp2_with fail
      rw [rounds_succ]
      go_wp2_with fail
      rw [rounds_succ]
      go_wp2_with fail
      go_ret
      exact ⟨rfl, rfl⟩
    · have b1 : (b != 0) = true := by simp [h2]
      clear h2
      go_enter Tryd.func46, Tryd.ntmps46
      go_wp2_with fail
      refine wp_loop_rounds 3 ?_
      rw [rounds_succ]
      go_wp2_with fail
      rw [rounds_succ]
      go_wp2_with fail
      go_ret
      exact ⟨rfl, rfl⟩
  · rw [if_pos h1]
    have b1 : (a != 0) = true := by simp [h1]
    clear h1
    go_enter Tryd.func46, Tryd.ntmps46
    go_wp2_with fail
    refine wp_loop_rounds 3 ?_
    rw [rounds_succ]
    go_wp2_with fail
    go_ret
    exact ⟨rfl, rfl⟩

set_option maxRecDepth 100000 in
set_option maxHeartbeats 1000000 in
theorem cmp_calls (w : World) (x y : Bk) :
    Calls Tryd.prog 45 #[.agg #[.int .i64 (Bk.line x), .int .i64 (Bk.cls x), .int .i64 (Bk.kind x), .int .i64 (Bk.gen x)], .agg #[.int .i64 (Bk.line y), .int .i64 (Bk.cls y), .int .i64 (Bk.kind y), .int .i64 (Bk.gen y)]] w fun e w' => e = .returned (.int .i64 (cmpB x y)) ∧ Below w.heap.size w w' := by
  go_enter Tryd.func45, Tryd.ntmps45
  go_upto_region 1 with (fail)
  generalize hwn : (w.alloc (.cells #[.int .i64 (Bk.line x), .int .i64 (Bk.cls x), .int .i64 (Bk.kind x), .int .i64 (Bk.gen x)] 53)).alloc (.cells #[.int .i64 (Bk.line y), .int .i64 (Bk.cls y), .int .i64 (Bk.kind y), .int .i64 (Bk.gen y)] 53) = wn
  have hX : Cl wn w.heap.size 53 #[.int .i64 (Bk.line x), .int .i64 (Bk.cls x), .int .i64 (Bk.kind x), .int .i64 (Bk.gen x)] := by rw [← hwn]; exact (Cl.new _ _ _).alloc _
  have hY : Cl wn (w.heap.size + 1) 53 #[.int .i64 (Bk.line y), .int .i64 (Bk.cls y), .int .i64 (Bk.kind y), .int .i64 (Bk.gen y)] := by rw [← hwn]; exact Cl.new_ _ _ _ _ (by simp)
  have hAn : Below w.heap.size w wn := by rw [← hwn]; (repeat (first | with_reducible exact Below.refl _ _ | with_reducible assumption | with_reducible refine below_drewN ?_ _ | with_reducible refine Below.drew ?_ | with_reducible refine Below.alloc ?_ (by first | omega | (simp; omega) | simp) _ | with_reducible refine Below.setCell ?_ (by first | omega | (simp; omega) | simp) _))
  clear hwn
  have lx := hX.lt
  have ly := hY.lt
  obtain ⟨⟨x0, x1, x2, x3⟩, -⟩ := hX.has4
  obtain ⟨⟨y0, y1, y2, y3⟩, -⟩ := hY.has4
  obtain ⟨c1, hc1⟩ : ∃ c1, cmpI x.gen y.gen = c1 := ⟨_, rfl⟩
  obtain ⟨c2, hc2⟩ : ∃ c2, cmpI x.line y.line = c2 := ⟨_, rfl⟩
  have HC1 := Lib.hid hc1
  have HC2 := Lib.hid hc2
  have HR : Hid (cmpB x y = if c1 ≠ 0 then c1 else c2) := by show cmpB x y = _; unfold cmpB; rw [hc1, hc2]
  clear hc1 hc2
  go_region_held3 (fun w' => w'.cell? ⟨w.heap.size, 0, none⟩ = some (.int .i64 x.line) ∧ w'.cell? ⟨w.heap.size, 3, none⟩ = some (.int .i64 x.gen) ∧ w'.cell? ⟨w.heap.size + 1, 0, none⟩ = some (.int .i64 y.line) ∧ w'.cell? ⟨w.heap.size + 1, 3, none⟩ = some (.int .i64 y.gen)) (go_keep)
    (first
      | (go_at_call 47; refine (compare_calls _ _ _).mono ?_; rintro e w' ⟨rfl, rfl⟩; first | rw [HC1.out] | rw [HC2.out])
      | (go_at_call 46; (first | refine (or_calls _ wn.heap.size c1 c2 (Cl.drew (Cl.new _ _ _))).mono ?_ | refine (or_calls _ wn.heap.size c1 c2 (Cl.new _ _ _)).mono ?_); rintro e w' ⟨rfl, rfl⟩; rw [← HR.out]))
  go_wp2_with fail
  go_ret
  exact ⟨rfl, by (repeat (first | with_reducible exact Below.refl _ _ | with_reducible assumption | with_reducible refine below_drewN ?_ _ | with_reducible refine Below.drew ?_ | with_reducible refine Below.alloc ?_ (by first | omega | (simp; omega) | simp) _ | with_reducible refine Below.setCell ?_ (by first | omega | (simp; omega) | simp) _))⟩
end Go.Proofs.YtcoeoggoaiebeaaDoor
