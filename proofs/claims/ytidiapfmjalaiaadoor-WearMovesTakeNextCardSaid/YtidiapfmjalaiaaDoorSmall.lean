/-
  The small functions: rarer, the two closures, pointer.Next, the specification's Next, power and Lines.
-/
import Derived.Test.YtidiapfmjalaiaaDoorWords
namespace Go.Proofs.YtidiapfmjalaiaaDoor
open Go.RowKit

set_option maxHeartbeats 400000 in
theorem rarer_calls (w : World) (l c k g l' c' k' g' : Int) :
    Calls Tryd.prog 23 #[.agg #[.int .i64 l, .int .i64 c, .int .i64 k, .int .i64 g], .agg #[.int .i64 l', .int .i64 c', .int .i64 k', .int .i64 g']] w
      fun e w' => e = .returned (.bool (rarerB g l g' l')) ∧ Below w.heap.size w w' := by
  rcases Int.lt_trichotomy g g' with h | rfl | h
  · rw [rarerB_yes h]
    go_enter Tryd.func23, Tryd.ntmps23
    go_wp2
    go_ret
    exact ⟨rfl, by (repeat (first | with_reducible exact Below.refl _ _ | with_reducible assumption | with_reducible refine below_drewN ?_ _ | with_reducible refine Below.drew ?_ | with_reducible refine Below.alloc ?_ (by first | omega | (simp; omega) | simp) _ | with_reducible refine Below.setCell ?_ (by first | omega | (simp; omega) | simp) _))⟩
  · rw [rarerB_eq]
    go_enter Tryd.func23, Tryd.ntmps23
    go_wp2
    go_ret
    exact ⟨rfl, by (repeat (first | with_reducible exact Below.refl _ _ | with_reducible assumption | with_reducible refine below_drewN ?_ _ | with_reducible refine Below.drew ?_ | with_reducible refine Below.alloc ?_ (by first | omega | (simp; omega) | simp) _ | with_reducible refine Below.setCell ?_ (by first | omega | (simp; omega) | simp) _))⟩
  · rw [rarerB_no h]
    have h1 : decide (g < g') = false := by simp; omega
    have h2 : (g == g') = false := by simp; omega
    go_enter Tryd.func23, Tryd.ntmps23
    go_wp2
    go_ret
    exact ⟨rfl, by (repeat (first | with_reducible exact Below.refl _ _ | with_reducible assumption | with_reducible refine below_drewN ?_ _ | with_reducible refine Below.drew ?_ | with_reducible refine Below.alloc ?_ (by first | omega | (simp; omega) | simp) _ | with_reducible refine Below.setCell ?_ (by first | omega | (simp; omega) | simp) _))⟩

set_option maxHeartbeats 400000 in
theorem free_calls (w : World) (l c k g c0 : Int) (p : Nat) (hp : w.cell? ⟨p, 0, none⟩ = some (.int .i64 c0)) :
    Calls Tryd.prog 22 #[.agg #[.int .i64 l, .int .i64 c, .int .i64 k, .int .i64 g], .pointer (some ⟨p, 0, none⟩)] w
      fun e w' => e = .returned (.bool (freeB c k c0)) ∧ Below w.heap.size w w' := by
  have hlt : p < w.heap.size := World.block_lt_of_cell? w _ hp
  by_cases h : c = c0
  · subst h
    have hf : freeB c k c = (k == 0) := by simp [freeB]
    rw [hf]
    clear hf
    go_enter Tryd.func22, Tryd.ntmps22
    go_wp2
    go_ret
    exact ⟨rfl, by (repeat (first | with_reducible exact Below.refl _ _ | with_reducible assumption | with_reducible refine below_drewN ?_ _ | with_reducible refine Below.drew ?_ | with_reducible refine Below.alloc ?_ (by first | omega | (simp; omega) | simp) _ | with_reducible refine Below.setCell ?_ (by first | omega | (simp; omega) | simp) _))⟩
  · have hf : freeB c k c0 = false := by simp [freeB, h]
    rw [hf]
    clear hf
    have h2 : (c == c0) = false := by simp [h]
    clear h
    go_enter Tryd.func22, Tryd.ntmps22
    go_wp2
    go_ret
    exact ⟨rfl, by (repeat (first | with_reducible exact Below.refl _ _ | with_reducible assumption | with_reducible refine below_drewN ?_ _ | with_reducible refine Below.drew ?_ | with_reducible refine Below.alloc ?_ (by first | omega | (simp; omega) | simp) _ | with_reducible refine Below.setCell ?_ (by first | omega | (simp; omega) | simp) _))⟩

set_option maxHeartbeats 400000 in
theorem used_calls (w : World) (l c k g c0 : Int) (p : Nat) (hp : w.cell? ⟨p, 0, none⟩ = some (.int .i64 c0)) :
    Calls Tryd.prog 24 #[.agg #[.int .i64 l, .int .i64 c, .int .i64 k, .int .i64 g], .pointer (some ⟨p, 0, none⟩)] w
      fun e w' => e = .returned (.bool (usedB c k c0)) ∧ Below w.heap.size w w' := by
  have hlt : p < w.heap.size := World.block_lt_of_cell? w _ hp
  by_cases h : c = c0
  · subst h
    have hf : usedB c k c = (k != 0) := by simp [usedB]
    rw [hf]
    clear hf
    go_enter Tryd.func24, Tryd.ntmps24
    go_wp2
    go_ret
    exact ⟨rfl, by (repeat (first | with_reducible exact Below.refl _ _ | with_reducible assumption | with_reducible refine below_drewN ?_ _ | with_reducible refine Below.drew ?_ | with_reducible refine Below.alloc ?_ (by first | omega | (simp; omega) | simp) _ | with_reducible refine Below.setCell ?_ (by first | omega | (simp; omega) | simp) _))⟩
  · have hf : usedB c k c0 = false := by simp [usedB, h]
    rw [hf]
    clear hf
    have h2 : (c == c0) = false := by simp [h]
    clear h
    go_enter Tryd.func24, Tryd.ntmps24
    go_wp2
    go_ret
    exact ⟨rfl, by (repeat (first | with_reducible exact Below.refl _ _ | with_reducible assumption | with_reducible refine below_drewN ?_ _ | with_reducible refine Below.drew ?_ | with_reducible refine Below.alloc ?_ (by first | omega | (simp; omega) | simp) _ | with_reducible refine Below.setCell ?_ (by first | omega | (simp; omega) | simp) _))⟩

set_option maxHeartbeats 400000 in
theorem pnext_calls (w : World) (g : Int) :
    Calls Tryd.prog 28 #[.int .i64 g] w fun e w' => e = .returned (.int .i64 (nextGen g)) ∧ w = w' := by
  by_cases h : g < 0
  · have hf : nextGen g = 1 := by simp [nextGen, h]
    rw [hf]
    clear hf
    go_enter Tryd.func28, Tryd.ntmps28
    go_wp2
    go_ret
    exact ⟨rfl, rfl⟩
  · by_cases h2 : 1048575 ≤ g
    · have hf : nextGen g = 1 := by simp [nextGen, h2]
      rw [hf]
      clear hf
      go_enter Tryd.func28, Tryd.ntmps28
      go_wp2
      go_ret
      exact ⟨rfl, rfl⟩
    · have hf : nextGen g = g + 1 := by simp [nextGen]; omega
      rw [hf]
      clear hf
      go_enter Tryd.func28, Tryd.ntmps28
      go_wp2
      go_ret
      exact ⟨rfl, rfl⟩

set_option maxHeartbeats 400000 in
theorem power_calls (w : World) (n : Nat) (hn : n ≤ 4) :
    Calls Tryd.prog 37 #[.int .i64 n] w fun e w' => e = .returned (.int .i64 ((2 ^ n : Nat) : Int)) ∧ w = w' := by
  go_enter Tryd.func37, Tryd.ntmps37
  go_wp2
  go_loop [3, 4] (fun p i => ∃ k : Nat, k ≤ n ∧ i = .int .i64 k ∧ p = .int .i64 ((2 ^ k : Nat) : Int)) (fun _ i => n - (intOf i).toNat)
  case atStart => exact ⟨0, Nat.zero_le _, rfl, rfl⟩
  case round =>
    obtain ⟨k, hk, rfl, rfl⟩ := hrel
    by_cases hlt : k < n
    · have hp : (2 ^ k : Nat) ≤ 16 := Nat.le_trans (Nat.pow_le_pow_right (by omega) (show k ≤ 4 by omega)) (by decide)
      have hS := Lib.hid (Nat.pow_succ 2 k)
      generalize 2 ^ k = z at *
      go_wp2
      go_round
      case rel => exact ⟨k + 1, by omega, by go_num, by rw [hS.out]; go_num⟩
      case measure => simp [intOf]; omega
    · obtain rfl : k = n := by omega
      go_wp2
      go_ret
      exact ⟨rfl, rfl⟩

set_option maxHeartbeats 400000 in
theorem rlines_calls (w : World) (n : Nat) (hn : n ≤ 4) :
    Calls Tryd.prog 31 #[.int .i64 n] w fun e w' => e = .returned (.int .i64 ((2 ^ n : Nat) : Int)) ∧ w = w' := by
  go_enter Tryd.func31, Tryd.ntmps31
  go_wp2_with (go_at_call 37; refine (power_calls _ n hn).mono ?_; rintro e w' ⟨rfl, rfl⟩)
  go_ret
  exact ⟨rfl, rfl⟩
end Go.Proofs.YtidiapfmjalaiaaDoor
