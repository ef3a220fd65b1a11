/-
  class.Room, class.Fit; the specification's Room and Fit.
-/
import Derived.Test.YtckamjbdogpacaaGreatDoorStarts
import Derived.Test.YtckamjbdogpacaaGreatDoorAfterB
namespace Go.Proofs.YtckamjbdogpacaaGreatDoor
open Go.RowKit

def roomZ (c : Int) : Int := if c = 0 then 7 else if c = 1 then 15 else if c = 2 then 31 else if c = 3 then 63 else if c = 4 then 127 else 0
def fitZ (n : Int) : Int × Int := if n < 0 then (0, 1) else if n ≤ 7 then (0, 0) else if n ≤ 15 then (1, 0) else if n ≤ 31 then (2, 0) else if n ≤ 63 then (3, 0) else if n ≤ 127 then (4, 0) else (0, 2)
theorem roomZ_out (c : Int) (h : c < 0 ∨ 4 < c) : roomZ c = 0 := by
  unfold roomZ
  rw [if_neg (by omega), if_neg (by omega), if_neg (by omega), if_neg (by omega), if_neg (by omega)]
theorem five (c : Int) : (c < 0 ∨ 4 < c) ∨ c = 0 ∨ c = 1 ∨ c = 2 ∨ c = 3 ∨ c = 4 := by omega

set_option maxHeartbeats 400000 in
theorem room0 (w : World) : Calls Tryz.prog 12 #[.int .i64 0] w fun e w' => e = .returned (.int .i64 7) ∧ w = w' := by
  go_enter Tryz.func12, Tryz.ntmps12
  go_wp2_with fail
  refine (plines0 _).mono ?_
  rintro e w1 ⟨rfl, rfl⟩
  go_wp2_with fail
  go_ret
  exact ⟨rfl, rfl⟩
set_option maxHeartbeats 400000 in
theorem room1 (w : World) : Calls Tryz.prog 12 #[.int .i64 1] w fun e w' => e = .returned (.int .i64 15) ∧ w = w' := by
  go_enter Tryz.func12, Tryz.ntmps12
  go_wp2_with fail
  refine (plines1 _).mono ?_
  rintro e w1 ⟨rfl, rfl⟩
  go_wp2_with fail
  go_ret
  exact ⟨rfl, rfl⟩
set_option maxHeartbeats 400000 in
theorem room2 (w : World) : Calls Tryz.prog 12 #[.int .i64 2] w fun e w' => e = .returned (.int .i64 31) ∧ w = w' := by
  go_enter Tryz.func12, Tryz.ntmps12
  go_wp2_with fail
  refine (plines2 _).mono ?_
  rintro e w1 ⟨rfl, rfl⟩
  go_wp2_with fail
  go_ret
  exact ⟨rfl, rfl⟩
set_option maxHeartbeats 400000 in
theorem room3 (w : World) : Calls Tryz.prog 12 #[.int .i64 3] w fun e w' => e = .returned (.int .i64 63) ∧ w = w' := by
  go_enter Tryz.func12, Tryz.ntmps12
  go_wp2_with fail
  refine (plines3 _).mono ?_
  rintro e w1 ⟨rfl, rfl⟩
  go_wp2_with fail
  go_ret
  exact ⟨rfl, rfl⟩
set_option maxHeartbeats 400000 in
theorem room4 (w : World) : Calls Tryz.prog 12 #[.int .i64 4] w fun e w' => e = .returned (.int .i64 127) ∧ w = w' := by
  go_enter Tryz.func12, Tryz.ntmps12
  go_wp2_with fail
  refine (plines4 _).mono ?_
  rintro e w1 ⟨rfl, rfl⟩
  go_wp2_with fail
  go_ret
  exact ⟨rfl, rfl⟩
set_option maxHeartbeats 400000 in
theorem room_out (w : World) (c : Int) (h : c < 0 ∨ 4 < c) : Calls Tryz.prog 12 #[.int .i64 c] w fun e w' => e = .returned (.int .i64 0) ∧ w = w' := by
  go_enter Tryz.func12, Tryz.ntmps12
  go_wp2_with fail
  refine (plines_out _ c h).mono ?_
  rintro e w1 ⟨rfl, rfl⟩
  go_wp2_with fail
  go_ret
  exact ⟨rfl, rfl⟩
theorem room_calls (w : World) (c : Int) : Calls Tryz.prog 12 #[.int .i64 c] w fun e w' => e = .returned (.int .i64 (roomZ c)) ∧ w = w' := by
  rcases five c with h | rfl | rfl | rfl | rfl | rfl
  · rw [roomZ_out c h]; exact room_out w c h
  · exact room0 w
  · exact room1 w
  · exact room2 w
  · exact room3 w
  · exact room4 w
def lowZ (c : Nat) : Int := if c = 0 then -1 else if c = 1 then 7 else if c = 2 then 15 else if c = 3 then 31 else if c = 4 then 63 else 127
def FitRel (n : Int) (w : World) (i : Value) (wr : World) : Prop := ∃ c : Nat, c ≤ 5 ∧ i = .int .i64 c ∧ lowZ c < n ∧ w = wr

set_option maxHeartbeats 2000000 in
theorem fit_calls (w : World) (n : Int) : Calls Tryz.prog 11 #[.int .i64 n] w fun e w' => e = .returned (.tuple #[.int .i64 (fitZ n).1, .int .i64 (fitZ n).2]) ∧ w = w' := by
  by_cases h0 : n < 0
  · have hF : fitZ n = (0, 1) := by unfold fitZ; rw [if_pos h0]
    rw [hF]
    clear hF
    go_enter Tryz.func11, Tryz.ntmps11
    go_wp2
    go_ret2
    exact ⟨rfl, rfl⟩
  · go_enter Tryz.func11, Tryz.ntmps11
    go_wp2_with fail
    go_loopw [4, 7] (fun _ i wr => FitRel n w i wr) (fun _ i _ => 5 - (intOf i).toNat)
    case atStart => exact ⟨0, by omega, rfl, by unfold lowZ; simp; omega, rfl⟩
    case round =>
      obtain ⟨c, hc, rfl, hl, rfl⟩ := hrel
      have h6 : c = 0 ∨ c = 1 ∨ c = 2 ∨ c = 3 ∨ c = 4 ∨ c = 5 := by omega
      rcases h6 with rfl | rfl | rfl | rfl | rfl | rfl
      · have hlo : -1 < n := hl
        clear hl
        go_wp2_with fail
        refine (room0 _).mono ?_
        rintro e w1 ⟨rfl, rfl⟩
        by_cases hr : n ≤ 7
        · have HF : Hid (fitZ n = (0, 0)) := by show _ = _; unfold fitZ; repeat (first | rw [if_neg (by omega)] | rw [if_pos (by omega)])
          clear hlo
          go_wp2_with fail
          go_ret2
          exact ⟨by rw [HF.out]; rfl, rfl⟩
        · clear hlo
          go_wp2_with fail
          exact ⟨⟨1, by omega, by go_num, by show (7 : Int) < n; omega, rfl⟩, by simp [intOf]⟩
      · have hlo : 7 < n := hl
        clear hl
        go_wp2_with fail
        refine (room1 _).mono ?_
        rintro e w1 ⟨rfl, rfl⟩
        by_cases hr : n ≤ 15
        · have HF : Hid (fitZ n = (1, 0)) := by show _ = _; unfold fitZ; repeat (first | rw [if_neg (by omega)] | rw [if_pos (by omega)])
          clear hlo
          go_wp2_with fail
          go_ret2
          exact ⟨by rw [HF.out]; rfl, rfl⟩
        · clear hlo
          go_wp2_with fail
          exact ⟨⟨2, by omega, by go_num, by show (15 : Int) < n; omega, rfl⟩, by simp [intOf]⟩
      · have hlo : 15 < n := hl
        clear hl
        go_wp2_with fail
        refine (room2 _).mono ?_
        rintro e w1 ⟨rfl, rfl⟩
        by_cases hr : n ≤ 31
        · have HF : Hid (fitZ n = (2, 0)) := by show _ = _; unfold fitZ; repeat (first | rw [if_neg (by omega)] | rw [if_pos (by omega)])
          clear hlo
          go_wp2_with fail
          go_ret2
          exact ⟨by rw [HF.out]; rfl, rfl⟩
        · clear hlo
          go_wp2_with fail
          exact ⟨⟨3, by omega, by go_num, by show (31 : Int) < n; omega, rfl⟩, by simp [intOf]⟩
      · have hlo : 31 < n := hl
        clear hl
        go_wp2_with fail
        refine (room3 _).mono ?_
        rintro e w1 ⟨rfl, rfl⟩
        by_cases hr : n ≤ 63
        · have HF : Hid (fitZ n = (3, 0)) := by show _ = _; unfold fitZ; repeat (first | rw [if_neg (by omega)] | rw [if_pos (by omega)])
          clear hlo
          go_wp2_with fail
          go_ret2
          exact ⟨by rw [HF.out]; rfl, rfl⟩
        · clear hlo
          go_wp2_with fail
          exact ⟨⟨4, by omega, by go_num, by show (63 : Int) < n; omega, rfl⟩, by simp [intOf]⟩
      · have hlo : 63 < n := hl
        clear hl
        go_wp2_with fail
        refine (room4 _).mono ?_
        rintro e w1 ⟨rfl, rfl⟩
        by_cases hr : n ≤ 127
        · have HF : Hid (fitZ n = (4, 0)) := by show _ = _; unfold fitZ; repeat (first | rw [if_neg (by omega)] | rw [if_pos (by omega)])
          clear hlo
          go_wp2_with fail
          go_ret2
          exact ⟨by rw [HF.out]; rfl, rfl⟩
        · clear hlo
          go_wp2_with fail
          exact ⟨⟨5, by omega, by go_num, by show (127 : Int) < n; omega, rfl⟩, by simp [intOf]⟩
      · have hlo : 127 < n := hl
        have HF : Hid (fitZ n = (0, 2)) := by show _ = _; unfold fitZ; repeat (first | rw [if_neg (by omega)] | rw [if_pos (by omega)])
        clear hl hlo
        go_wp2_with fail
        go_ret2
        exact ⟨by rw [HF.out]; rfl, rfl⟩
end Go.Proofs.YtckamjbdogpacaaGreatDoor
