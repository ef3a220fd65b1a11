/-
  The laws ClassFitMatchesSpec and ClassFitIsLeast return true.
-/
import Derived.Test.YtcoeoggoaiebeaaDoorSan
import Derived.Test.YtcoeoggoaiebeaaDoorFit
namespace Go.Proofs.YtcoeoggoaiebeaaDoor
open Go.RowKit
set_option linter.unusedSimpArgs false
set_option linter.unusedVariables false

set_option maxHeartbeats 2000000 in
theorem fitMatches_calls (w : World) (n c : Int) (hd : Hd w) (hp : Pt w) : Calls Tryd.prog 3 #[.int .i64 n, .int .i64 c] w fun e w' => e = .returned (.bool true) ∧ Below w.heap.size w w' := by
  obtain ⟨a, ha⟩ : ∃ a, (fitZ n).1 = a := ⟨_, rfl⟩
  obtain ⟨b, hb⟩ : ∃ b, (fitZ n).2 = b := ⟨_, rfl⟩
  obtain ⟨r, hr⟩ : ∃ r, roomZ c = r := ⟨_, rfl⟩
  go_enter Tryd.func3, Tryd.ntmps3
  go_wp2_with fail
  refine (sanity_calls _ hd hp).mono ?_
  rintro e w1 ⟨rfl, hB⟩
  go_wp2_with fail
  refine (fit_calls _ n).mono ?_
  rintro e w' ⟨rfl, rfl⟩
  rw [ha, hb]
  go_wp2_with fail
  refine (rfit_calls _ n).mono ?_
  rintro e w' ⟨rfl, rfl⟩
  rw [ha, hb]
  go_wp2_with fail
  refine (room_calls _ c).mono ?_
  rintro e w' ⟨rfl, rfl⟩
  rw [hr]
  go_wp2_with fail
  refine (rroom_calls _ c).mono ?_
  rintro e w' ⟨rfl, rfl⟩
  rw [hr]
  go_wp2_with fail
  go_ret
  exact ⟨by simp, hB⟩

set_option maxHeartbeats 2000000 in
theorem fitLeast_neg (w : World) (n : Int) (h : (n<0)) (hd : Hd w) (hp : Pt w) : Calls Tryd.prog 4 #[.int .i64 n] w fun e w' => e = .returned (.bool true) ∧ Below w.heap.size w w' := by
  have hF : fitZ n = (0, 1) := by unfold fitZ; repeat (first | rw [if_pos (by omega)] | rw [if_neg (by omega)])
  have HF := Lib.hid hF
  clear hF
  go_enter Tryd.func4, Tryd.ntmps4
  go_wp2_with fail
  refine (sanity_calls _ hd hp).mono ?_
  rintro e w1 ⟨rfl, hB⟩
  go_wp2_with fail
  refine (fit_calls _ n).mono ?_
  rintro e w' ⟨rfl, rfl⟩
  rw [HF.out]
  go_wp2_with fail
  try (refine (room4 _).mono ?_; rintro e w' ⟨rfl, rfl⟩; go_wp2_with fail)
  go_ret
  exact ⟨by simp; try omega, hB⟩
set_option maxHeartbeats 2000000 in
theorem fitLeast_big (w : World) (n : Int) (h : (127<n)) (hd : Hd w) (hp : Pt w) : Calls Tryd.prog 4 #[.int .i64 n] w fun e w' => e = .returned (.bool true) ∧ Below w.heap.size w w' := by
  have hF : fitZ n = (0, 2) := by unfold fitZ; repeat (first | rw [if_pos (by omega)] | rw [if_neg (by omega)])
  have HF := Lib.hid hF
  clear hF
  go_enter Tryd.func4, Tryd.ntmps4
  go_wp2_with fail
  refine (sanity_calls _ hd hp).mono ?_
  rintro e w1 ⟨rfl, hB⟩
  go_wp2_with fail
  refine (fit_calls _ n).mono ?_
  rintro e w' ⟨rfl, rfl⟩
  rw [HF.out]
  go_wp2_with fail
  try (refine (room4 _).mono ?_; rintro e w' ⟨rfl, rfl⟩; go_wp2_with fail)
  go_ret
  exact ⟨by simp; try omega, hB⟩
set_option maxHeartbeats 2000000 in
theorem fitLeast_0 (w : World) (n : Int) (h : -1 < n) (h' : n ≤ 7) (hd : Hd w) (hp : Pt w) : Calls Tryd.prog 4 #[.int .i64 n] w fun e w' => e = .returned (.bool true) ∧ Below w.heap.size w w' := by
  have hF : fitZ n = (0, 0) := by unfold fitZ; repeat (first | rw [if_pos (by omega)] | rw [if_neg (by omega)])
  have HF := Lib.hid hF
  clear hF
  go_enter Tryd.func4, Tryd.ntmps4
  go_wp2_with fail
  refine (sanity_calls _ hd hp).mono ?_
  rintro e w1 ⟨rfl, hB⟩
  go_wp2_with fail
  refine (fit_calls _ n).mono ?_
  rintro e w' ⟨rfl, rfl⟩
  rw [HF.out]
  go_wp2_with fail
  refine (room_calls _ _).mono ?_
  rintro e w' ⟨rfl, rfl⟩
  rw [show roomZ 0 = 7 from rfl]
  go_wp2_with fail
  try (refine (room0 _).mono ?_; rintro e w' ⟨rfl, rfl⟩; go_wp2_with fail)
  go_ret
  exact ⟨by simp; try omega, hB⟩
set_option maxHeartbeats 2000000 in
theorem fitLeast_1 (w : World) (n : Int) (h : 7 < n) (h' : n ≤ 15) (hd : Hd w) (hp : Pt w) : Calls Tryd.prog 4 #[.int .i64 n] w fun e w' => e = .returned (.bool true) ∧ Below w.heap.size w w' := by
  have hF : fitZ n = (1, 0) := by unfold fitZ; repeat (first | rw [if_pos (by omega)] | rw [if_neg (by omega)])
  have HF := Lib.hid hF
  clear hF
  go_enter Tryd.func4, Tryd.ntmps4
  go_wp2_with fail
  refine (sanity_calls _ hd hp).mono ?_
  rintro e w1 ⟨rfl, hB⟩
  go_wp2_with fail
  refine (fit_calls _ n).mono ?_
  rintro e w' ⟨rfl, rfl⟩
  rw [HF.out]
  go_wp2_with fail
  refine (room_calls _ _).mono ?_
  rintro e w' ⟨rfl, rfl⟩
  rw [show roomZ 1 = 15 from rfl]
  go_wp2_with fail
  try (refine (room0 _).mono ?_; rintro e w' ⟨rfl, rfl⟩; go_wp2_with fail)
  go_ret
  exact ⟨by simp; try omega, hB⟩
set_option maxHeartbeats 2000000 in
theorem fitLeast_2 (w : World) (n : Int) (h : 15 < n) (h' : n ≤ 31) (hd : Hd w) (hp : Pt w) : Calls Tryd.prog 4 #[.int .i64 n] w fun e w' => e = .returned (.bool true) ∧ Below w.heap.size w w' := by
  have hF : fitZ n = (2, 0) := by unfold fitZ; repeat (first | rw [if_pos (by omega)] | rw [if_neg (by omega)])
  have HF := Lib.hid hF
  clear hF
  go_enter Tryd.func4, Tryd.ntmps4
  go_wp2_with fail
  refine (sanity_calls _ hd hp).mono ?_
  rintro e w1 ⟨rfl, hB⟩
  go_wp2_with fail
  refine (fit_calls _ n).mono ?_
  rintro e w' ⟨rfl, rfl⟩
  rw [HF.out]
  go_wp2_with fail
  refine (room_calls _ _).mono ?_
  rintro e w' ⟨rfl, rfl⟩
  rw [show roomZ 2 = 31 from rfl]
  go_wp2_with fail
  try (refine (room1 _).mono ?_; rintro e w' ⟨rfl, rfl⟩; go_wp2_with fail)
  go_ret
  exact ⟨by simp; try omega, hB⟩
set_option maxHeartbeats 2000000 in
theorem fitLeast_3 (w : World) (n : Int) (h : 31 < n) (h' : n ≤ 63) (hd : Hd w) (hp : Pt w) : Calls Tryd.prog 4 #[.int .i64 n] w fun e w' => e = .returned (.bool true) ∧ Below w.heap.size w w' := by
  have hF : fitZ n = (3, 0) := by unfold fitZ; repeat (first | rw [if_pos (by omega)] | rw [if_neg (by omega)])
  have HF := Lib.hid hF
  clear hF
  go_enter Tryd.func4, Tryd.ntmps4
  go_wp2_with fail
  refine (sanity_calls _ hd hp).mono ?_
  rintro e w1 ⟨rfl, hB⟩
  go_wp2_with fail
  refine (fit_calls _ n).mono ?_
  rintro e w' ⟨rfl, rfl⟩
  rw [HF.out]
  go_wp2_with fail
  refine (room_calls _ _).mono ?_
  rintro e w' ⟨rfl, rfl⟩
  rw [show roomZ 3 = 63 from rfl]
  go_wp2_with fail
  try (refine (room2 _).mono ?_; rintro e w' ⟨rfl, rfl⟩; go_wp2_with fail)
  go_ret
  exact ⟨by simp; try omega, hB⟩
set_option maxHeartbeats 2000000 in
theorem fitLeast_4 (w : World) (n : Int) (h : 63 < n) (h' : n ≤ 127) (hd : Hd w) (hp : Pt w) : Calls Tryd.prog 4 #[.int .i64 n] w fun e w' => e = .returned (.bool true) ∧ Below w.heap.size w w' := by
  have hF : fitZ n = (4, 0) := by unfold fitZ; repeat (first | rw [if_pos (by omega)] | rw [if_neg (by omega)])
  have HF := Lib.hid hF
  clear hF
  go_enter Tryd.func4, Tryd.ntmps4
  go_wp2_with fail
  refine (sanity_calls _ hd hp).mono ?_
  rintro e w1 ⟨rfl, hB⟩
  go_wp2_with fail
  refine (fit_calls _ n).mono ?_
  rintro e w' ⟨rfl, rfl⟩
  rw [HF.out]
  go_wp2_with fail
  refine (room_calls _ _).mono ?_
  rintro e w' ⟨rfl, rfl⟩
  rw [show roomZ 4 = 127 from rfl]
  go_wp2_with fail
  try (refine (room3 _).mono ?_; rintro e w' ⟨rfl, rfl⟩; go_wp2_with fail)
  go_ret
  exact ⟨by simp; try omega, hB⟩
theorem fitLeast_calls (w : World) (n : Int) (hd : Hd w) (hp : Pt w) : Calls Tryd.prog 4 #[.int .i64 n] w fun e w' => e = .returned (.bool true) ∧ Below w.heap.size w w' := by
  by_cases h0 : n < 0
  · exact fitLeast_neg w n h0 hd hp
  by_cases h1 : 127 < n
  · exact fitLeast_big w n h1 hd hp
  by_cases h2 : n ≤ 7
  · exact fitLeast_0 w n (by omega) h2 hd hp
  by_cases h3 : n ≤ 15
  · exact fitLeast_1 w n (by omega) h3 hd hp
  by_cases h4 : n ≤ 31
  · exact fitLeast_2 w n (by omega) h4 hd hp
  by_cases h5 : n ≤ 63
  · exact fitLeast_3 w n (by omega) h5 hd hp
  · exact fitLeast_4 w n (by omega) (by omega) hd hp
end Go.Proofs.YtcoeoggoaiebeaaDoor
