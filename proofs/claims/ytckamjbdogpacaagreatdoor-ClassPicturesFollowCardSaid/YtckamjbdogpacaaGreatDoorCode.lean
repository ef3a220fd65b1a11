/-
  The code of a line whose words are all zero: valid, sum, OnesCount, Encode, Check, Fix. (code.table is not read.)
-/
import Derived.Test.YtckamjbdogpacaaGreatDoorWords
import Derived.Laws.BitsLemmas
namespace Go.Proofs.YtckamjbdogpacaaGreatDoor
open Go.RowKit

theorem Cl.has8' {w : World} {g : Nat} {t : TypeId} {v0 v1 v2 v3 v4 v5 v6 v7 : Value} (h : Cl w g t #[v0, v1, v2, v3, v4, v5, v6, v7]) :
    w.cell? ⟨g, 0, none⟩ = some v0 ∧ w.cell? ⟨g, 1, none⟩ = some v1 ∧ w.cell? ⟨g, 2, none⟩ = some v2 ∧ w.cell? ⟨g, 3, none⟩ = some v3 ∧ w.cell? ⟨g, 4, none⟩ = some v4 ∧ w.cell? ⟨g, 5, none⟩ = some v5 ∧ w.cell? ⟨g, 6, none⟩ = some v6 ∧ w.cell? ⟨g, 7, none⟩ = some v7 :=
  ⟨h.cell 0, h.cell 1, h.cell 2, h.cell 3, h.cell 4, h.cell 5, h.cell 6, h.cell 7⟩
theorem Cl.free8' {w : World} {g : Nat} {t : TypeId} {cs : Array Value} (h : Cl w g t cs) :
    w.frozen? ⟨g, 0, none⟩ = false ∧ w.frozen? ⟨g, 1, none⟩ = false ∧ w.frozen? ⟨g, 2, none⟩ = false ∧ w.frozen? ⟨g, 3, none⟩ = false ∧ w.frozen? ⟨g, 4, none⟩ = false ∧ w.frozen? ⟨g, 5, none⟩ = false ∧ w.frozen? ⟨g, 6, none⟩ = false ∧ w.frozen? ⟨g, 7, none⟩ = false :=
  ⟨h.free 0, h.free 1, h.free 2, h.free 3, h.free 4, h.free 5, h.free 6, h.free 7⟩
theorem run_z8_0 (w : World) : (Instr.index 67 (.agg #[.int .i64 0, .int .i64 0, .int .i64 0, .int .i64 0, .int .i64 0, .int .i64 0, .int .i64 0, .int .i64 0]) (.int .i64 0)).run Tryz.prog w = .ok (.int .i64 0) w := by kernel_rfl
theorem run_z8_1 (w : World) : (Instr.index 67 (.agg #[.int .i64 0, .int .i64 0, .int .i64 0, .int .i64 0, .int .i64 0, .int .i64 0, .int .i64 0, .int .i64 0]) (.int .i64 1)).run Tryz.prog w = .ok (.int .i64 0) w := by kernel_rfl
theorem run_z8_2 (w : World) : (Instr.index 67 (.agg #[.int .i64 0, .int .i64 0, .int .i64 0, .int .i64 0, .int .i64 0, .int .i64 0, .int .i64 0, .int .i64 0]) (.int .i64 2)).run Tryz.prog w = .ok (.int .i64 0) w := by kernel_rfl
theorem run_z8_3 (w : World) : (Instr.index 67 (.agg #[.int .i64 0, .int .i64 0, .int .i64 0, .int .i64 0, .int .i64 0, .int .i64 0, .int .i64 0, .int .i64 0]) (.int .i64 3)).run Tryz.prog w = .ok (.int .i64 0) w := by kernel_rfl
theorem run_z8_4 (w : World) : (Instr.index 67 (.agg #[.int .i64 0, .int .i64 0, .int .i64 0, .int .i64 0, .int .i64 0, .int .i64 0, .int .i64 0, .int .i64 0]) (.int .i64 4)).run Tryz.prog w = .ok (.int .i64 0) w := by kernel_rfl
theorem run_z8_5 (w : World) : (Instr.index 67 (.agg #[.int .i64 0, .int .i64 0, .int .i64 0, .int .i64 0, .int .i64 0, .int .i64 0, .int .i64 0, .int .i64 0]) (.int .i64 5)).run Tryz.prog w = .ok (.int .i64 0) w := by kernel_rfl
theorem run_z8_6 (w : World) : (Instr.index 67 (.agg #[.int .i64 0, .int .i64 0, .int .i64 0, .int .i64 0, .int .i64 0, .int .i64 0, .int .i64 0, .int .i64 0]) (.int .i64 6)).run Tryz.prog w = .ok (.int .i64 0) w := by kernel_rfl
theorem run_z8_7 (w : World) : (Instr.index 67 (.agg #[.int .i64 0, .int .i64 0, .int .i64 0, .int .i64 0, .int .i64 0, .int .i64 0, .int .i64 0, .int .i64 0]) (.int .i64 7)).run Tryz.prog w = .ok (.int .i64 0) w := by kernel_rfl
theorem run_index_z8 (w : World) (k : Nat) (hk : k < 8) : (Instr.index 67 (.agg #[.int .i64 0, .int .i64 0, .int .i64 0, .int .i64 0, .int .i64 0, .int .i64 0, .int .i64 0, .int .i64 0]) (.int .i64 (k : Int))).run Tryz.prog w = .ok (.int .i64 0) w := by
  match k, hk with
  | 0, _ => exact run_z8_0 w
  | 1, _ => exact run_z8_1 w
  | 2, _ => exact run_z8_2 w
  | 3, _ => exact run_z8_3 w
  | 4, _ => exact run_z8_4 w
  | 5, _ => exact run_z8_5 w
  | 6, _ => exact run_z8_6 w
  | 7, _ => exact run_z8_7 w

set_option maxHeartbeats 1000000 in
theorem valid_zero (w : World) : Calls Tryz.prog 75 #[.agg #[.int .i64 0, .int .i64 0, .int .i64 0, .int .i64 0, .int .i64 0, .int .i64 0, .int .i64 0, .int .i64 0], .int .i64 0] w fun e w' => e = .returned (.bool true) ∧ Below w.heap.size w w' := by
  go_enter Tryz.func75, Tryz.ntmps75
  go_wp2
  go_loop [6, 8] (fun _ i => ∃ k : Nat, k ≤ 8 ∧ i = .int .i64 k) (fun _ i => 8 - (intOf i).toNat)
  case atStart => exact ⟨0, by omega, rfl⟩
  case round =>
    obtain ⟨k, hk, rfl⟩ := hrel
    by_cases hlt : k < 8
    · have hix := fun w => run_index_z8 w k hlt
      go_wp2
      go_round
      case rel => exact ⟨k + 1, by omega, by go_num⟩
      case measure => simp [intOf]; omega
    · obtain rfl : k = 8 := by omega
      go_wp2
      go_ret
      exact ⟨rfl, by (repeat (first | with_reducible exact Below.refl _ _ | with_reducible assumption | with_reducible refine below_drewN ?_ _ | with_reducible refine Below.drew ?_ | with_reducible refine Below.alloc ?_ (by first | omega | (simp; omega) | simp) _ | with_reducible refine Below.setCell ?_ (by first | omega | (simp; omega) | simp) _))⟩

set_option maxHeartbeats 1000000 in
theorem sum_zero (w : World) : Calls Tryz.prog 76 #[.agg #[.int .i64 0, .int .i64 0, .int .i64 0, .int .i64 0, .int .i64 0, .int .i64 0, .int .i64 0, .int .i64 0]] w fun e w' => e = .returned (.tuple #[.int .i64 0, .int .i64 0]) ∧ Below w.heap.size w w' := by
  go_enter Tryz.func76, Tryz.ntmps76
  go_wp2
  go_loop [2, 3, 4, 5, 7] (fun s n _ _ i => s = .int .i64 0 ∧ n = .int .i64 0 ∧ ∃ k : Nat, k ≤ 8 ∧ i = .int .i64 k) (fun _ _ _ _ i => 8 - (intOf i).toNat)
  case atStart => exact ⟨rfl, rfl, 0, by omega, rfl⟩
  case round =>
    obtain ⟨rfl, rfl, k, hk, rfl⟩ := hrel
    by_cases hlt : k < 8
    · have hix := fun w => run_index_z8 w k hlt
      go_wp2
      go_loop [2, 3, 5] (fun s n x => s = .int .i64 0 ∧ n = .int .i64 0 ∧ x = .int .i64 0) (fun _ _ _ => 0)
      case atStart => exact ⟨rfl, rfl, rfl⟩
      case round =>
        obtain ⟨rfl, rfl, rfl⟩ := hrel
        go_wp2
        go_round
        case rel => exact ⟨rfl, rfl, k + 1, by omega, by go_num⟩
        case measure => simp [intOf]; omega
    · obtain rfl : k = 8 := by omega
      go_wp2
      go_ret2
      exact ⟨rfl, by (repeat (first | with_reducible exact Below.refl _ _ | with_reducible assumption | with_reducible refine below_drewN ?_ _ | with_reducible refine Below.drew ?_ | with_reducible refine Below.alloc ?_ (by first | omega | (simp; omega) | simp) _ | with_reducible refine Below.setCell ?_ (by first | omega | (simp; omega) | simp) _))⟩

theorem bits_and0 (c : Int) : bits .and .u64 0 c = 0 := by
  have h : BitVec.ofInt 64 0 &&& BitVec.ofInt 64 c = 0#64 := by simp
  show IntKind.u64.wrap ((BitVec.ofInt 64 0 &&& BitVec.ofInt 64 c).toNat : Nat) = 0
  rw [h]
  decide
theorem bits_and0i (c : Int) : bits .and .i64 0 c = 0 := by
  have h : BitVec.ofInt 64 0 &&& BitVec.ofInt 64 c = 0#64 := by simp
  show IntKind.i64.wrap ((BitVec.ofInt 64 0 &&& BitVec.ofInt 64 c).toNat : Nat) = 0
  rw [h]
  decide
theorem bits_xor0i : bits .xor .i64 0 0 = 0 := by decide

set_option maxHeartbeats 1000000 in
theorem ones64_zero (w : World) : Calls Tryz.prog 102 #[.int .u64 0] w fun e w' => e = .returned (.int .i64 0) ∧ w = w' := by
  have b1 := bits_and0
  have b2 := bits_and0i
  go_enter Tryz.func102, Tryz.ntmps102
  go_wp2
  go_ret
  exact ⟨rfl, rfl⟩

set_option maxHeartbeats 1000000 in
theorem ones_zero (w : World) : Calls Tryz.prog 77 #[.int .u64 0] w fun e w' => e = .returned (.int .i64 0) ∧ w = w' := by
  go_enter Tryz.func77, Tryz.ntmps77
  go_wp2_with fail
  refine (ones64_zero _).mono ?_
  rintro e w1 ⟨rfl, rfl⟩
  go_wp2_with fail
  go_ret
  exact ⟨rfl, rfl⟩

set_option maxHeartbeats 1000000 in
theorem encode_zero (w : World) : Calls Tryz.prog 40 #[.agg #[.int .i64 0, .int .i64 0, .int .i64 0, .int .i64 0, .int .i64 0, .int .i64 0, .int .i64 0, .int .i64 0]] w fun e w' => e = .returned (.int .i64 0) ∧ Below w.heap.size w w' := by
  go_enter Tryz.func40, Tryz.ntmps40
  go_wp2_with fail
  refine (valid_zero _).mono ?_
  rintro e w1 ⟨rfl, hb1⟩
  have hX := (Cl.new w 67 #[.int .i64 0, .int .i64 0, .int .i64 0, .int .i64 0, .int .i64 0, .int .i64 0, .int .i64 0, .int .i64 0]).below hb1 (by simp)
  have hB : Below w.heap.size w w1 := Below.trans (by (repeat (first | with_reducible exact Below.refl _ _ | with_reducible assumption | with_reducible refine below_drewN ?_ _ | with_reducible refine Below.drew ?_ | with_reducible refine Below.alloc ?_ (by first | omega | (simp; omega) | simp) _ | with_reducible refine Below.setCell ?_ (by first | omega | (simp; omega) | simp) _))) (hb1.mono (by simp))
  clear hb1
  obtain ⟨x0, x1, x2, x3, x4, x5, x6, x7⟩ := hX.has8'
  go_wp2_with fail
  refine (sum_zero _).mono ?_
  rintro e w2 ⟨rfl, hb2⟩
  have hB2 := hB.trans (hb2.mono hB.size)
  clear hb2 x0 x1 x2 x3 x4 x5 x6 x7 hX
  go_wp2_with fail
  refine (ones_zero _).mono ?_
  rintro e w3 ⟨rfl, rfl⟩
  go_wp2_with fail
  go_ret
  exact ⟨rfl, hB2⟩

set_option maxHeartbeats 2000000 in
theorem check_zero (w : World) : Calls Tryz.prog 81 #[.agg #[.int .i64 0, .int .i64 0, .int .i64 0, .int .i64 0, .int .i64 0, .int .i64 0, .int .i64 0, .int .i64 0], .int .i64 0] w fun e w' => e = .returned (.tuple #[.int .i64 0, .int .i64 0, .int .i64 0]) ∧ Below w.heap.size w w' := by
  have b0 := bits_and0i
  have b1 := bits_xor0i
  go_enter Tryz.func81, Tryz.ntmps81
  go_wp2_with fail
  refine (valid_zero _).mono ?_
  rintro e w1 ⟨rfl, hb1⟩
  have hX := ((((Cl.new w 67 #[.int .i64 0, .int .i64 0, .int .i64 0, .int .i64 0, .int .i64 0, .int .i64 0, .int .i64 0, .int .i64 0]).alloc _).alloc _).alloc _).below hb1 (by (first | omega | (simp; omega) | simp))
  have hZ0 := (((Cl.new_ (w.alloc (.cells #[.int .i64 0, .int .i64 0, .int .i64 0, .int .i64 0, .int .i64 0, .int .i64 0, .int .i64 0, .int .i64 0] 67)) 3 #[.int .i64 0] (w.heap.size + 1) (by simp)).alloc (.cells #[.int .i64 0] 3)).alloc (.cells #[.int .i64 0] 3)).below hb1 (by (first | omega | (simp; omega) | simp))
  have hZ1 := ((Cl.new_ ((w.alloc (.cells #[.int .i64 0, .int .i64 0, .int .i64 0, .int .i64 0, .int .i64 0, .int .i64 0, .int .i64 0, .int .i64 0] 67)).alloc (.cells #[.int .i64 0] 3)) 3 #[.int .i64 0] (w.heap.size + 2) (by simp)).alloc (.cells #[.int .i64 0] 3)).below hb1 (by simp)
  have hZ2 := (Cl.new_ (((w.alloc (.cells #[.int .i64 0, .int .i64 0, .int .i64 0, .int .i64 0, .int .i64 0, .int .i64 0, .int .i64 0, .int .i64 0] 67)).alloc (.cells #[.int .i64 0] 3)).alloc (.cells #[.int .i64 0] 3)) 3 #[.int .i64 0] (w.heap.size + 3) (by simp)).below hb1 (by simp)
  have hB : Below w.heap.size w w1 := Below.trans (by (repeat (first | with_reducible exact Below.refl _ _ | with_reducible assumption | with_reducible refine below_drewN ?_ _ | with_reducible refine Below.drew ?_ | with_reducible refine Below.alloc ?_ (by first | omega | (simp; omega) | simp) _ | with_reducible refine Below.setCell ?_ (by first | omega | (simp; omega) | simp) _))) (hb1.mono (by (first | omega | (simp; omega) | simp)))
  clear hb1
  obtain ⟨x0, x1, x2, x3, x4, x5, x6, x7⟩ := hX.has8'
  go_wp2_with fail
  refine (sum_zero _).mono ?_
  rintro e w2 ⟨rfl, hb2⟩
  have hB2 := hB.trans (hb2.mono hB.size)
  replace hZ0 := hZ0.below hb2 hZ0.lt
  replace hZ1 := hZ1.below hb2 hZ1.lt
  replace hZ2 := hZ2.below hb2 hZ2.lt
  clear hb2 x0 x1 x2 x3 x4 x5 x6 x7 hX hB
  have l0 := hZ0.lt
  have l1 := hZ1.lt
  have l2 := hZ2.lt
  go_wp2_with fail
  refine (ones_zero _).mono ?_
  rintro e w3 ⟨rfl, rfl⟩
  have z0 := hZ0.cell 0
  have z1 := hZ1.cell 0
  have z2 := hZ2.cell 0
  have f0 := hZ0.free 0
  have f1 := hZ1.free 0
  have f2 := hZ2.free 0
  simp only [List.getElem?_toArray, List.getElem?_cons_zero] at z0 z1 z2
  go_wp2_with fail
  refine bodyPost_ret (v := .tuple #[.int .i64 0, .int .i64 0, .int .i64 0]) ?_ rfl ⟨rfl, ?_⟩
  · simp [results, Tryz.results81, go_sem, *]
  · (repeat (first | with_reducible exact Below.refl _ _ | with_reducible assumption | with_reducible refine below_drewN ?_ _ | with_reducible refine Below.drew ?_ | with_reducible refine Below.alloc ?_ (by first | omega | (simp; omega) | simp) _ | with_reducible refine Below.setCell ?_ (by first | omega | (simp; omega) | simp) _))

set_option maxHeartbeats 2000000 in
theorem fix_zero (w : World) : Calls Tryz.prog 103 #[.agg #[.int .i64 0, .int .i64 0, .int .i64 0, .int .i64 0, .int .i64 0, .int .i64 0, .int .i64 0, .int .i64 0], .int .i64 0] w fun e w' => e = .returned (.tuple #[.agg #[.int .i64 0, .int .i64 0, .int .i64 0, .int .i64 0, .int .i64 0, .int .i64 0, .int .i64 0, .int .i64 0], .int .i64 0, .int .i64 0]) ∧ Below w.heap.size w w' := by
  go_enter Tryz.func103, Tryz.ntmps103
  go_wp2_with fail
  refine (valid_zero _).mono ?_
  rintro e w1 ⟨rfl, hb1⟩
  have hX := ((Cl.new w 67 #[.int .i64 0, .int .i64 0, .int .i64 0, .int .i64 0, .int .i64 0, .int .i64 0, .int .i64 0, .int .i64 0]).alloc _).below hb1 (by (first | omega | (simp; omega) | simp))
  have hZ := (Cl.new_ (w.alloc (.cells #[.int .i64 0, .int .i64 0, .int .i64 0, .int .i64 0, .int .i64 0, .int .i64 0, .int .i64 0, .int .i64 0] 67)) 67 #[.int .i64 0, .int .i64 0, .int .i64 0, .int .i64 0, .int .i64 0, .int .i64 0, .int .i64 0, .int .i64 0] (w.heap.size + 1) (by simp)).below hb1 (by simp)
  have hB : Below w.heap.size w w1 := Below.trans (by (repeat (first | with_reducible exact Below.refl _ _ | with_reducible assumption | with_reducible refine below_drewN ?_ _ | with_reducible refine Below.drew ?_ | with_reducible refine Below.alloc ?_ (by first | omega | (simp; omega) | simp) _ | with_reducible refine Below.setCell ?_ (by first | omega | (simp; omega) | simp) _))) (hb1.mono (by (first | omega | (simp; omega) | simp)))
  clear hb1
  obtain ⟨x0, x1, x2, x3, x4, x5, x6, x7⟩ := hX.has8'
  go_wp2_with fail
  refine (check_zero _).mono ?_
  rintro e w2 ⟨rfl, hb2⟩
  have hB2 := hB.trans (hb2.mono hB.size)
  replace hZ := hZ.below hb2 hZ.lt
  replace hX := hX.below hb2 hX.lt
  clear hb2 x0 x1 x2 x3 x4 x5 x6 x7 hB
  obtain ⟨x0, x1, x2, x3, x4, x5, x6, x7⟩ := hX.has8'
  obtain ⟨y0, y1, y2, y3, y4, y5, y6, y7⟩ := hZ.free8'
  obtain ⟨z0, z1, z2, z3, z4, z5, z6, z7⟩ := hZ.has8'
  have l0 := hX.lt
  have l1 := hZ.lt
  go_wp2_with fail
  refine bodyPost_ret (v := .tuple #[.agg #[.int .i64 0, .int .i64 0, .int .i64 0, .int .i64 0, .int .i64 0, .int .i64 0, .int .i64 0, .int .i64 0], .int .i64 0, .int .i64 0]) ?_ rfl ⟨rfl, ?_⟩
  · simp [results, Tryz.results103, go_sem, *]
  · (repeat (first | with_reducible exact Below.refl _ _ | with_reducible assumption | with_reducible refine below_drewN ?_ _ | with_reducible refine Below.drew ?_ | with_reducible refine Below.alloc ?_ (by first | omega | (simp; omega) | simp) _ | with_reducible refine Below.setCell ?_ (by first | omega | (simp; omega) | simp) _))
end Go.Proofs.YtckamjbdogpacaaGreatDoor
