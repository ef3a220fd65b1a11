/-
  pointer.Right, Line, Gen at three pointers.
-/
import Derived.Test.YtckamjbdogpacaaGreatDoorPtr
namespace Go.Proofs.YtckamjbdogpacaaGreatDoor
open Go.RowKit

set_option maxRecDepth 100000 in
set_option maxHeartbeats 2000000 in
theorem right8216 (w : World) (hp : Pt w) : Calls Tryz.prog 35 #[.int .i64 8216] w fun e w' => e = .returned (.bool true) ∧ Below w.heap.size w w' := by
  obtain ⟨d0, d1, d2, d3⟩ := hp
  have hl := World.block_lt_of_cell? w _ d0
  go_enter Tryz.func35, Tryz.ntmps35
  go_wp2_with fail
  refine (of_mk _ 8216).mono ?_
  rintro e w1 ⟨rfl, hw1⟩
  have hc : w1.cell? ⟨w.heap.size, 0, none⟩ = some (.int .i64 8216) := by rw [← hw1]; exact (Cl.new _ _ _).cell 0
  have hB : Below w.heap.size w w1 := by rw [← hw1]; (repeat (first | with_reducible exact Below.refl _ _ | with_reducible assumption | with_reducible refine below_drewN ?_ _ | with_reducible refine Below.drew ?_ | with_reducible refine Below.alloc ?_ (by first | omega | (simp; omega) | simp) _ | with_reducible refine Below.setCell ?_ (by first | omega | (simp; omega) | simp) _))
  have c0 := (hB.cell (p := ⟨0, 0, none⟩) hl).trans d0
  have c1 := (hB.cell (p := ⟨0, 1, none⟩) hl).trans d1
  have c2 := (hB.cell (p := ⟨0, 2, none⟩) hl).trans d2
  have c3 := (hB.cell (p := ⟨0, 3, none⟩) hl).trans d3
  clear hw1 d0 d1 d2 d3
  go_wp2_with fail
  refine (word_yes _ 8216 (by omega) (by omega)).mono ?_
  rintro e w' ⟨rfl, rfl⟩
  have s32 : (8216 : Int) / 4294967296 = 0 := by decide
  go_wp2_with fail
  refine (of_ptr8216_0 _ _ hc).mono ?_
  rintro e w2 ⟨rfl, hb2⟩
  have hlc := World.block_lt_of_cell? w1 _ hc
  have hl1 : 0 < w1.heap.size := by have := hB.size; omega
  have hc2 := (hb2.cell (p := ⟨w.heap.size, 0, none⟩) hlc).trans hc
  have e2 := (hb2.cell (p := ⟨0, 2, none⟩) hl1).trans c2
  have e3 := (hb2.cell (p := ⟨0, 3, none⟩) hl1).trans c3
  have hB2 := hB.trans (hb2.mono hB.size)
  clear hb2 hB hc c0 c1 c2 c3 hlc hl1
  go_wp2_with fail
  refine (of_ptr8216_12 _ _ hc2).mono ?_
  rintro e w3 ⟨rfl, hb3⟩
  have hB3 := hB2.trans (hb3.mono hB2.size)
  clear hb3 hB2 hc2 e2 e3
  go_wp2_with fail
  go_ret
  exact ⟨rfl, hB3⟩
set_option maxRecDepth 100000 in
set_option maxHeartbeats 2000000 in
theorem right4120 (w : World) (hp : Pt w) : Calls Tryz.prog 35 #[.int .i64 4120] w fun e w' => e = .returned (.bool true) ∧ Below w.heap.size w w' := by
  obtain ⟨d0, d1, d2, d3⟩ := hp
  have hl := World.block_lt_of_cell? w _ d0
  go_enter Tryz.func35, Tryz.ntmps35
  go_wp2_with fail
  refine (of_mk _ 4120).mono ?_
  rintro e w1 ⟨rfl, hw1⟩
  have hc : w1.cell? ⟨w.heap.size, 0, none⟩ = some (.int .i64 4120) := by rw [← hw1]; exact (Cl.new _ _ _).cell 0
  have hB : Below w.heap.size w w1 := by rw [← hw1]; (repeat (first | with_reducible exact Below.refl _ _ | with_reducible assumption | with_reducible refine below_drewN ?_ _ | with_reducible refine Below.drew ?_ | with_reducible refine Below.alloc ?_ (by first | omega | (simp; omega) | simp) _ | with_reducible refine Below.setCell ?_ (by first | omega | (simp; omega) | simp) _))
  have c0 := (hB.cell (p := ⟨0, 0, none⟩) hl).trans d0
  have c1 := (hB.cell (p := ⟨0, 1, none⟩) hl).trans d1
  have c2 := (hB.cell (p := ⟨0, 2, none⟩) hl).trans d2
  have c3 := (hB.cell (p := ⟨0, 3, none⟩) hl).trans d3
  clear hw1 d0 d1 d2 d3
  go_wp2_with fail
  refine (word_yes _ 4120 (by omega) (by omega)).mono ?_
  rintro e w' ⟨rfl, rfl⟩
  have s32 : (4120 : Int) / 4294967296 = 0 := by decide
  go_wp2_with fail
  refine (of_ptr4120_0 _ _ hc).mono ?_
  rintro e w2 ⟨rfl, hb2⟩
  have hlc := World.block_lt_of_cell? w1 _ hc
  have hl1 : 0 < w1.heap.size := by have := hB.size; omega
  have hc2 := (hb2.cell (p := ⟨w.heap.size, 0, none⟩) hlc).trans hc
  have e2 := (hb2.cell (p := ⟨0, 2, none⟩) hl1).trans c2
  have e3 := (hb2.cell (p := ⟨0, 3, none⟩) hl1).trans c3
  have hB2 := hB.trans (hb2.mono hB.size)
  clear hb2 hB hc c0 c1 c2 c3 hlc hl1
  go_wp2_with fail
  refine (of_ptr4120_12 _ _ hc2).mono ?_
  rintro e w3 ⟨rfl, hb3⟩
  have hB3 := hB2.trans (hb3.mono hB2.size)
  clear hb3 hB2 hc2 e2 e3
  go_wp2_with fail
  go_ret
  exact ⟨rfl, hB3⟩
set_option maxRecDepth 100000 in
set_option maxHeartbeats 2000000 in
theorem right8217 (w : World) (hp : Pt w) : Calls Tryz.prog 35 #[.int .i64 8217] w fun e w' => e = .returned (.bool true) ∧ Below w.heap.size w w' := by
  obtain ⟨d0, d1, d2, d3⟩ := hp
  have hl := World.block_lt_of_cell? w _ d0
  go_enter Tryz.func35, Tryz.ntmps35
  go_wp2_with fail
  refine (of_mk _ 8217).mono ?_
  rintro e w1 ⟨rfl, hw1⟩
  have hc : w1.cell? ⟨w.heap.size, 0, none⟩ = some (.int .i64 8217) := by rw [← hw1]; exact (Cl.new _ _ _).cell 0
  have hB : Below w.heap.size w w1 := by rw [← hw1]; (repeat (first | with_reducible exact Below.refl _ _ | with_reducible assumption | with_reducible refine below_drewN ?_ _ | with_reducible refine Below.drew ?_ | with_reducible refine Below.alloc ?_ (by first | omega | (simp; omega) | simp) _ | with_reducible refine Below.setCell ?_ (by first | omega | (simp; omega) | simp) _))
  have c0 := (hB.cell (p := ⟨0, 0, none⟩) hl).trans d0
  have c1 := (hB.cell (p := ⟨0, 1, none⟩) hl).trans d1
  have c2 := (hB.cell (p := ⟨0, 2, none⟩) hl).trans d2
  have c3 := (hB.cell (p := ⟨0, 3, none⟩) hl).trans d3
  clear hw1 d0 d1 d2 d3
  go_wp2_with fail
  refine (word_yes _ 8217 (by omega) (by omega)).mono ?_
  rintro e w' ⟨rfl, rfl⟩
  have s32 : (8217 : Int) / 4294967296 = 0 := by decide
  go_wp2_with fail
  refine (of_ptr8217_0 _ _ hc).mono ?_
  rintro e w2 ⟨rfl, hb2⟩
  have hlc := World.block_lt_of_cell? w1 _ hc
  have hl1 : 0 < w1.heap.size := by have := hB.size; omega
  have hc2 := (hb2.cell (p := ⟨w.heap.size, 0, none⟩) hlc).trans hc
  have e2 := (hb2.cell (p := ⟨0, 2, none⟩) hl1).trans c2
  have e3 := (hb2.cell (p := ⟨0, 3, none⟩) hl1).trans c3
  have hB2 := hB.trans (hb2.mono hB.size)
  clear hb2 hB hc c0 c1 c2 c3 hlc hl1
  go_wp2_with fail
  refine (of_ptr8217_12 _ _ hc2).mono ?_
  rintro e w3 ⟨rfl, hb3⟩
  have hB3 := hB2.trans (hb3.mono hB2.size)
  clear hb3 hB2 hc2 e2 e3
  go_wp2_with fail
  go_ret
  exact ⟨rfl, hB3⟩
set_option maxRecDepth 100000 in
set_option maxHeartbeats 2000000 in
theorem ptrLine8216 (w : World) (hp : Pt w) : Calls Tryz.prog 38 #[.int .i64 8216] w fun e w' => e = .returned (.int .i64 24) ∧ Below w.heap.size w w' := by
  go_enter Tryz.func38, Tryz.ntmps38
  go_wp2_with fail
  refine (right8216 _ hp).mono ?_
  rintro e w1 ⟨rfl, hb1⟩
  obtain ⟨d0, d1, d2, d3⟩ := hp.below hb1
  have hl := World.block_lt_of_cell? w1 _ d0
  clear hp
  go_wp2_with fail
  go_region_held3 (fun w' => w'.cell? ⟨0, 0, none⟩ = some (.int .i64 0) ∧ w'.cell? ⟨0, 1, none⟩ = some (.int .i64 12)) (go_keep)
    (first
      | (go_at_call 69; refine (of_mk _ 8216).mono ?_; rintro e w' ⟨rfl, rfl⟩)
      | (go_at_call 95; refine (of_ptr8216_0 _ _ (by go_simp)).mono ?_; rintro e wa ⟨rfl, ba0⟩; (have ba : Below w1.heap.size w1 wa := Below.trans (by (repeat (first | with_reducible exact Below.refl _ _ | with_reducible assumption | with_reducible refine below_drewN ?_ _ | with_reducible refine Below.drew ?_ | with_reducible refine Below.alloc ?_ (by first | omega | (simp; omega) | simp) _ | with_reducible refine Below.setCell ?_ (by first | omega | (simp; omega) | simp) _))) (ba0.mono (by simp))); (have e0 := (ba.cell (p := ⟨0, 0, none⟩) hl).trans d0); (have e1 := (ba.cell (p := ⟨0, 1, none⟩) hl).trans d1); (have e2 := (ba.cell (p := ⟨0, 2, none⟩) hl).trans d2); (have e3 := (ba.cell (p := ⟨0, 3, none⟩) hl).trans d3); (have lba := ba.size)))
  go_wp2_with fail
  go_ret
  exact ⟨rfl, hb1.trans (ba.mono hb1.size)⟩
set_option maxRecDepth 100000 in
set_option maxHeartbeats 2000000 in
theorem ptrLine4120 (w : World) (hp : Pt w) : Calls Tryz.prog 38 #[.int .i64 4120] w fun e w' => e = .returned (.int .i64 24) ∧ Below w.heap.size w w' := by
  go_enter Tryz.func38, Tryz.ntmps38
  go_wp2_with fail
  refine (right4120 _ hp).mono ?_
  rintro e w1 ⟨rfl, hb1⟩
  obtain ⟨d0, d1, d2, d3⟩ := hp.below hb1
  have hl := World.block_lt_of_cell? w1 _ d0
  clear hp
  go_wp2_with fail
  go_region_held3 (fun w' => w'.cell? ⟨0, 0, none⟩ = some (.int .i64 0) ∧ w'.cell? ⟨0, 1, none⟩ = some (.int .i64 12)) (go_keep)
    (first
      | (go_at_call 69; refine (of_mk _ 4120).mono ?_; rintro e w' ⟨rfl, rfl⟩)
      | (go_at_call 95; refine (of_ptr4120_0 _ _ (by go_simp)).mono ?_; rintro e wa ⟨rfl, ba0⟩; (have ba : Below w1.heap.size w1 wa := Below.trans (by (repeat (first | with_reducible exact Below.refl _ _ | with_reducible assumption | with_reducible refine below_drewN ?_ _ | with_reducible refine Below.drew ?_ | with_reducible refine Below.alloc ?_ (by first | omega | (simp; omega) | simp) _ | with_reducible refine Below.setCell ?_ (by first | omega | (simp; omega) | simp) _))) (ba0.mono (by simp))); (have e0 := (ba.cell (p := ⟨0, 0, none⟩) hl).trans d0); (have e1 := (ba.cell (p := ⟨0, 1, none⟩) hl).trans d1); (have e2 := (ba.cell (p := ⟨0, 2, none⟩) hl).trans d2); (have e3 := (ba.cell (p := ⟨0, 3, none⟩) hl).trans d3); (have lba := ba.size)))
  go_wp2_with fail
  go_ret
  exact ⟨rfl, hb1.trans (ba.mono hb1.size)⟩
set_option maxRecDepth 100000 in
set_option maxHeartbeats 2000000 in
theorem ptrLine8217 (w : World) (hp : Pt w) : Calls Tryz.prog 38 #[.int .i64 8217] w fun e w' => e = .returned (.int .i64 25) ∧ Below w.heap.size w w' := by
  go_enter Tryz.func38, Tryz.ntmps38
  go_wp2_with fail
  refine (right8217 _ hp).mono ?_
  rintro e w1 ⟨rfl, hb1⟩
  obtain ⟨d0, d1, d2, d3⟩ := hp.below hb1
  have hl := World.block_lt_of_cell? w1 _ d0
  clear hp
  go_wp2_with fail
  go_region_held3 (fun w' => w'.cell? ⟨0, 0, none⟩ = some (.int .i64 0) ∧ w'.cell? ⟨0, 1, none⟩ = some (.int .i64 12)) (go_keep)
    (first
      | (go_at_call 69; refine (of_mk _ 8217).mono ?_; rintro e w' ⟨rfl, rfl⟩)
      | (go_at_call 95; refine (of_ptr8217_0 _ _ (by go_simp)).mono ?_; rintro e wa ⟨rfl, ba0⟩; (have ba : Below w1.heap.size w1 wa := Below.trans (by (repeat (first | with_reducible exact Below.refl _ _ | with_reducible assumption | with_reducible refine below_drewN ?_ _ | with_reducible refine Below.drew ?_ | with_reducible refine Below.alloc ?_ (by first | omega | (simp; omega) | simp) _ | with_reducible refine Below.setCell ?_ (by first | omega | (simp; omega) | simp) _))) (ba0.mono (by simp))); (have e0 := (ba.cell (p := ⟨0, 0, none⟩) hl).trans d0); (have e1 := (ba.cell (p := ⟨0, 1, none⟩) hl).trans d1); (have e2 := (ba.cell (p := ⟨0, 2, none⟩) hl).trans d2); (have e3 := (ba.cell (p := ⟨0, 3, none⟩) hl).trans d3); (have lba := ba.size)))
  go_wp2_with fail
  go_ret
  exact ⟨rfl, hb1.trans (ba.mono hb1.size)⟩
set_option maxRecDepth 100000 in
set_option maxHeartbeats 2000000 in
theorem ptrGen8216 (w : World) (hp : Pt w) : Calls Tryz.prog 39 #[.int .i64 8216] w fun e w' => e = .returned (.int .i64 2) ∧ Below w.heap.size w w' := by
  go_enter Tryz.func39, Tryz.ntmps39
  go_wp2_with fail
  refine (right8216 _ hp).mono ?_
  rintro e w1 ⟨rfl, hb1⟩
  obtain ⟨d0, d1, d2, d3⟩ := hp.below hb1
  have hl := World.block_lt_of_cell? w1 _ d0
  clear hp
  go_wp2_with fail
  go_region_held3 (fun w' => w'.cell? ⟨0, 2, none⟩ = some (.int .i64 12) ∧ w'.cell? ⟨0, 3, none⟩ = some (.int .i64 20)) (go_keep)
    (first
      | (go_at_call 69; refine (of_mk _ 8216).mono ?_; rintro e w' ⟨rfl, rfl⟩)
      | (go_at_call 95; refine (of_ptr8216_12 _ _ (by go_simp)).mono ?_; rintro e wa ⟨rfl, ba0⟩; (have ba : Below w1.heap.size w1 wa := Below.trans (by (repeat (first | with_reducible exact Below.refl _ _ | with_reducible assumption | with_reducible refine below_drewN ?_ _ | with_reducible refine Below.drew ?_ | with_reducible refine Below.alloc ?_ (by first | omega | (simp; omega) | simp) _ | with_reducible refine Below.setCell ?_ (by first | omega | (simp; omega) | simp) _))) (ba0.mono (by simp))); (have e0 := (ba.cell (p := ⟨0, 0, none⟩) hl).trans d0); (have e1 := (ba.cell (p := ⟨0, 1, none⟩) hl).trans d1); (have e2 := (ba.cell (p := ⟨0, 2, none⟩) hl).trans d2); (have e3 := (ba.cell (p := ⟨0, 3, none⟩) hl).trans d3); (have lba := ba.size)))
  go_wp2_with fail
  go_ret
  exact ⟨rfl, hb1.trans (ba.mono hb1.size)⟩
set_option maxRecDepth 100000 in
set_option maxHeartbeats 2000000 in
theorem ptrGen4120 (w : World) (hp : Pt w) : Calls Tryz.prog 39 #[.int .i64 4120] w fun e w' => e = .returned (.int .i64 1) ∧ Below w.heap.size w w' := by
  go_enter Tryz.func39, Tryz.ntmps39
  go_wp2_with fail
  refine (right4120 _ hp).mono ?_
  rintro e w1 ⟨rfl, hb1⟩
  obtain ⟨d0, d1, d2, d3⟩ := hp.below hb1
  have hl := World.block_lt_of_cell? w1 _ d0
  clear hp
  go_wp2_with fail
  go_region_held3 (fun w' => w'.cell? ⟨0, 2, none⟩ = some (.int .i64 12) ∧ w'.cell? ⟨0, 3, none⟩ = some (.int .i64 20)) (go_keep)
    (first
      | (go_at_call 69; refine (of_mk _ 4120).mono ?_; rintro e w' ⟨rfl, rfl⟩)
      | (go_at_call 95; refine (of_ptr4120_12 _ _ (by go_simp)).mono ?_; rintro e wa ⟨rfl, ba0⟩; (have ba : Below w1.heap.size w1 wa := Below.trans (by (repeat (first | with_reducible exact Below.refl _ _ | with_reducible assumption | with_reducible refine below_drewN ?_ _ | with_reducible refine Below.drew ?_ | with_reducible refine Below.alloc ?_ (by first | omega | (simp; omega) | simp) _ | with_reducible refine Below.setCell ?_ (by first | omega | (simp; omega) | simp) _))) (ba0.mono (by simp))); (have e0 := (ba.cell (p := ⟨0, 0, none⟩) hl).trans d0); (have e1 := (ba.cell (p := ⟨0, 1, none⟩) hl).trans d1); (have e2 := (ba.cell (p := ⟨0, 2, none⟩) hl).trans d2); (have e3 := (ba.cell (p := ⟨0, 3, none⟩) hl).trans d3); (have lba := ba.size)))
  go_wp2_with fail
  go_ret
  exact ⟨rfl, hb1.trans (ba.mono hb1.size)⟩
set_option maxRecDepth 100000 in
set_option maxHeartbeats 2000000 in
theorem ptrGen8217 (w : World) (hp : Pt w) : Calls Tryz.prog 39 #[.int .i64 8217] w fun e w' => e = .returned (.int .i64 2) ∧ Below w.heap.size w w' := by
  go_enter Tryz.func39, Tryz.ntmps39
  go_wp2_with fail
  refine (right8217 _ hp).mono ?_
  rintro e w1 ⟨rfl, hb1⟩
  obtain ⟨d0, d1, d2, d3⟩ := hp.below hb1
  have hl := World.block_lt_of_cell? w1 _ d0
  clear hp
  go_wp2_with fail
  go_region_held3 (fun w' => w'.cell? ⟨0, 2, none⟩ = some (.int .i64 12) ∧ w'.cell? ⟨0, 3, none⟩ = some (.int .i64 20)) (go_keep)
    (first
      | (go_at_call 69; refine (of_mk _ 8217).mono ?_; rintro e w' ⟨rfl, rfl⟩)
      | (go_at_call 95; refine (of_ptr8217_12 _ _ (by go_simp)).mono ?_; rintro e wa ⟨rfl, ba0⟩; (have ba : Below w1.heap.size w1 wa := Below.trans (by (repeat (first | with_reducible exact Below.refl _ _ | with_reducible assumption | with_reducible refine below_drewN ?_ _ | with_reducible refine Below.drew ?_ | with_reducible refine Below.alloc ?_ (by first | omega | (simp; omega) | simp) _ | with_reducible refine Below.setCell ?_ (by first | omega | (simp; omega) | simp) _))) (ba0.mono (by simp))); (have e0 := (ba.cell (p := ⟨0, 0, none⟩) hl).trans d0); (have e1 := (ba.cell (p := ⟨0, 1, none⟩) hl).trans d1); (have e2 := (ba.cell (p := ⟨0, 2, none⟩) hl).trans d2); (have e3 := (ba.cell (p := ⟨0, 3, none⟩) hl).trans d3); (have lba := ba.size)))
  go_wp2_with fail
  go_ret
  exact ⟨rfl, hb1.trans (ba.mono hb1.size)⟩
end Go.Proofs.YtckamjbdogpacaaGreatDoor
