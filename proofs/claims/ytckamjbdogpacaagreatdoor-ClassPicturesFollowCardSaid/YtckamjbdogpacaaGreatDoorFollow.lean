/-
  class.Follow at the three pointers of the examples.
-/
import Derived.Test.YtckamjbdogpacaaGreatDoorView
import Derived.Test.YtckamjbdogpacaaGreatDoorPtrB
namespace Go.Proofs.YtckamjbdogpacaaGreatDoor
open Go.RowKit

set_option maxRecDepth 100000 in
set_option maxHeartbeats 8000000 in
theorem follow8216 (w : World) (gv : Nat) (hA : LdsV w gv 112 4) (hH : LdsV w gv 192 306) (hd : Hd w) (hp : Pt w) :
    Calls Tryz.prog 7 #[.pointer (some ⟨gv, 0, none⟩), .agg #[.int .i64 64, .int .i64 2, .int .i64 8, .int .i64 10, .int .i64 4, .int .i64 14, .int .i64 16, .int .i64 3], .int .i64 8216] w
      fun e w' => e = .returned (.tuple #[.agg #[.int .i64 24, .int .i64 3, .int .i64 2, .int .i64 2], .int .i64 0]) ∧ Below w.heap.size w w' := by
  go_enter Tryz.func7, Tryz.ntmps7
  go_upto_region 1 with (fail)
  generalize hwn : (w.alloc (.cells #[.int .i64 64, .int .i64 2, .int .i64 8, .int .i64 10, .int .i64 4, .int .i64 14, .int .i64 16, .int .i64 3] 29)).alloc (.cells #[.int .i64 0, .int .i64 0, .int .i64 0, .int .i64 0] 43) = wn
  have hLn : Cl wn w.heap.size 29 #[.int .i64 64, .int .i64 2, .int .i64 8, .int .i64 10, .int .i64 4, .int .i64 14, .int .i64 16, .int .i64 3] := by rw [← hwn]; exact (Cl.new _ _ _).alloc _
  have hZn : Cl wn (w.heap.size + 1) 43 #[.int .i64 0, .int .i64 0, .int .i64 0, .int .i64 0] := by rw [← hwn]; exact Cl.new_ _ _ _ _ (by simp)
  have hAn : Below w.heap.size w wn := by rw [← hwn]; (repeat (first | with_reducible exact Below.refl _ _ | with_reducible assumption | with_reducible refine below_drewN ?_ _ | with_reducible refine Below.drew ?_ | with_reducible refine Below.alloc ?_ (by first | omega | (simp; omega) | simp) _ | with_reducible refine Below.setCell ?_ (by first | omega | (simp; omega) | simp) _))
  clear hwn
  replace hA := hA.below hAn
  replace hH := hH.below hAn
  replace hd := hd.below hAn
  replace hp := hp.below hAn
  go_wp2_with fail
  refine (right8216 _ hp).mono ?_
  rintro e w1 ⟨rfl, hb1⟩
  replace hLn := hLn.below hb1 hLn.lt
  replace hZn := hZn.below hb1 hZn.lt
  replace hA := hA.below hb1
  replace hH := hH.below hb1
  replace hd := hd.below hb1
  replace hp := hp.below hb1
  replace hAn := hAn.trans (hb1.mono hAn.size)
  clear hb1
  have hln' := hLn.lt
  obtain ⟨y0, y1, y2, y3, y4, y5, y6, y7⟩ := hLn.cells8
  go_upto_region 3 with (fail)
  have hpr : ∀ W, Hd W → Calls Tryz.prog 72 #[.int .i64 306, .int .i64 3] W fun e w' => e = .returned (.bool true) ∧ Below W.heap.size W w' := fun W h => proper_306 W h
  have HPR := Lib.hid hpr
  have yn : ¬ w.heap.size = w1.heap.size := by omega
  have yn' : ¬ w1.heap.size = w.heap.size := by omega
  clear hpr
  go_cut [8, 9] (fun s t wx => ∃ g, s = .pointer (some ⟨g, 0, none⟩) ∧ t = .int .i64 0 ∧ w1.heap.size ≤ g ∧ Cl wx g 43 #[.int .i64 24, .int .i64 3, .int .i64 2, .int .i64 2] ∧ Below w1.heap.size w1 wx)
  case first =>
    go_region_held3 (fun w' => w'.cell? ⟨w.heap.size, 0, none⟩ = some (.int .i64 64) ∧ w'.cell? ⟨w.heap.size, 1, none⟩ = some (.int .i64 2) ∧ w'.cell? ⟨w.heap.size, 2, none⟩ = some (.int .i64 8) ∧ w'.cell? ⟨w.heap.size, 3, none⟩ = some (.int .i64 10) ∧ w'.cell? ⟨w.heap.size, 4, none⟩ = some (.int .i64 4) ∧ w'.cell? ⟨w.heap.size, 5, none⟩ = some (.int .i64 14) ∧ w'.cell? ⟨w.heap.size, 6, none⟩ = some (.int .i64 16) ∧ w'.cell? ⟨w.heap.size, 7, none⟩ = some (.int .i64 3)) (go_keep)
      (first
        | (go_at_call 38; refine (ptrLine8216 _ (hp.below (by (repeat (first | with_reducible exact Below.refl _ _ | with_reducible assumption | with_reducible refine below_drewN ?_ _ | with_reducible refine Below.drew ?_ | with_reducible refine Below.alloc ?_ (by first | omega | (simp; omega) | simp) _ | with_reducible refine Below.setCell ?_ (by first | omega | (simp; omega) | simp) _))))).mono ?_; rintro e wa ⟨rfl, ba0⟩; (have ba : Below w1.heap.size w1 wa := Below.trans (by (repeat (first | with_reducible exact Below.refl _ _ | with_reducible assumption | with_reducible refine below_drewN ?_ _ | with_reducible refine Below.drew ?_ | with_reducible refine Below.alloc ?_ (by first | omega | (simp; omega) | simp) _ | with_reducible refine Below.setCell ?_ (by first | omega | (simp; omega) | simp) _))) (ba0.mono (by simp))); (have qa := Cl.cells8 (hLn.below ba hLn.lt)); unfold Cells8 at qa; (have la := (hLn.below ba hLn.lt).lt); (have sa := ba.size); (have z1 : ¬ w.heap.size = wa.heap.size := (by omega)); (have z2 : ¬ wa.heap.size = w.heap.size := (by omega)); (first | (have g1 := (Cl.new w1 43 #[.int .i64 0, .int .i64 0, .int .i64 0, .int .i64 0]).drew.below ba0 (by simp); obtain ⟨⟨k0, k1, k2, k3⟩, ⟨k4, k5, k6, k7⟩⟩ := g1.has4; (have gl := g1.lt)) | skip))
        | (go_at_call 37; refine (block24V _ gv (hA.below (Below.trans ba (Below.mono (by (repeat (first | with_reducible exact Below.refl _ _ | with_reducible assumption | with_reducible refine below_drewN ?_ _ | with_reducible refine Below.drew ?_ | with_reducible refine Below.alloc ?_ (by first | omega | (simp; omega) | simp) _ | with_reducible refine Below.setCell ?_ (by first | omega | (simp; omega) | simp) _))) ba.size))) (hd.below (Below.trans ba (Below.mono (by (repeat (first | with_reducible exact Below.refl _ _ | with_reducible assumption | with_reducible refine below_drewN ?_ _ | with_reducible refine Below.drew ?_ | with_reducible refine Below.alloc ?_ (by first | omega | (simp; omega) | simp) _ | with_reducible refine Below.setCell ?_ (by first | omega | (simp; omega) | simp) _))) ba.size))) 306 2 2 (hH.below (Below.trans ba (Below.mono (by (repeat (first | with_reducible exact Below.refl _ _ | with_reducible assumption | with_reducible refine below_drewN ?_ _ | with_reducible refine Below.drew ?_ | with_reducible refine Below.alloc ?_ (by first | omega | (simp; omega) | simp) _ | with_reducible refine Below.setCell ?_ (by first | omega | (simp; omega) | simp) _))) ba.size))) (by omega) (by omega) (by omega) (by omega) (by omega) HPR.out).mono ?_; rintro e wb ⟨rfl, bb0⟩; (have bb : Below w1.heap.size w1 wb := Below.trans ba (Below.trans (Below.mono (by (repeat (first | with_reducible exact Below.refl _ _ | with_reducible assumption | with_reducible refine below_drewN ?_ _ | with_reducible refine Below.drew ?_ | with_reducible refine Below.alloc ?_ (by first | omega | (simp; omega) | simp) _ | with_reducible refine Below.setCell ?_ (by first | omega | (simp; omega) | simp) _))) ba.size) (bb0.mono (by first | omega | (simp; omega))))); (have qb := Cl.cells8 (hLn.below bb hLn.lt)); unfold Cells8 at qb; (have lb := (hLn.below bb hLn.lt).lt); (have sb := bb.size); (first | (have g2 := g1.below bb0 (by first | exact g1.lt | (simp; omega)); obtain ⟨⟨k0, k1, k2, k3⟩, ⟨k4, k5, k6, k7⟩⟩ := g2.has4; (have gl2 := g2.lt)) | (have g2 := (Cl.new wa 43 #[.int .i64 0, .int .i64 0, .int .i64 0, .int .i64 0]).below bb0 (by simp); obtain ⟨⟨k0, k1, k2, k3⟩, ⟨k4, k5, k6, k7⟩⟩ := g2.has4; (have gl2 := g2.lt)) | skip)))
    all_goals (go_wp2_with fail; go_meet)
    all_goals first
      | (refine ⟨wb.heap.size, ?_, ?_⟩; (· with_reducible rfl); refine ⟨rfl, by omega, Cl.new _ _ _, ?_⟩; (repeat (first | with_reducible exact Below.refl _ _ | with_reducible assumption | with_reducible refine below_drewN ?_ _ | with_reducible refine Below.drew ?_ | with_reducible refine Below.alloc ?_ (by first | omega | (simp; omega) | simp) _ | with_reducible refine Below.setCell ?_ (by first | omega | (simp; omega) | simp) _)))
      | (refine ⟨wa.heap.size, ?_, ?_⟩; (· with_reducible rfl); refine ⟨rfl, by omega, g2.set4 _ _ _ _, ?_⟩; (repeat (first | with_reducible exact Below.refl _ _ | with_reducible assumption | with_reducible refine below_drewN ?_ _ | with_reducible refine Below.drew ?_ | with_reducible refine Below.alloc ?_ (by first | omega | (simp; omega) | simp) _ | with_reducible refine Below.setCell ?_ (by first | omega | (simp; omega) | simp) _)))
      | (refine ⟨w1.heap.size, ?_, ?_⟩; (· with_reducible rfl); refine ⟨rfl, by omega, g2.set4 _ _ _ _, ?_⟩; (repeat (first | with_reducible exact Below.refl _ _ | with_reducible assumption | with_reducible refine below_drewN ?_ _ | with_reducible refine Below.drew ?_ | with_reducible refine Below.alloc ?_ (by first | omega | (simp; omega) | simp) _ | with_reducible refine Below.setCell ?_ (by first | omega | (simp; omega) | simp) _)))
  case rest =>
    obtain ⟨g, rfl, rfl, hg, hG, hbx⟩ := hcut
    obtain ⟨w2, hw2⟩ : ∃ x : World, x = wc := ⟨_, rfl⟩
    subst hw2
    have hB := hAn.trans (hbx.mono hAn.size)
    have hZ2 := hZn.below hbx hZn.lt
    have hp2 := hp.below hbx
    have hzg : w.heap.size + 1 < w1.heap.size := hZn.lt
    have ngz : ¬ g = w.heap.size + 1 := by omega
    have ngz' : ¬ w.heap.size + 1 = g := by omega
    clear hLn hZn hA hH hd hp hAn hln' y0 y1 y2 y3 y4 y5 y6 y7 HPR yn yn' hbx
    have lg := hG.lt
    obtain ⟨⟨k0, k1, k2, k3⟩, ⟨k4, k5, k6, k7⟩⟩ := hG.has4
    go_upto_region 4 with (fail)
    go_cut [40] (fun t wx => t = .bool false ∧ Below w2.heap.size w2 wx)
    case first =>
      go_region_held3 (fun w' => w'.cell? ⟨g, 2, none⟩ = some (.int .i64 2) ∧ w'.cell? ⟨g, 3, none⟩ = some (.int .i64 2)) (go_keep)
        (first
          | (go_at_call 39; refine (ptrGen8216 _ (hp2.below (by (repeat (first | with_reducible exact Below.refl _ _ | with_reducible assumption | with_reducible refine below_drewN ?_ _ | with_reducible refine Below.drew ?_ | with_reducible refine Below.alloc ?_ (by first | omega | (simp; omega) | simp) _ | with_reducible refine Below.setCell ?_ (by first | omega | (simp; omega) | simp) _))))).mono ?_; rintro e wa ⟨rfl, ba0⟩; (have ba : Below w2.heap.size w2 wa := (by first | exact below_of_drew ba0 | exact ba0)); (have e2 := (ba.cell (p := ⟨g, 2, none⟩) lg).trans k2); (have e3 := (ba.cell (p := ⟨g, 3, none⟩) lg).trans k3); (have ls := ba.size)))
      go_wp2_with fail
      go_meet
      exact ⟨rfl, ba⟩
    case rest =>
      obtain ⟨rfl, hbx⟩ := hcut
      obtain ⟨w3, hw3⟩ : ∃ x : World, x = wc := ⟨_, rfl⟩
      subst hw3
      have hB3 := hB.trans (hbx.mono hB.size)
      have hZ3 := hZ2.below hbx hZ2.lt
      have hG3 := hG.below hbx hG.lt
      clear k0 k1 k2 k3 k4 k5 k6 k7 lg hG hZ2 hB hbx hp2
      obtain ⟨⟨k0, k1, k2, k3⟩, ⟨k4, k5, k6, k7⟩⟩ := hG3.has4
      obtain ⟨⟨z0, z1, z2, z3⟩, ⟨z4, z5, z6, z7⟩⟩ := hZ3.has4
      have lg := hG3.lt
      have lz := hZ3.lt
      go_wp2_with fail
      refine bodyPost_ret (v := .tuple #[.agg #[.int .i64 24, .int .i64 3, .int .i64 2, .int .i64 2], .int .i64 0]) ?_ rfl ⟨rfl, by (repeat (first | with_reducible exact Below.refl _ _ | with_reducible assumption | with_reducible refine below_drewN ?_ _ | with_reducible refine Below.drew ?_ | with_reducible refine Below.alloc ?_ (by first | omega | (simp; omega) | simp) _ | with_reducible refine Below.setCell ?_ (by first | omega | (simp; omega) | simp) _))⟩
      simp [results, Tryz.results7, go_sem, *]
set_option maxRecDepth 100000 in
set_option maxHeartbeats 8000000 in
theorem follow4120 (w : World) (gv : Nat) (hA : LdsV w gv 112 4) (hH : LdsV w gv 192 306) (hd : Hd w) (hp : Pt w) :
    Calls Tryz.prog 7 #[.pointer (some ⟨gv, 0, none⟩), .agg #[.int .i64 64, .int .i64 2, .int .i64 8, .int .i64 10, .int .i64 4, .int .i64 14, .int .i64 16, .int .i64 3], .int .i64 4120] w
      fun e w' => e = .returned (.tuple #[.agg #[.int .i64 0, .int .i64 0, .int .i64 0, .int .i64 0], .int .i64 70]) ∧ Below w.heap.size w w' := by
  go_enter Tryz.func7, Tryz.ntmps7
  go_upto_region 1 with (fail)
  generalize hwn : (w.alloc (.cells #[.int .i64 64, .int .i64 2, .int .i64 8, .int .i64 10, .int .i64 4, .int .i64 14, .int .i64 16, .int .i64 3] 29)).alloc (.cells #[.int .i64 0, .int .i64 0, .int .i64 0, .int .i64 0] 43) = wn
  have hLn : Cl wn w.heap.size 29 #[.int .i64 64, .int .i64 2, .int .i64 8, .int .i64 10, .int .i64 4, .int .i64 14, .int .i64 16, .int .i64 3] := by rw [← hwn]; exact (Cl.new _ _ _).alloc _
  have hZn : Cl wn (w.heap.size + 1) 43 #[.int .i64 0, .int .i64 0, .int .i64 0, .int .i64 0] := by rw [← hwn]; exact Cl.new_ _ _ _ _ (by simp)
  have hAn : Below w.heap.size w wn := by rw [← hwn]; (repeat (first | with_reducible exact Below.refl _ _ | with_reducible assumption | with_reducible refine below_drewN ?_ _ | with_reducible refine Below.drew ?_ | with_reducible refine Below.alloc ?_ (by first | omega | (simp; omega) | simp) _ | with_reducible refine Below.setCell ?_ (by first | omega | (simp; omega) | simp) _))
  clear hwn
  replace hA := hA.below hAn
  replace hH := hH.below hAn
  replace hd := hd.below hAn
  replace hp := hp.below hAn
  go_wp2_with fail
  refine (right4120 _ hp).mono ?_
  rintro e w1 ⟨rfl, hb1⟩
  replace hLn := hLn.below hb1 hLn.lt
  replace hZn := hZn.below hb1 hZn.lt
  replace hA := hA.below hb1
  replace hH := hH.below hb1
  replace hd := hd.below hb1
  replace hp := hp.below hb1
  replace hAn := hAn.trans (hb1.mono hAn.size)
  clear hb1
  have hln' := hLn.lt
  obtain ⟨y0, y1, y2, y3, y4, y5, y6, y7⟩ := hLn.cells8
  go_upto_region 3 with (fail)
  have hpr : ∀ W, Hd W → Calls Tryz.prog 72 #[.int .i64 306, .int .i64 3] W fun e w' => e = .returned (.bool true) ∧ Below W.heap.size W w' := fun W h => proper_306 W h
  have HPR := Lib.hid hpr
  have yn : ¬ w.heap.size = w1.heap.size := by omega
  have yn' : ¬ w1.heap.size = w.heap.size := by omega
  clear hpr
  go_cut [8, 9] (fun s t wx => ∃ g, s = .pointer (some ⟨g, 0, none⟩) ∧ t = .int .i64 0 ∧ w1.heap.size ≤ g ∧ Cl wx g 43 #[.int .i64 24, .int .i64 3, .int .i64 2, .int .i64 2] ∧ Below w1.heap.size w1 wx)
  case first =>
    go_region_held3 (fun w' => w'.cell? ⟨w.heap.size, 0, none⟩ = some (.int .i64 64) ∧ w'.cell? ⟨w.heap.size, 1, none⟩ = some (.int .i64 2) ∧ w'.cell? ⟨w.heap.size, 2, none⟩ = some (.int .i64 8) ∧ w'.cell? ⟨w.heap.size, 3, none⟩ = some (.int .i64 10) ∧ w'.cell? ⟨w.heap.size, 4, none⟩ = some (.int .i64 4) ∧ w'.cell? ⟨w.heap.size, 5, none⟩ = some (.int .i64 14) ∧ w'.cell? ⟨w.heap.size, 6, none⟩ = some (.int .i64 16) ∧ w'.cell? ⟨w.heap.size, 7, none⟩ = some (.int .i64 3)) (go_keep)
      (first
        | (go_at_call 38; refine (ptrLine4120 _ (hp.below (by (repeat (first | with_reducible exact Below.refl _ _ | with_reducible assumption | with_reducible refine below_drewN ?_ _ | with_reducible refine Below.drew ?_ | with_reducible refine Below.alloc ?_ (by first | omega | (simp; omega) | simp) _ | with_reducible refine Below.setCell ?_ (by first | omega | (simp; omega) | simp) _))))).mono ?_; rintro e wa ⟨rfl, ba0⟩; (have ba : Below w1.heap.size w1 wa := Below.trans (by (repeat (first | with_reducible exact Below.refl _ _ | with_reducible assumption | with_reducible refine below_drewN ?_ _ | with_reducible refine Below.drew ?_ | with_reducible refine Below.alloc ?_ (by first | omega | (simp; omega) | simp) _ | with_reducible refine Below.setCell ?_ (by first | omega | (simp; omega) | simp) _))) (ba0.mono (by simp))); (have qa := Cl.cells8 (hLn.below ba hLn.lt)); unfold Cells8 at qa; (have la := (hLn.below ba hLn.lt).lt); (have sa := ba.size); (have z1 : ¬ w.heap.size = wa.heap.size := (by omega)); (have z2 : ¬ wa.heap.size = w.heap.size := (by omega)); (first | (have g1 := (Cl.new w1 43 #[.int .i64 0, .int .i64 0, .int .i64 0, .int .i64 0]).drew.below ba0 (by simp); obtain ⟨⟨k0, k1, k2, k3⟩, ⟨k4, k5, k6, k7⟩⟩ := g1.has4; (have gl := g1.lt)) | skip))
        | (go_at_call 37; refine (block24V _ gv (hA.below (Below.trans ba (Below.mono (by (repeat (first | with_reducible exact Below.refl _ _ | with_reducible assumption | with_reducible refine below_drewN ?_ _ | with_reducible refine Below.drew ?_ | with_reducible refine Below.alloc ?_ (by first | omega | (simp; omega) | simp) _ | with_reducible refine Below.setCell ?_ (by first | omega | (simp; omega) | simp) _))) ba.size))) (hd.below (Below.trans ba (Below.mono (by (repeat (first | with_reducible exact Below.refl _ _ | with_reducible assumption | with_reducible refine below_drewN ?_ _ | with_reducible refine Below.drew ?_ | with_reducible refine Below.alloc ?_ (by first | omega | (simp; omega) | simp) _ | with_reducible refine Below.setCell ?_ (by first | omega | (simp; omega) | simp) _))) ba.size))) 306 2 2 (hH.below (Below.trans ba (Below.mono (by (repeat (first | with_reducible exact Below.refl _ _ | with_reducible assumption | with_reducible refine below_drewN ?_ _ | with_reducible refine Below.drew ?_ | with_reducible refine Below.alloc ?_ (by first | omega | (simp; omega) | simp) _ | with_reducible refine Below.setCell ?_ (by first | omega | (simp; omega) | simp) _))) ba.size))) (by omega) (by omega) (by omega) (by omega) (by omega) HPR.out).mono ?_; rintro e wb ⟨rfl, bb0⟩; (have bb : Below w1.heap.size w1 wb := Below.trans ba (Below.trans (Below.mono (by (repeat (first | with_reducible exact Below.refl _ _ | with_reducible assumption | with_reducible refine below_drewN ?_ _ | with_reducible refine Below.drew ?_ | with_reducible refine Below.alloc ?_ (by first | omega | (simp; omega) | simp) _ | with_reducible refine Below.setCell ?_ (by first | omega | (simp; omega) | simp) _))) ba.size) (bb0.mono (by first | omega | (simp; omega))))); (have qb := Cl.cells8 (hLn.below bb hLn.lt)); unfold Cells8 at qb; (have lb := (hLn.below bb hLn.lt).lt); (have sb := bb.size); (first | (have g2 := g1.below bb0 (by first | exact g1.lt | (simp; omega)); obtain ⟨⟨k0, k1, k2, k3⟩, ⟨k4, k5, k6, k7⟩⟩ := g2.has4; (have gl2 := g2.lt)) | (have g2 := (Cl.new wa 43 #[.int .i64 0, .int .i64 0, .int .i64 0, .int .i64 0]).below bb0 (by simp); obtain ⟨⟨k0, k1, k2, k3⟩, ⟨k4, k5, k6, k7⟩⟩ := g2.has4; (have gl2 := g2.lt)) | skip)))
    all_goals (go_wp2_with fail; go_meet)
    all_goals first
      | (refine ⟨wb.heap.size, ?_, ?_⟩; (· with_reducible rfl); refine ⟨rfl, by omega, Cl.new _ _ _, ?_⟩; (repeat (first | with_reducible exact Below.refl _ _ | with_reducible assumption | with_reducible refine below_drewN ?_ _ | with_reducible refine Below.drew ?_ | with_reducible refine Below.alloc ?_ (by first | omega | (simp; omega) | simp) _ | with_reducible refine Below.setCell ?_ (by first | omega | (simp; omega) | simp) _)))
      | (refine ⟨wa.heap.size, ?_, ?_⟩; (· with_reducible rfl); refine ⟨rfl, by omega, g2.set4 _ _ _ _, ?_⟩; (repeat (first | with_reducible exact Below.refl _ _ | with_reducible assumption | with_reducible refine below_drewN ?_ _ | with_reducible refine Below.drew ?_ | with_reducible refine Below.alloc ?_ (by first | omega | (simp; omega) | simp) _ | with_reducible refine Below.setCell ?_ (by first | omega | (simp; omega) | simp) _)))
      | (refine ⟨w1.heap.size, ?_, ?_⟩; (· with_reducible rfl); refine ⟨rfl, by omega, g2.set4 _ _ _ _, ?_⟩; (repeat (first | with_reducible exact Below.refl _ _ | with_reducible assumption | with_reducible refine below_drewN ?_ _ | with_reducible refine Below.drew ?_ | with_reducible refine Below.alloc ?_ (by first | omega | (simp; omega) | simp) _ | with_reducible refine Below.setCell ?_ (by first | omega | (simp; omega) | simp) _)))
  case rest =>
    obtain ⟨g, rfl, rfl, hg, hG, hbx⟩ := hcut
    obtain ⟨w2, hw2⟩ : ∃ x : World, x = wc := ⟨_, rfl⟩
    subst hw2
    have hB := hAn.trans (hbx.mono hAn.size)
    have hZ2 := hZn.below hbx hZn.lt
    have hp2 := hp.below hbx
    have hzg : w.heap.size + 1 < w1.heap.size := hZn.lt
    have ngz : ¬ g = w.heap.size + 1 := by omega
    have ngz' : ¬ w.heap.size + 1 = g := by omega
    clear hLn hZn hA hH hd hp hAn hln' y0 y1 y2 y3 y4 y5 y6 y7 HPR yn yn' hbx
    have lg := hG.lt
    obtain ⟨⟨k0, k1, k2, k3⟩, ⟨k4, k5, k6, k7⟩⟩ := hG.has4
    go_upto_region 4 with (fail)
    go_cut [40] (fun t wx => t = .bool true ∧ Below w2.heap.size w2 wx)
    case first =>
      go_region_held3 (fun w' => w'.cell? ⟨g, 2, none⟩ = some (.int .i64 2) ∧ w'.cell? ⟨g, 3, none⟩ = some (.int .i64 2)) (go_keep)
        (first
          | (go_at_call 39; refine (ptrGen4120 _ (hp2.below (by (repeat (first | with_reducible exact Below.refl _ _ | with_reducible assumption | with_reducible refine below_drewN ?_ _ | with_reducible refine Below.drew ?_ | with_reducible refine Below.alloc ?_ (by first | omega | (simp; omega) | simp) _ | with_reducible refine Below.setCell ?_ (by first | omega | (simp; omega) | simp) _))))).mono ?_; rintro e wa ⟨rfl, ba0⟩; (have ba : Below w2.heap.size w2 wa := (by first | exact below_of_drew ba0 | exact ba0)); (have e2 := (ba.cell (p := ⟨g, 2, none⟩) lg).trans k2); (have e3 := (ba.cell (p := ⟨g, 3, none⟩) lg).trans k3); (have ls := ba.size)))
      go_wp2_with fail
      go_meet
      exact ⟨rfl, ba⟩
    case rest =>
      obtain ⟨rfl, hbx⟩ := hcut
      obtain ⟨w3, hw3⟩ : ∃ x : World, x = wc := ⟨_, rfl⟩
      subst hw3
      have hB3 := hB.trans (hbx.mono hB.size)
      have hZ3 := hZ2.below hbx hZ2.lt
      have hG3 := hG.below hbx hG.lt
      clear k0 k1 k2 k3 k4 k5 k6 k7 lg hG hZ2 hB hbx hp2
      obtain ⟨⟨k0, k1, k2, k3⟩, ⟨k4, k5, k6, k7⟩⟩ := hG3.has4
      obtain ⟨⟨z0, z1, z2, z3⟩, ⟨z4, z5, z6, z7⟩⟩ := hZ3.has4
      have lg := hG3.lt
      have lz := hZ3.lt
      go_wp2_with fail
      refine bodyPost_ret (v := .tuple #[.agg #[.int .i64 0, .int .i64 0, .int .i64 0, .int .i64 0], .int .i64 70]) ?_ rfl ⟨rfl, by (repeat (first | with_reducible exact Below.refl _ _ | with_reducible assumption | with_reducible refine below_drewN ?_ _ | with_reducible refine Below.drew ?_ | with_reducible refine Below.alloc ?_ (by first | omega | (simp; omega) | simp) _ | with_reducible refine Below.setCell ?_ (by first | omega | (simp; omega) | simp) _))⟩
      simp [results, Tryz.results7, go_sem, *]
set_option maxRecDepth 100000 in
set_option maxHeartbeats 8000000 in
theorem follow8217 (w : World) (gv : Nat) (hA : LdsV w gv 112 4) (hp : Pt w) :
    Calls Tryz.prog 7 #[.pointer (some ⟨gv, 0, none⟩), .agg #[.int .i64 64, .int .i64 2, .int .i64 8, .int .i64 10, .int .i64 4, .int .i64 14, .int .i64 16, .int .i64 3], .int .i64 8217] w
      fun e w' => e = .returned (.tuple #[.agg #[.int .i64 0, .int .i64 0, .int .i64 0, .int .i64 0], .int .i64 1]) ∧ Below w.heap.size w w' := by
  go_enter Tryz.func7, Tryz.ntmps7
  go_upto_region 1 with (fail)
  generalize hwn : (w.alloc (.cells #[.int .i64 64, .int .i64 2, .int .i64 8, .int .i64 10, .int .i64 4, .int .i64 14, .int .i64 16, .int .i64 3] 29)).alloc (.cells #[.int .i64 0, .int .i64 0, .int .i64 0, .int .i64 0] 43) = wn
  have hLn : Cl wn w.heap.size 29 #[.int .i64 64, .int .i64 2, .int .i64 8, .int .i64 10, .int .i64 4, .int .i64 14, .int .i64 16, .int .i64 3] := by rw [← hwn]; exact (Cl.new _ _ _).alloc _
  have hZn : Cl wn (w.heap.size + 1) 43 #[.int .i64 0, .int .i64 0, .int .i64 0, .int .i64 0] := by rw [← hwn]; exact Cl.new_ _ _ _ _ (by simp)
  have hAn : Below w.heap.size w wn := by rw [← hwn]; (repeat (first | with_reducible exact Below.refl _ _ | with_reducible assumption | with_reducible refine below_drewN ?_ _ | with_reducible refine Below.drew ?_ | with_reducible refine Below.alloc ?_ (by first | omega | (simp; omega) | simp) _ | with_reducible refine Below.setCell ?_ (by first | omega | (simp; omega) | simp) _))
  clear hwn
  replace hA := hA.below hAn
  replace hp := hp.below hAn
  go_wp2_with fail
  refine (right8217 _ hp).mono ?_
  rintro e w1 ⟨rfl, hb1⟩
  replace hLn := hLn.below hb1 hLn.lt
  replace hZn := hZn.below hb1 hZn.lt
  replace hA := hA.below hb1
  replace hp := hp.below hb1
  replace hAn := hAn.trans (hb1.mono hAn.size)
  clear hb1
  have hln' := hLn.lt
  obtain ⟨y0, y1, y2, y3, y4, y5, y6, y7⟩ := hLn.cells8
  go_upto_region 3 with (fail)
  have yn : ¬ w.heap.size = w1.heap.size := by omega
  have yn' : ¬ w1.heap.size = w.heap.size := by omega
  go_cut [8, 9] (fun s t wx => ∃ g, s = .pointer (some ⟨g, 0, none⟩) ∧ t = .int .i64 1 ∧ w1.heap.size ≤ g ∧ Cl wx g 43 #[.int .i64 0, .int .i64 0, .int .i64 0, .int .i64 0] ∧ Below w1.heap.size w1 wx)
  case first =>
    go_region_held3 (fun w' => w'.cell? ⟨w.heap.size, 0, none⟩ = some (.int .i64 64) ∧ w'.cell? ⟨w.heap.size, 1, none⟩ = some (.int .i64 2) ∧ w'.cell? ⟨w.heap.size, 2, none⟩ = some (.int .i64 8) ∧ w'.cell? ⟨w.heap.size, 3, none⟩ = some (.int .i64 10) ∧ w'.cell? ⟨w.heap.size, 4, none⟩ = some (.int .i64 4) ∧ w'.cell? ⟨w.heap.size, 5, none⟩ = some (.int .i64 14) ∧ w'.cell? ⟨w.heap.size, 6, none⟩ = some (.int .i64 16) ∧ w'.cell? ⟨w.heap.size, 7, none⟩ = some (.int .i64 3)) (go_keep)
      (first
        | (go_at_call 38; refine (ptrLine8217 _ (hp.below (by (repeat (first | with_reducible exact Below.refl _ _ | with_reducible assumption | with_reducible refine below_drewN ?_ _ | with_reducible refine Below.drew ?_ | with_reducible refine Below.alloc ?_ (by first | omega | (simp; omega) | simp) _ | with_reducible refine Below.setCell ?_ (by first | omega | (simp; omega) | simp) _))))).mono ?_; rintro e wa ⟨rfl, ba0⟩; (have ba : Below w1.heap.size w1 wa := Below.trans (by (repeat (first | with_reducible exact Below.refl _ _ | with_reducible assumption | with_reducible refine below_drewN ?_ _ | with_reducible refine Below.drew ?_ | with_reducible refine Below.alloc ?_ (by first | omega | (simp; omega) | simp) _ | with_reducible refine Below.setCell ?_ (by first | omega | (simp; omega) | simp) _))) (ba0.mono (by simp))); (have qa := Cl.cells8 (hLn.below ba hLn.lt)); unfold Cells8 at qa; (have la := (hLn.below ba hLn.lt).lt); (have sa := ba.size); (have z1 : ¬ w.heap.size = wa.heap.size := (by omega)); (have z2 : ¬ wa.heap.size = w.heap.size := (by omega)); (first | (have g1 := (Cl.new w1 43 #[.int .i64 0, .int .i64 0, .int .i64 0, .int .i64 0]).drew.below ba0 (by simp); obtain ⟨⟨k0, k1, k2, k3⟩, ⟨k4, k5, k6, k7⟩⟩ := g1.has4; (have gl := g1.lt)) | skip))
        | (go_at_call 37; refine (block25V _ gv (hA.below (Below.trans ba (Below.mono (by (repeat (first | with_reducible exact Below.refl _ _ | with_reducible assumption | with_reducible refine below_drewN ?_ _ | with_reducible refine Below.drew ?_ | with_reducible refine Below.alloc ?_ (by first | omega | (simp; omega) | simp) _ | with_reducible refine Below.setCell ?_ (by first | omega | (simp; omega) | simp) _))) ba.size)))).mono ?_; rintro e wb ⟨rfl, bb0⟩; (have bb : Below w1.heap.size w1 wb := Below.trans ba (Below.trans (Below.mono (by (repeat (first | with_reducible exact Below.refl _ _ | with_reducible assumption | with_reducible refine below_drewN ?_ _ | with_reducible refine Below.drew ?_ | with_reducible refine Below.alloc ?_ (by first | omega | (simp; omega) | simp) _ | with_reducible refine Below.setCell ?_ (by first | omega | (simp; omega) | simp) _))) ba.size) (bb0.mono (by first | omega | (simp; omega))))); (have qb := Cl.cells8 (hLn.below bb hLn.lt)); unfold Cells8 at qb; (have lb := (hLn.below bb hLn.lt).lt); (have sb := bb.size); (first | (have g2 := g1.below bb0 (by first | exact g1.lt | (simp; omega)); obtain ⟨⟨k0, k1, k2, k3⟩, ⟨k4, k5, k6, k7⟩⟩ := g2.has4; (have gl2 := g2.lt)) | (have g2 := (Cl.new wa 43 #[.int .i64 0, .int .i64 0, .int .i64 0, .int .i64 0]).below bb0 (by simp); obtain ⟨⟨k0, k1, k2, k3⟩, ⟨k4, k5, k6, k7⟩⟩ := g2.has4; (have gl2 := g2.lt)) | skip)))
    all_goals (go_wp2_with fail; go_meet)
    all_goals first
      | (refine ⟨wb.heap.size, ?_, ?_⟩; (· with_reducible rfl); refine ⟨rfl, by omega, Cl.new _ _ _, ?_⟩; (repeat (first | with_reducible exact Below.refl _ _ | with_reducible assumption | with_reducible refine below_drewN ?_ _ | with_reducible refine Below.drew ?_ | with_reducible refine Below.alloc ?_ (by first | omega | (simp; omega) | simp) _ | with_reducible refine Below.setCell ?_ (by first | omega | (simp; omega) | simp) _)))
      | (refine ⟨wa.heap.size, ?_, ?_⟩; (· with_reducible rfl); refine ⟨rfl, by omega, g2.set4 _ _ _ _, ?_⟩; (repeat (first | with_reducible exact Below.refl _ _ | with_reducible assumption | with_reducible refine below_drewN ?_ _ | with_reducible refine Below.drew ?_ | with_reducible refine Below.alloc ?_ (by first | omega | (simp; omega) | simp) _ | with_reducible refine Below.setCell ?_ (by first | omega | (simp; omega) | simp) _)))
      | (refine ⟨w1.heap.size, ?_, ?_⟩; (· with_reducible rfl); refine ⟨rfl, by omega, g2.set4 _ _ _ _, ?_⟩; (repeat (first | with_reducible exact Below.refl _ _ | with_reducible assumption | with_reducible refine below_drewN ?_ _ | with_reducible refine Below.drew ?_ | with_reducible refine Below.alloc ?_ (by first | omega | (simp; omega) | simp) _ | with_reducible refine Below.setCell ?_ (by first | omega | (simp; omega) | simp) _)))
  case rest =>
    obtain ⟨g, rfl, rfl, hg, hG, hbx⟩ := hcut
    obtain ⟨w2, hw2⟩ : ∃ x : World, x = wc := ⟨_, rfl⟩
    subst hw2
    have hB := hAn.trans (hbx.mono hAn.size)
    have hZ2 := hZn.below hbx hZn.lt
    have hzg : w.heap.size + 1 < w1.heap.size := hZn.lt
    have ngz : ¬ g = w.heap.size + 1 := by omega
    have ngz' : ¬ w.heap.size + 1 = g := by omega
    clear hLn hZn hA hp hAn hln' y0 y1 y2 y3 y4 y5 y6 y7 yn yn' hbx
    have lg := hG.lt
    obtain ⟨⟨k0, k1, k2, k3⟩, ⟨k4, k5, k6, k7⟩⟩ := hG.has4
    obtain ⟨⟨z0, z1, z2, z3⟩, ⟨z4, z5, z6, z7⟩⟩ := hZ2.has4
    have lz := hZ2.lt
    go_upto_region 4 with (fail)
    go_quiet (fail)
    go_wp2_with fail
    refine bodyPost_ret (v := .tuple #[.agg #[.int .i64 0, .int .i64 0, .int .i64 0, .int .i64 0], .int .i64 1]) ?_ rfl ⟨rfl, by (repeat (first | with_reducible exact Below.refl _ _ | with_reducible assumption | with_reducible refine below_drewN ?_ _ | with_reducible refine Below.drew ?_ | with_reducible refine Below.alloc ?_ (by first | omega | (simp; omega) | simp) _ | with_reducible refine Below.setCell ?_ (by first | omega | (simp; omega) | simp) _))⟩
    simp [results, Tryz.results7, go_sem, *]
end Go.Proofs.YtckamjbdogpacaaGreatDoor
