/-
  class: block through a memory and through a view, on the layout of 64 lines.
  class.Block through a memory; pointer.Right, Line, Gen at three pointers.
-/
import Derived.Test.YtckamjbdogpacaaGreatDoorBlk
namespace Go.Proofs.YtckamjbdogpacaaGreatDoor
open Go.RowKit

set_option maxRecDepth 100000 in
set_option maxHeartbeats 8000000 in
theorem block24M (w : World) (g : Nat) (hA : LdsM w g 112 4) (hd : Hd w) (hv kd gn : Int) (hH : LdsM w g 192 hv) (h0 : 0 ≤ hv) (h1 : hv < 134217728) (h2 : hv / 16 % 8 ≤ 4) (hkd : hv % 16 = kd) (hgn : hv / 128 % 1048576 = gn)
    (hpr : ∀ W, Hd W → Calls Tryz.prog 72 #[.int .i64 hv, .int .i64 3] W fun e w' => e = .returned (.bool true) ∧ Below W.heap.size W w') :
    Calls Tryz.prog 37 #[.func (.func 42) #[.pointer (some ⟨g, 0, none⟩)] #[], .agg #[.int .i64 64, .int .i64 2, .int .i64 8, .int .i64 10, .int .i64 4, .int .i64 14, .int .i64 16, .int .i64 3], .int .i64 24] w
      fun e w' => e = .returned (.tuple #[.agg #[.int .i64 24, .int .i64 3, .int .i64 kd, .int .i64 gn], .int .i64 0]) ∧ Below w.heap.size w w' := by
  have HPR := Lib.hid hpr
  have HK := Lib.hid hkd
  have HG := Lib.hid hgn
  clear hpr hkd hgn
  go_enter Tryz.func37, Tryz.ntmps37
  go_upto_region 1 with (fail)
  generalize hwn : (w.alloc (.cells #[.int .i64 64, .int .i64 2, .int .i64 8, .int .i64 10, .int .i64 4, .int .i64 14, .int .i64 16, .int .i64 3] 29)).alloc (.cells #[.int .i64 0, .int .i64 0, .int .i64 0, .int .i64 0] 43) = wn
  have hLn : Cl wn w.heap.size 29 #[.int .i64 64, .int .i64 2, .int .i64 8, .int .i64 10, .int .i64 4, .int .i64 14, .int .i64 16, .int .i64 3] := by rw [← hwn]; exact (Cl.new _ _ _).alloc _
  have hZn : Cl wn (w.heap.size + 1) 43 #[.int .i64 0, .int .i64 0, .int .i64 0, .int .i64 0] := by rw [← hwn]; exact Cl.new_ _ _ _ _ (by simp)
  have hAn : Below w.heap.size w wn := by rw [← hwn]; (repeat (first | with_reducible exact Below.refl _ _ | with_reducible assumption | with_reducible refine below_drewN ?_ _ | with_reducible refine Below.drew ?_ | with_reducible refine Below.alloc ?_ (by first | omega | (simp; omega) | simp) _ | with_reducible refine Below.setCell ?_ (by first | omega | (simp; omega) | simp) _))
  clear hwn
  have hA' := hA.below hAn
  have hH' := hH.below hAn
  have hdn := hd.below hAn
  have hln' := hLn.lt
  obtain ⟨y0, y1, y2, y3, y4, y5, y6, y7⟩ := hLn.cells8
  go_cut [8, 9] (fun x y wx => x = .int .i64 3 ∧ y = .int .i64 0 ∧ Below wn.heap.size wn wx)
  case first =>
    go_region_held3 (fun w' => w'.cell? ⟨w.heap.size, 0, none⟩ = some (.int .i64 64) ∧ w'.cell? ⟨w.heap.size, 1, none⟩ = some (.int .i64 2) ∧ w'.cell? ⟨w.heap.size, 2, none⟩ = some (.int .i64 8) ∧ w'.cell? ⟨w.heap.size, 3, none⟩ = some (.int .i64 10) ∧ w'.cell? ⟨w.heap.size, 4, none⟩ = some (.int .i64 4) ∧ w'.cell? ⟨w.heap.size, 5, none⟩ = some (.int .i64 14) ∧ w'.cell? ⟨w.heap.size, 6, none⟩ = some (.int .i64 16) ∧ w'.cell? ⟨w.heap.size, 7, none⟩ = some (.int .i64 3)) (go_keep)
      (first
        | (go_at_call 46; refine (chunk64 _ 24 (by omega) (by omega)).mono ?_; rintro e wa ⟨rfl, ba0⟩; (have ba : Below wn.heap.size wn wa := (by first | exact below_of_drew ba0 | exact ba0)); (have qa := Cl.cells8 (hLn.below ba hLn.lt)); unfold Cells8 at qa; (have la := (hLn.below ba hLn.lt).lt))
        | (go_at_call 43; refine (assigned64M _ g (hA'.below ba)).mono ?_; rintro e wb ⟨rfl, bb0⟩; (have bb := ba.trans (bb0.mono ba.size)); (have qb := Cl.cells8 (hLn.below bb hLn.lt)); unfold Cells8 at qb; (have lb := (hLn.below bb hLn.lt).lt)))
    go_wp2_with fail
    go_meet
    exact ⟨rfl, rfl, bb⟩
  case rest =>
    obtain ⟨rfl, rfl, hbx⟩ := hcut
    obtain ⟨w2, hw2⟩ : ∃ x : World, x = wc := ⟨_, rfl⟩
    subst hw2
    have hL2 := hLn.below hbx hLn.lt
    have hZ2 := hZn.below hbx hZn.lt
    have hB2 := hAn.trans (hbx.mono hAn.size)
    have hH2 := hH'.below hbx
    have hd2 := hdn.below hbx
    clear hLn hAn hbx hA' hH' hA hH y0 y1 y2 y3 y4 y5 y6 y7 hln' hd hdn hZn
    have y6 := hL2.cell 6
    simp only [List.getElem?_toArray, List.getElem?_cons_succ, List.getElem?_cons_zero] at y6
    have hl2 := hL2.lt
    have wr8 : IntKind.i64.wrap 8 = 8 := by decide
    go_wp2_with fail
    go_region_held3 (fun w' => w'.cell? ⟨w.heap.size, 6, none⟩ = some (.int .i64 16)) (go_keep)
      (first | (go_at_call 41; refine (plines3 _).mono ?_; rintro e w' ⟨rfl, rfl⟩))
    go_wp2_with fail
    refine (hH2 _ (by (repeat (first | with_reducible exact Below.refl _ _ | with_reducible assumption | with_reducible refine below_drewN ?_ _ | with_reducible refine Below.drew ?_ | with_reducible refine Below.alloc ?_ (by first | omega | (simp; omega) | simp) _ | with_reducible refine Below.setCell ?_ (by first | omega | (simp; omega) | simp) _)))).mono ?_
    rintro e w3 ⟨rfl, hb3⟩
    replace hb3 : Below w2.heap.size w2 w3 := below_of_drew hb3
    have hL3 := hL2.below hb3 hL2.lt
    have hZ3 := hZ2.below hb3 hZ2.lt
    have hB3 := hB2.trans (hb3.mono hB2.size)
    have hd3 := hd2.below hb3
    clear y6 hl2 hL2 hZ2 hB2 hd2 hH2 hb3
    go_wp2_with fail
    refine (HPR.out _ hd3).mono ?_
    rintro e w4 ⟨rfl, hb4⟩
    have hZ4 := hZ3.below hb4 hZ3.lt
    have hB4 := hB3.trans (hb4.mono hB3.size)
    have hd4 := hd3.below hb4
    clear hL3 hZ3 hB3 hd3 hb4
    go_wp2_with fail
    refine (partKind _ hv hd4 h0 h1 h2).mono ?_
    rintro e w5 ⟨rfl, hb5⟩
    rw [HK.out]
    have hZ5 := hZ4.below hb5 hZ4.lt
    have hB5 := hB4.trans (hb5.mono hB4.size)
    have hd5 := hd4.below hb5
    clear hZ4 hB4 hd4 hb5
    go_wp2_with fail
    refine (partGeneration _ hv hd5 h0 h1 h2).mono ?_
    rintro e w6 ⟨rfl, hb6⟩
    rw [HG.out]
    have hZ6 := hZ5.below hb6 hZ5.lt
    have hB6 := hB5.trans (hb6.mono hB5.size)
    clear hZ5 hB5 hd5 hb6
    have z0 : w6.cell? ⟨w.heap.size + 1, 0, none⟩ = some (.int .i64 0) := hZ6.cell 0
    have z1 : w6.cell? ⟨w.heap.size + 1, 1, none⟩ = some (.int .i64 0) := hZ6.cell 1
    have z2 : w6.cell? ⟨w.heap.size + 1, 2, none⟩ = some (.int .i64 0) := hZ6.cell 2
    have z3 : w6.cell? ⟨w.heap.size + 1, 3, none⟩ = some (.int .i64 0) := hZ6.cell 3
    have hl6 := hZ6.lt
    have z4 := hZ6.free 0
    have z5 := hZ6.free 1
    have z6 := hZ6.free 2
    have z7 := hZ6.free 3
    go_wp2_with fail
    refine bodyPost_ret (v := .tuple #[.agg #[.int .i64 24, .int .i64 3, .int .i64 kd, .int .i64 gn], .int .i64 0]) ?_ rfl ⟨rfl, by (repeat (first | with_reducible exact Below.refl _ _ | with_reducible assumption | with_reducible refine below_drewN ?_ _ | with_reducible refine Below.drew ?_ | with_reducible refine Below.alloc ?_ (by first | omega | (simp; omega) | simp) _ | with_reducible refine Below.setCell ?_ (by first | omega | (simp; omega) | simp) _))⟩
    simp [results, Tryz.results37, go_sem, *]
set_option maxRecDepth 100000 in
set_option maxHeartbeats 8000000 in
theorem block16M (w : World) (g : Nat) (hA : LdsM w g 112 4) (hd : Hd w) (hv kd gn : Int) (hH : LdsM w g 128 hv) (h0 : 0 ≤ hv) (h1 : hv < 134217728) (h2 : hv / 16 % 8 ≤ 4) (hkd : hv % 16 = kd) (hgn : hv / 128 % 1048576 = gn)
    (hpr : ∀ W, Hd W → Calls Tryz.prog 72 #[.int .i64 hv, .int .i64 3] W fun e w' => e = .returned (.bool true) ∧ Below W.heap.size W w') :
    Calls Tryz.prog 37 #[.func (.func 42) #[.pointer (some ⟨g, 0, none⟩)] #[], .agg #[.int .i64 64, .int .i64 2, .int .i64 8, .int .i64 10, .int .i64 4, .int .i64 14, .int .i64 16, .int .i64 3], .int .i64 16] w
      fun e w' => e = .returned (.tuple #[.agg #[.int .i64 16, .int .i64 3, .int .i64 kd, .int .i64 gn], .int .i64 0]) ∧ Below w.heap.size w w' := by
  have HPR := Lib.hid hpr
  have HK := Lib.hid hkd
  have HG := Lib.hid hgn
  clear hpr hkd hgn
  go_enter Tryz.func37, Tryz.ntmps37
  go_upto_region 1 with (fail)
  generalize hwn : (w.alloc (.cells #[.int .i64 64, .int .i64 2, .int .i64 8, .int .i64 10, .int .i64 4, .int .i64 14, .int .i64 16, .int .i64 3] 29)).alloc (.cells #[.int .i64 0, .int .i64 0, .int .i64 0, .int .i64 0] 43) = wn
  have hLn : Cl wn w.heap.size 29 #[.int .i64 64, .int .i64 2, .int .i64 8, .int .i64 10, .int .i64 4, .int .i64 14, .int .i64 16, .int .i64 3] := by rw [← hwn]; exact (Cl.new _ _ _).alloc _
  have hZn : Cl wn (w.heap.size + 1) 43 #[.int .i64 0, .int .i64 0, .int .i64 0, .int .i64 0] := by rw [← hwn]; exact Cl.new_ _ _ _ _ (by simp)
  have hAn : Below w.heap.size w wn := by rw [← hwn]; (repeat (first | with_reducible exact Below.refl _ _ | with_reducible assumption | with_reducible refine below_drewN ?_ _ | with_reducible refine Below.drew ?_ | with_reducible refine Below.alloc ?_ (by first | omega | (simp; omega) | simp) _ | with_reducible refine Below.setCell ?_ (by first | omega | (simp; omega) | simp) _))
  clear hwn
  have hA' := hA.below hAn
  have hH' := hH.below hAn
  have hdn := hd.below hAn
  have hln' := hLn.lt
  obtain ⟨y0, y1, y2, y3, y4, y5, y6, y7⟩ := hLn.cells8
  go_cut [8, 9] (fun x y wx => x = .int .i64 3 ∧ y = .int .i64 0 ∧ Below wn.heap.size wn wx)
  case first =>
    go_region_held3 (fun w' => w'.cell? ⟨w.heap.size, 0, none⟩ = some (.int .i64 64) ∧ w'.cell? ⟨w.heap.size, 1, none⟩ = some (.int .i64 2) ∧ w'.cell? ⟨w.heap.size, 2, none⟩ = some (.int .i64 8) ∧ w'.cell? ⟨w.heap.size, 3, none⟩ = some (.int .i64 10) ∧ w'.cell? ⟨w.heap.size, 4, none⟩ = some (.int .i64 4) ∧ w'.cell? ⟨w.heap.size, 5, none⟩ = some (.int .i64 14) ∧ w'.cell? ⟨w.heap.size, 6, none⟩ = some (.int .i64 16) ∧ w'.cell? ⟨w.heap.size, 7, none⟩ = some (.int .i64 3)) (go_keep)
      (first
        | (go_at_call 46; refine (chunk64 _ 16 (by omega) (by omega)).mono ?_; rintro e wa ⟨rfl, ba0⟩; (have ba : Below wn.heap.size wn wa := (by first | exact below_of_drew ba0 | exact ba0)); (have qa := Cl.cells8 (hLn.below ba hLn.lt)); unfold Cells8 at qa; (have la := (hLn.below ba hLn.lt).lt))
        | (go_at_call 43; refine (assigned64M _ g (hA'.below ba)).mono ?_; rintro e wb ⟨rfl, bb0⟩; (have bb := ba.trans (bb0.mono ba.size)); (have qb := Cl.cells8 (hLn.below bb hLn.lt)); unfold Cells8 at qb; (have lb := (hLn.below bb hLn.lt).lt)))
    go_wp2_with fail
    go_meet
    exact ⟨rfl, rfl, bb⟩
  case rest =>
    obtain ⟨rfl, rfl, hbx⟩ := hcut
    obtain ⟨w2, hw2⟩ : ∃ x : World, x = wc := ⟨_, rfl⟩
    subst hw2
    have hL2 := hLn.below hbx hLn.lt
    have hZ2 := hZn.below hbx hZn.lt
    have hB2 := hAn.trans (hbx.mono hAn.size)
    have hH2 := hH'.below hbx
    have hd2 := hdn.below hbx
    clear hLn hAn hbx hA' hH' hA hH y0 y1 y2 y3 y4 y5 y6 y7 hln' hd hdn hZn
    have y6 := hL2.cell 6
    simp only [List.getElem?_toArray, List.getElem?_cons_succ, List.getElem?_cons_zero] at y6
    have hl2 := hL2.lt
    have wr8 : IntKind.i64.wrap 0 = 0 := by decide
    go_wp2_with fail
    go_region_held3 (fun w' => w'.cell? ⟨w.heap.size, 6, none⟩ = some (.int .i64 16)) (go_keep)
      (first | (go_at_call 41; refine (plines3 _).mono ?_; rintro e w' ⟨rfl, rfl⟩))
    go_wp2_with fail
    refine (hH2 _ (by (repeat (first | with_reducible exact Below.refl _ _ | with_reducible assumption | with_reducible refine below_drewN ?_ _ | with_reducible refine Below.drew ?_ | with_reducible refine Below.alloc ?_ (by first | omega | (simp; omega) | simp) _ | with_reducible refine Below.setCell ?_ (by first | omega | (simp; omega) | simp) _)))).mono ?_
    rintro e w3 ⟨rfl, hb3⟩
    replace hb3 : Below w2.heap.size w2 w3 := below_of_drew hb3
    have hL3 := hL2.below hb3 hL2.lt
    have hZ3 := hZ2.below hb3 hZ2.lt
    have hB3 := hB2.trans (hb3.mono hB2.size)
    have hd3 := hd2.below hb3
    clear y6 hl2 hL2 hZ2 hB2 hd2 hH2 hb3
    go_wp2_with fail
    refine (HPR.out _ hd3).mono ?_
    rintro e w4 ⟨rfl, hb4⟩
    have hZ4 := hZ3.below hb4 hZ3.lt
    have hB4 := hB3.trans (hb4.mono hB3.size)
    have hd4 := hd3.below hb4
    clear hL3 hZ3 hB3 hd3 hb4
    go_wp2_with fail
    refine (partKind _ hv hd4 h0 h1 h2).mono ?_
    rintro e w5 ⟨rfl, hb5⟩
    rw [HK.out]
    have hZ5 := hZ4.below hb5 hZ4.lt
    have hB5 := hB4.trans (hb5.mono hB4.size)
    have hd5 := hd4.below hb5
    clear hZ4 hB4 hd4 hb5
    go_wp2_with fail
    refine (partGeneration _ hv hd5 h0 h1 h2).mono ?_
    rintro e w6 ⟨rfl, hb6⟩
    rw [HG.out]
    have hZ6 := hZ5.below hb6 hZ5.lt
    have hB6 := hB5.trans (hb6.mono hB5.size)
    clear hZ5 hB5 hd5 hb6
    have z0 : w6.cell? ⟨w.heap.size + 1, 0, none⟩ = some (.int .i64 0) := hZ6.cell 0
    have z1 : w6.cell? ⟨w.heap.size + 1, 1, none⟩ = some (.int .i64 0) := hZ6.cell 1
    have z2 : w6.cell? ⟨w.heap.size + 1, 2, none⟩ = some (.int .i64 0) := hZ6.cell 2
    have z3 : w6.cell? ⟨w.heap.size + 1, 3, none⟩ = some (.int .i64 0) := hZ6.cell 3
    have hl6 := hZ6.lt
    have z4 := hZ6.free 0
    have z5 := hZ6.free 1
    have z6 := hZ6.free 2
    have z7 := hZ6.free 3
    go_wp2_with fail
    refine bodyPost_ret (v := .tuple #[.agg #[.int .i64 16, .int .i64 3, .int .i64 kd, .int .i64 gn], .int .i64 0]) ?_ rfl ⟨rfl, by (repeat (first | with_reducible exact Below.refl _ _ | with_reducible assumption | with_reducible refine below_drewN ?_ _ | with_reducible refine Below.drew ?_ | with_reducible refine Below.alloc ?_ (by first | omega | (simp; omega) | simp) _ | with_reducible refine Below.setCell ?_ (by first | omega | (simp; omega) | simp) _))⟩
    simp [results, Tryz.results37, go_sem, *]
set_option maxRecDepth 100000 in
set_option maxHeartbeats 8000000 in
theorem block24V (w : World) (g : Nat) (hA : LdsV w g 112 4) (hd : Hd w) (hv kd gn : Int) (hH : LdsV w g 192 hv) (h0 : 0 ≤ hv) (h1 : hv < 134217728) (h2 : hv / 16 % 8 ≤ 4) (hkd : hv % 16 = kd) (hgn : hv / 128 % 1048576 = gn)
    (hpr : ∀ W, Hd W → Calls Tryz.prog 72 #[.int .i64 hv, .int .i64 3] W fun e w' => e = .returned (.bool true) ∧ Below W.heap.size W w') :
    Calls Tryz.prog 37 #[.func (.func 36) #[.pointer (some ⟨g, 0, none⟩)] #[], .agg #[.int .i64 64, .int .i64 2, .int .i64 8, .int .i64 10, .int .i64 4, .int .i64 14, .int .i64 16, .int .i64 3], .int .i64 24] w
      fun e w' => e = .returned (.tuple #[.agg #[.int .i64 24, .int .i64 3, .int .i64 kd, .int .i64 gn], .int .i64 0]) ∧ Below w.heap.size w w' := by
  have HPR := Lib.hid hpr
  have HK := Lib.hid hkd
  have HG := Lib.hid hgn
  clear hpr hkd hgn
  go_enter Tryz.func37, Tryz.ntmps37
  go_upto_region 1 with (fail)
  generalize hwn : (w.alloc (.cells #[.int .i64 64, .int .i64 2, .int .i64 8, .int .i64 10, .int .i64 4, .int .i64 14, .int .i64 16, .int .i64 3] 29)).alloc (.cells #[.int .i64 0, .int .i64 0, .int .i64 0, .int .i64 0] 43) = wn
  have hLn : Cl wn w.heap.size 29 #[.int .i64 64, .int .i64 2, .int .i64 8, .int .i64 10, .int .i64 4, .int .i64 14, .int .i64 16, .int .i64 3] := by rw [← hwn]; exact (Cl.new _ _ _).alloc _
  have hZn : Cl wn (w.heap.size + 1) 43 #[.int .i64 0, .int .i64 0, .int .i64 0, .int .i64 0] := by rw [← hwn]; exact Cl.new_ _ _ _ _ (by simp)
  have hAn : Below w.heap.size w wn := by rw [← hwn]; (repeat (first | with_reducible exact Below.refl _ _ | with_reducible assumption | with_reducible refine below_drewN ?_ _ | with_reducible refine Below.drew ?_ | with_reducible refine Below.alloc ?_ (by first | omega | (simp; omega) | simp) _ | with_reducible refine Below.setCell ?_ (by first | omega | (simp; omega) | simp) _))
  clear hwn
  have hA' := hA.below hAn
  have hH' := hH.below hAn
  have hdn := hd.below hAn
  have hln' := hLn.lt
  obtain ⟨y0, y1, y2, y3, y4, y5, y6, y7⟩ := hLn.cells8
  go_cut [8, 9] (fun x y wx => x = .int .i64 3 ∧ y = .int .i64 0 ∧ Below wn.heap.size wn wx)
  case first =>
    go_region_held3 (fun w' => w'.cell? ⟨w.heap.size, 0, none⟩ = some (.int .i64 64) ∧ w'.cell? ⟨w.heap.size, 1, none⟩ = some (.int .i64 2) ∧ w'.cell? ⟨w.heap.size, 2, none⟩ = some (.int .i64 8) ∧ w'.cell? ⟨w.heap.size, 3, none⟩ = some (.int .i64 10) ∧ w'.cell? ⟨w.heap.size, 4, none⟩ = some (.int .i64 4) ∧ w'.cell? ⟨w.heap.size, 5, none⟩ = some (.int .i64 14) ∧ w'.cell? ⟨w.heap.size, 6, none⟩ = some (.int .i64 16) ∧ w'.cell? ⟨w.heap.size, 7, none⟩ = some (.int .i64 3)) (go_keep)
      (first
        | (go_at_call 46; refine (chunk64 _ 24 (by omega) (by omega)).mono ?_; rintro e wa ⟨rfl, ba0⟩; (have ba : Below wn.heap.size wn wa := (by first | exact below_of_drew ba0 | exact ba0)); (have qa := Cl.cells8 (hLn.below ba hLn.lt)); unfold Cells8 at qa; (have la := (hLn.below ba hLn.lt).lt))
        | (go_at_call 43; refine (assigned64V _ g (hA'.below ba)).mono ?_; rintro e wb ⟨rfl, bb0⟩; (have bb := ba.trans (bb0.mono ba.size)); (have qb := Cl.cells8 (hLn.below bb hLn.lt)); unfold Cells8 at qb; (have lb := (hLn.below bb hLn.lt).lt)))
    go_wp2_with fail
    go_meet
    exact ⟨rfl, rfl, bb⟩
  case rest =>
    obtain ⟨rfl, rfl, hbx⟩ := hcut
    obtain ⟨w2, hw2⟩ : ∃ x : World, x = wc := ⟨_, rfl⟩
    subst hw2
    have hL2 := hLn.below hbx hLn.lt
    have hZ2 := hZn.below hbx hZn.lt
    have hB2 := hAn.trans (hbx.mono hAn.size)
    have hH2 := hH'.below hbx
    have hd2 := hdn.below hbx
    clear hLn hAn hbx hA' hH' hA hH y0 y1 y2 y3 y4 y5 y6 y7 hln' hd hdn hZn
    have y6 := hL2.cell 6
    simp only [List.getElem?_toArray, List.getElem?_cons_succ, List.getElem?_cons_zero] at y6
    have hl2 := hL2.lt
    have wr8 : IntKind.i64.wrap 8 = 8 := by decide
    go_wp2_with fail
    go_region_held3 (fun w' => w'.cell? ⟨w.heap.size, 6, none⟩ = some (.int .i64 16)) (go_keep)
      (first | (go_at_call 41; refine (plines3 _).mono ?_; rintro e w' ⟨rfl, rfl⟩))
    go_wp2_with fail
    refine (hH2 _ (by (repeat (first | with_reducible exact Below.refl _ _ | with_reducible assumption | with_reducible refine below_drewN ?_ _ | with_reducible refine Below.drew ?_ | with_reducible refine Below.alloc ?_ (by first | omega | (simp; omega) | simp) _ | with_reducible refine Below.setCell ?_ (by first | omega | (simp; omega) | simp) _)))).mono ?_
    rintro e w3 ⟨rfl, hb3⟩
    replace hb3 : Below w2.heap.size w2 w3 := below_of_drew hb3
    have hL3 := hL2.below hb3 hL2.lt
    have hZ3 := hZ2.below hb3 hZ2.lt
    have hB3 := hB2.trans (hb3.mono hB2.size)
    have hd3 := hd2.below hb3
    clear y6 hl2 hL2 hZ2 hB2 hd2 hH2 hb3
    go_wp2_with fail
    refine (HPR.out _ hd3).mono ?_
    rintro e w4 ⟨rfl, hb4⟩
    have hZ4 := hZ3.below hb4 hZ3.lt
    have hB4 := hB3.trans (hb4.mono hB3.size)
    have hd4 := hd3.below hb4
    clear hL3 hZ3 hB3 hd3 hb4
    go_wp2_with fail
    refine (partKind _ hv hd4 h0 h1 h2).mono ?_
    rintro e w5 ⟨rfl, hb5⟩
    rw [HK.out]
    have hZ5 := hZ4.below hb5 hZ4.lt
    have hB5 := hB4.trans (hb5.mono hB4.size)
    have hd5 := hd4.below hb5
    clear hZ4 hB4 hd4 hb5
    go_wp2_with fail
    refine (partGeneration _ hv hd5 h0 h1 h2).mono ?_
    rintro e w6 ⟨rfl, hb6⟩
    rw [HG.out]
    have hZ6 := hZ5.below hb6 hZ5.lt
    have hB6 := hB5.trans (hb6.mono hB5.size)
    clear hZ5 hB5 hd5 hb6
    have z0 : w6.cell? ⟨w.heap.size + 1, 0, none⟩ = some (.int .i64 0) := hZ6.cell 0
    have z1 : w6.cell? ⟨w.heap.size + 1, 1, none⟩ = some (.int .i64 0) := hZ6.cell 1
    have z2 : w6.cell? ⟨w.heap.size + 1, 2, none⟩ = some (.int .i64 0) := hZ6.cell 2
    have z3 : w6.cell? ⟨w.heap.size + 1, 3, none⟩ = some (.int .i64 0) := hZ6.cell 3
    have hl6 := hZ6.lt
    have z4 := hZ6.free 0
    have z5 := hZ6.free 1
    have z6 := hZ6.free 2
    have z7 := hZ6.free 3
    go_wp2_with fail
    refine bodyPost_ret (v := .tuple #[.agg #[.int .i64 24, .int .i64 3, .int .i64 kd, .int .i64 gn], .int .i64 0]) ?_ rfl ⟨rfl, by (repeat (first | with_reducible exact Below.refl _ _ | with_reducible assumption | with_reducible refine below_drewN ?_ _ | with_reducible refine Below.drew ?_ | with_reducible refine Below.alloc ?_ (by first | omega | (simp; omega) | simp) _ | with_reducible refine Below.setCell ?_ (by first | omega | (simp; omega) | simp) _))⟩
    simp [results, Tryz.results37, go_sem, *]
set_option maxRecDepth 100000 in
set_option maxHeartbeats 8000000 in
theorem block25V (w : World) (g : Nat) (hA : LdsV w g 112 4) :
    Calls Tryz.prog 37 #[.func (.func 36) #[.pointer (some ⟨g, 0, none⟩)] #[], .agg #[.int .i64 64, .int .i64 2, .int .i64 8, .int .i64 10, .int .i64 4, .int .i64 14, .int .i64 16, .int .i64 3], .int .i64 25] w
      fun e w' => e = .returned (.tuple #[.agg #[.int .i64 0, .int .i64 0, .int .i64 0, .int .i64 0], .int .i64 1]) ∧ Below w.heap.size w w' := by
  go_enter Tryz.func37, Tryz.ntmps37
  go_upto_region 1 with (fail)
  generalize hwn : (w.alloc (.cells #[.int .i64 64, .int .i64 2, .int .i64 8, .int .i64 10, .int .i64 4, .int .i64 14, .int .i64 16, .int .i64 3] 29)).alloc (.cells #[.int .i64 0, .int .i64 0, .int .i64 0, .int .i64 0] 43) = wn
  have hLn : Cl wn w.heap.size 29 #[.int .i64 64, .int .i64 2, .int .i64 8, .int .i64 10, .int .i64 4, .int .i64 14, .int .i64 16, .int .i64 3] := by rw [← hwn]; exact (Cl.new _ _ _).alloc _
  have hZn : Cl wn (w.heap.size + 1) 43 #[.int .i64 0, .int .i64 0, .int .i64 0, .int .i64 0] := by rw [← hwn]; exact Cl.new_ _ _ _ _ (by simp)
  have hAn : Below w.heap.size w wn := by rw [← hwn]; (repeat (first | with_reducible exact Below.refl _ _ | with_reducible assumption | with_reducible refine below_drewN ?_ _ | with_reducible refine Below.drew ?_ | with_reducible refine Below.alloc ?_ (by first | omega | (simp; omega) | simp) _ | with_reducible refine Below.setCell ?_ (by first | omega | (simp; omega) | simp) _))
  clear hwn
  have hA' := hA.below hAn
  have hln' := hLn.lt
  obtain ⟨y0, y1, y2, y3, y4, y5, y6, y7⟩ := hLn.cells8
  go_cut [8, 9] (fun x y wx => x = .int .i64 3 ∧ y = .int .i64 0 ∧ Below wn.heap.size wn wx)
  case first =>
    go_region_held3 (fun w' => w'.cell? ⟨w.heap.size, 0, none⟩ = some (.int .i64 64) ∧ w'.cell? ⟨w.heap.size, 1, none⟩ = some (.int .i64 2) ∧ w'.cell? ⟨w.heap.size, 2, none⟩ = some (.int .i64 8) ∧ w'.cell? ⟨w.heap.size, 3, none⟩ = some (.int .i64 10) ∧ w'.cell? ⟨w.heap.size, 4, none⟩ = some (.int .i64 4) ∧ w'.cell? ⟨w.heap.size, 5, none⟩ = some (.int .i64 14) ∧ w'.cell? ⟨w.heap.size, 6, none⟩ = some (.int .i64 16) ∧ w'.cell? ⟨w.heap.size, 7, none⟩ = some (.int .i64 3)) (go_keep)
      (first
        | (go_at_call 46; refine (chunk64 _ 25 (by omega) (by omega)).mono ?_; rintro e wa ⟨rfl, ba0⟩; (have ba : Below wn.heap.size wn wa := (by first | exact below_of_drew ba0 | exact ba0)); (have qa := Cl.cells8 (hLn.below ba hLn.lt)); unfold Cells8 at qa; (have la := (hLn.below ba hLn.lt).lt))
        | (go_at_call 43; refine (assigned64V _ g (hA'.below ba)).mono ?_; rintro e wb ⟨rfl, bb0⟩; (have bb := ba.trans (bb0.mono ba.size)); (have qb := Cl.cells8 (hLn.below bb hLn.lt)); unfold Cells8 at qb; (have lb := (hLn.below bb hLn.lt).lt)))
    go_wp2_with fail
    go_meet
    exact ⟨rfl, rfl, bb⟩
  case rest =>
    obtain ⟨rfl, rfl, hbx⟩ := hcut
    obtain ⟨w2, hw2⟩ : ∃ x : World, x = wc := ⟨_, rfl⟩
    subst hw2
    have hL2 := hLn.below hbx hLn.lt
    have hZ2 := hZn.below hbx hZn.lt
    have hB2 := hAn.trans (hbx.mono hAn.size)
    clear hLn hAn hbx hA' hA y0 y1 y2 y3 y4 y5 y6 y7 hln' hZn
    have y6 := hL2.cell 6
    simp only [List.getElem?_toArray, List.getElem?_cons_succ, List.getElem?_cons_zero] at y6
    have hl2 := hL2.lt
    have wr8 : IntKind.i64.wrap 9 = 9 := by decide
    go_wp2_with fail
    go_region_held3 (fun w' => w'.cell? ⟨w.heap.size, 6, none⟩ = some (.int .i64 16)) (go_keep)
      (first | (go_at_call 41; refine (plines3 _).mono ?_; rintro e w' ⟨rfl, rfl⟩))
    have z0 : w2.cell? ⟨w.heap.size + 1, 0, none⟩ = some (.int .i64 0) := hZ2.cell 0
    have z1 : w2.cell? ⟨w.heap.size + 1, 1, none⟩ = some (.int .i64 0) := hZ2.cell 1
    have z2 : w2.cell? ⟨w.heap.size + 1, 2, none⟩ = some (.int .i64 0) := hZ2.cell 2
    have z3 : w2.cell? ⟨w.heap.size + 1, 3, none⟩ = some (.int .i64 0) := hZ2.cell 3
    have hl6 := hZ2.lt
    have z4 := hZ2.free 0
    have z5 := hZ2.free 1
    have z6 := hZ2.free 2
    have z7 := hZ2.free 3
    go_wp2_with fail
    refine bodyPost_ret (v := .tuple #[.agg #[.int .i64 0, .int .i64 0, .int .i64 0, .int .i64 0], .int .i64 1]) ?_ rfl ⟨rfl, by (repeat (first | with_reducible exact Below.refl _ _ | with_reducible assumption | with_reducible refine below_drewN ?_ _ | with_reducible refine Below.drew ?_ | with_reducible refine Below.alloc ?_ (by first | omega | (simp; omega) | simp) _ | with_reducible refine Below.setCell ?_ (by first | omega | (simp; omega) | simp) _))⟩
    simp [results, Tryz.results37, go_sem, *]
end Go.Proofs.YtckamjbdogpacaaGreatDoor

namespace Go.Proofs.YtckamjbdogpacaaGreatDoor
open Go.RowKit

set_option maxRecDepth 100000 in
set_option maxHeartbeats 1000000 in
theorem Block24 (w : World) (g : Nat) (hA : LdsM w g 112 4) (hd : Hd w) (hv kd gn : Int) (hH : LdsM w g 192 hv) (h0 : 0 ≤ hv) (h1 : hv < 134217728) (h2 : hv / 16 % 8 ≤ 4) (hkd : hv % 16 = kd) (hgn : hv / 128 % 1048576 = gn)
    (hpr : ∀ W, Hd W → Calls Tryz.prog 72 #[.int .i64 hv, .int .i64 3] W fun e w' => e = .returned (.bool true) ∧ Below W.heap.size W w') :
    Calls Tryz.prog 18 #[.pointer (some ⟨g, 0, none⟩), .agg #[.int .i64 64, .int .i64 2, .int .i64 8, .int .i64 10, .int .i64 4, .int .i64 14, .int .i64 16, .int .i64 3], .int .i64 24] w
      fun e w' => e = .returned (.tuple #[.agg #[.int .i64 24, .int .i64 3, .int .i64 kd, .int .i64 gn], .int .i64 0]) ∧ Below w.heap.size w w' := by
  have HK := Lib.hid hkd
  have HG := Lib.hid hgn
  clear hkd hgn
  go_enter Tryz.func18, Tryz.ntmps18
  go_wp2_with fail
  generalize hwn : (w.alloc (.cells #[.int .i64 64, .int .i64 2, .int .i64 8, .int .i64 10, .int .i64 4, .int .i64 14, .int .i64 16, .int .i64 3] 29)).alloc (.cells #[.int .i64 0, .int .i64 0, .int .i64 0, .int .i64 0] 43) = wn
  have hZn : Cl wn (w.heap.size + 1) 43 #[.int .i64 0, .int .i64 0, .int .i64 0, .int .i64 0] := by rw [← hwn]; exact Cl.new_ _ _ _ _ (by simp)
  have hAn : Below w.heap.size w wn := by rw [← hwn]; (repeat (first | with_reducible exact Below.refl _ _ | with_reducible assumption | with_reducible refine below_drewN ?_ _ | with_reducible refine Below.drew ?_ | with_reducible refine Below.alloc ?_ (by first | omega | (simp; omega) | simp) _ | with_reducible refine Below.setCell ?_ (by first | omega | (simp; omega) | simp) _))
  clear hwn
  refine (block24M _ g (hA.below hAn) (hd.below hAn) hv kd gn (hH.below hAn) h0 h1 h2 HK.out HG.out hpr).mono ?_
  rintro e w1 ⟨rfl, hb1⟩
  have hB : Below w.heap.size w w1 := Below.trans hAn (hb1.mono hAn.size)
  have hZ6 := hZn.below hb1 hZn.lt
  clear hb1 hpr hA hH hd hZn hAn
  have z0 : w1.cell? ⟨w.heap.size + 1, 0, none⟩ = some (.int .i64 0) := hZ6.cell 0
  have z1 : w1.cell? ⟨w.heap.size + 1, 1, none⟩ = some (.int .i64 0) := hZ6.cell 1
  have z2 : w1.cell? ⟨w.heap.size + 1, 2, none⟩ = some (.int .i64 0) := hZ6.cell 2
  have z3 : w1.cell? ⟨w.heap.size + 1, 3, none⟩ = some (.int .i64 0) := hZ6.cell 3
  have hl6 := hZ6.lt
  have z4 := hZ6.free 0
  have z5 := hZ6.free 1
  have z6 := hZ6.free 2
  have z7 := hZ6.free 3
  go_wp2_with fail
  refine bodyPost_ret (v := .tuple #[.agg #[.int .i64 24, .int .i64 3, .int .i64 kd, .int .i64 gn], .int .i64 0]) ?_ rfl ⟨rfl, by (repeat (first | with_reducible exact Below.refl _ _ | with_reducible assumption | with_reducible refine below_drewN ?_ _ | with_reducible refine Below.drew ?_ | with_reducible refine Below.alloc ?_ (by first | omega | (simp; omega) | simp) _ | with_reducible refine Below.setCell ?_ (by first | omega | (simp; omega) | simp) _))⟩
  simp [results, Tryz.results18, go_sem, *]
set_option maxRecDepth 100000 in
set_option maxHeartbeats 1000000 in
theorem Block16 (w : World) (g : Nat) (hA : LdsM w g 112 4) (hd : Hd w) (hv kd gn : Int) (hH : LdsM w g 128 hv) (h0 : 0 ≤ hv) (h1 : hv < 134217728) (h2 : hv / 16 % 8 ≤ 4) (hkd : hv % 16 = kd) (hgn : hv / 128 % 1048576 = gn)
    (hpr : ∀ W, Hd W → Calls Tryz.prog 72 #[.int .i64 hv, .int .i64 3] W fun e w' => e = .returned (.bool true) ∧ Below W.heap.size W w') :
    Calls Tryz.prog 18 #[.pointer (some ⟨g, 0, none⟩), .agg #[.int .i64 64, .int .i64 2, .int .i64 8, .int .i64 10, .int .i64 4, .int .i64 14, .int .i64 16, .int .i64 3], .int .i64 16] w
      fun e w' => e = .returned (.tuple #[.agg #[.int .i64 16, .int .i64 3, .int .i64 kd, .int .i64 gn], .int .i64 0]) ∧ Below w.heap.size w w' := by
  have HK := Lib.hid hkd
  have HG := Lib.hid hgn
  clear hkd hgn
  go_enter Tryz.func18, Tryz.ntmps18
  go_wp2_with fail
  generalize hwn : (w.alloc (.cells #[.int .i64 64, .int .i64 2, .int .i64 8, .int .i64 10, .int .i64 4, .int .i64 14, .int .i64 16, .int .i64 3] 29)).alloc (.cells #[.int .i64 0, .int .i64 0, .int .i64 0, .int .i64 0] 43) = wn
  have hZn : Cl wn (w.heap.size + 1) 43 #[.int .i64 0, .int .i64 0, .int .i64 0, .int .i64 0] := by rw [← hwn]; exact Cl.new_ _ _ _ _ (by simp)
  have hAn : Below w.heap.size w wn := by rw [← hwn]; (repeat (first | with_reducible exact Below.refl _ _ | with_reducible assumption | with_reducible refine below_drewN ?_ _ | with_reducible refine Below.drew ?_ | with_reducible refine Below.alloc ?_ (by first | omega | (simp; omega) | simp) _ | with_reducible refine Below.setCell ?_ (by first | omega | (simp; omega) | simp) _))
  clear hwn
  refine (block16M _ g (hA.below hAn) (hd.below hAn) hv kd gn (hH.below hAn) h0 h1 h2 HK.out HG.out hpr).mono ?_
  rintro e w1 ⟨rfl, hb1⟩
  have hB : Below w.heap.size w w1 := Below.trans hAn (hb1.mono hAn.size)
  have hZ6 := hZn.below hb1 hZn.lt
  clear hb1 hpr hA hH hd hZn hAn
  have z0 : w1.cell? ⟨w.heap.size + 1, 0, none⟩ = some (.int .i64 0) := hZ6.cell 0
  have z1 : w1.cell? ⟨w.heap.size + 1, 1, none⟩ = some (.int .i64 0) := hZ6.cell 1
  have z2 : w1.cell? ⟨w.heap.size + 1, 2, none⟩ = some (.int .i64 0) := hZ6.cell 2
  have z3 : w1.cell? ⟨w.heap.size + 1, 3, none⟩ = some (.int .i64 0) := hZ6.cell 3
  have hl6 := hZ6.lt
  have z4 := hZ6.free 0
  have z5 := hZ6.free 1
  have z6 := hZ6.free 2
  have z7 := hZ6.free 3
  go_wp2_with fail
  refine bodyPost_ret (v := .tuple #[.agg #[.int .i64 16, .int .i64 3, .int .i64 kd, .int .i64 gn], .int .i64 0]) ?_ rfl ⟨rfl, by (repeat (first | with_reducible exact Below.refl _ _ | with_reducible assumption | with_reducible refine below_drewN ?_ _ | with_reducible refine Below.drew ?_ | with_reducible refine Below.alloc ?_ (by first | omega | (simp; omega) | simp) _ | with_reducible refine Below.setCell ?_ (by first | omega | (simp; omega) | simp) _))⟩
  simp [results, Tryz.results18, go_sem, *]

/-- The table of the parts of pointers, as the program lays it. -/
def Pt (w : World) : Prop := w.cell? ⟨0, 0, none⟩ = some (.int .i64 0) ∧ w.cell? ⟨0, 1, none⟩ = some (.int .i64 12) ∧ w.cell? ⟨0, 2, none⟩ = some (.int .i64 12) ∧
  w.cell? ⟨0, 3, none⟩ = some (.int .i64 20)
theorem Pt.lt {w : World} (h : Pt w) : 0 < w.heap.size := World.block_lt_of_cell? w _ h.1
theorem Pt.below {w w' : World} (h : Pt w) (hb : Below w.heap.size w w') : Pt w' := by
  have hl := h.lt
  obtain ⟨h0, h1, h2, h3⟩ := h
  exact ⟨(hb.cell hl).trans h0, (hb.cell hl).trans h1, (hb.cell hl).trans h2, (hb.cell hl).trans h3⟩

set_option maxHeartbeats 400000 in
theorem of_ptr8216_0 (w : World) (q : Nat) (hq : w.cell? ⟨q, 0, none⟩ = some (.int .i64 8216)) :
    Calls Tryz.prog 95 #[.agg #[.int .i64 0, .int .i64 12], .pointer (some ⟨q, 0, none⟩)] w fun e w' => e = .returned (.int .i64 24) ∧ Below w.heap.size w w' := by
  have hpl : q < w.heap.size := World.block_lt_of_cell? w _ hq
  have hL : bits .and .i64 8216 4095 = 24 := by decide
  go_enter Tryz.func95, Tryz.ntmps95
  go_wp2
  go_quiet (fail)
  go_wp2
  go_ret
  exact ⟨rfl, by (repeat (first | with_reducible exact Below.refl _ _ | with_reducible assumption | with_reducible refine below_drewN ?_ _ | with_reducible refine Below.drew ?_ | with_reducible refine Below.alloc ?_ (by first | omega | (simp; omega) | simp) _ | with_reducible refine Below.setCell ?_ (by first | omega | (simp; omega) | simp) _))⟩
set_option maxHeartbeats 400000 in
theorem of_ptr4120_0 (w : World) (q : Nat) (hq : w.cell? ⟨q, 0, none⟩ = some (.int .i64 4120)) :
    Calls Tryz.prog 95 #[.agg #[.int .i64 0, .int .i64 12], .pointer (some ⟨q, 0, none⟩)] w fun e w' => e = .returned (.int .i64 24) ∧ Below w.heap.size w w' := by
  have hpl : q < w.heap.size := World.block_lt_of_cell? w _ hq
  have hL : bits .and .i64 4120 4095 = 24 := by decide
  go_enter Tryz.func95, Tryz.ntmps95
  go_wp2
  go_quiet (fail)
  go_wp2
  go_ret
  exact ⟨rfl, by (repeat (first | with_reducible exact Below.refl _ _ | with_reducible assumption | with_reducible refine below_drewN ?_ _ | with_reducible refine Below.drew ?_ | with_reducible refine Below.alloc ?_ (by first | omega | (simp; omega) | simp) _ | with_reducible refine Below.setCell ?_ (by first | omega | (simp; omega) | simp) _))⟩
set_option maxHeartbeats 400000 in
theorem of_ptr8217_0 (w : World) (q : Nat) (hq : w.cell? ⟨q, 0, none⟩ = some (.int .i64 8217)) :
    Calls Tryz.prog 95 #[.agg #[.int .i64 0, .int .i64 12], .pointer (some ⟨q, 0, none⟩)] w fun e w' => e = .returned (.int .i64 25) ∧ Below w.heap.size w w' := by
  have hpl : q < w.heap.size := World.block_lt_of_cell? w _ hq
  have hL : bits .and .i64 8217 4095 = 25 := by decide
  go_enter Tryz.func95, Tryz.ntmps95
  go_wp2
  go_quiet (fail)
  go_wp2
  go_ret
  exact ⟨rfl, by (repeat (first | with_reducible exact Below.refl _ _ | with_reducible assumption | with_reducible refine below_drewN ?_ _ | with_reducible refine Below.drew ?_ | with_reducible refine Below.alloc ?_ (by first | omega | (simp; omega) | simp) _ | with_reducible refine Below.setCell ?_ (by first | omega | (simp; omega) | simp) _))⟩
set_option maxHeartbeats 400000 in
theorem of_ptr8216_12 (w : World) (q : Nat) (hq : w.cell? ⟨q, 0, none⟩ = some (.int .i64 8216)) :
    Calls Tryz.prog 95 #[.agg #[.int .i64 12, .int .i64 20], .pointer (some ⟨q, 0, none⟩)] w fun e w' => e = .returned (.int .i64 2) ∧ Below w.heap.size w w' := by
  have hpl : q < w.heap.size := World.block_lt_of_cell? w _ hq
  have hL : bits .and .i64 2 1048575 = 2 := by decide
  go_enter Tryz.func95, Tryz.ntmps95
  go_wp2
  go_quiet (fail)
  go_wp2
  go_ret
  exact ⟨rfl, by (repeat (first | with_reducible exact Below.refl _ _ | with_reducible assumption | with_reducible refine below_drewN ?_ _ | with_reducible refine Below.drew ?_ | with_reducible refine Below.alloc ?_ (by first | omega | (simp; omega) | simp) _ | with_reducible refine Below.setCell ?_ (by first | omega | (simp; omega) | simp) _))⟩
set_option maxHeartbeats 400000 in
theorem of_ptr4120_12 (w : World) (q : Nat) (hq : w.cell? ⟨q, 0, none⟩ = some (.int .i64 4120)) :
    Calls Tryz.prog 95 #[.agg #[.int .i64 12, .int .i64 20], .pointer (some ⟨q, 0, none⟩)] w fun e w' => e = .returned (.int .i64 1) ∧ Below w.heap.size w w' := by
  have hpl : q < w.heap.size := World.block_lt_of_cell? w _ hq
  have hL : bits .and .i64 1 1048575 = 1 := by decide
  go_enter Tryz.func95, Tryz.ntmps95
  go_wp2
  go_quiet (fail)
  go_wp2
  go_ret
  exact ⟨rfl, by (repeat (first | with_reducible exact Below.refl _ _ | with_reducible assumption | with_reducible refine below_drewN ?_ _ | with_reducible refine Below.drew ?_ | with_reducible refine Below.alloc ?_ (by first | omega | (simp; omega) | simp) _ | with_reducible refine Below.setCell ?_ (by first | omega | (simp; omega) | simp) _))⟩
set_option maxHeartbeats 400000 in
theorem of_ptr8217_12 (w : World) (q : Nat) (hq : w.cell? ⟨q, 0, none⟩ = some (.int .i64 8217)) :
    Calls Tryz.prog 95 #[.agg #[.int .i64 12, .int .i64 20], .pointer (some ⟨q, 0, none⟩)] w fun e w' => e = .returned (.int .i64 2) ∧ Below w.heap.size w w' := by
  have hpl : q < w.heap.size := World.block_lt_of_cell? w _ hq
  have hL : bits .and .i64 2 1048575 = 2 := by decide
  go_enter Tryz.func95, Tryz.ntmps95
  go_wp2
  go_quiet (fail)
  go_wp2
  go_ret
  exact ⟨rfl, by (repeat (first | with_reducible exact Below.refl _ _ | with_reducible assumption | with_reducible refine below_drewN ?_ _ | with_reducible refine Below.drew ?_ | with_reducible refine Below.alloc ?_ (by first | omega | (simp; omega) | simp) _ | with_reducible refine Below.setCell ?_ (by first | omega | (simp; omega) | simp) _))⟩
end Go.Proofs.YtckamjbdogpacaaGreatDoor
