/-
  class.Block through a memory; pointer.Right, Line, Gen at three pointers.
-/
import Derived.Test.YtcoeoggoaiebeaaDoorBlkB
namespace Go.Proofs.YtcoeoggoaiebeaaDoor
open Go.RowKit

set_option maxRecDepth 100000 in
set_option maxHeartbeats 1000000 in
theorem Block24 (w : World) (g : Nat) (hA : LdsM w g 112 4) (hd : Hd w) (hv kd gn : Int) (hH : LdsM w g 192 hv) (h0 : 0 ≤ hv) (h1 : hv < 134217728) (h2 : hv / 16 % 8 ≤ 4) (hkd : hv % 16 = kd) (hgn : hv / 128 % 1048576 = gn)
    (hpr : ∀ W, Hd W → Calls Tryd.prog 68 #[.int .i64 hv, .int .i64 3] W fun e w' => e = .returned (.bool true) ∧ Below W.heap.size W w') :
    Calls Tryd.prog 28 #[.pointer (some ⟨g, 0, none⟩), .agg #[.int .i64 64, .int .i64 2, .int .i64 8, .int .i64 10, .int .i64 4, .int .i64 14, .int .i64 16, .int .i64 3], .int .i64 24] w
      fun e w' => e = .returned (.tuple #[.agg #[.int .i64 24, .int .i64 3, .int .i64 kd, .int .i64 gn], .int .i64 0]) ∧ Below w.heap.size w w' := by
  have HK := Lib.hid hkd
  have HG := Lib.hid hgn
  clear hkd hgn
  go_enter Tryd.func28, Tryd.ntmps28
  go_wp2_with fail
  generalize hwn : (w.alloc (.cells #[.int .i64 64, .int .i64 2, .int .i64 8, .int .i64 10, .int .i64 4, .int .i64 14, .int .i64 16, .int .i64 3] 31)).alloc (.cells #[.int .i64 0, .int .i64 0, .int .i64 0, .int .i64 0] 53) = wn
  have hZn : Cl wn (w.heap.size + 1) 53 #[.int .i64 0, .int .i64 0, .int .i64 0, .int .i64 0] := by rw [← hwn]; exact Cl.new_ _ _ _ _ (by simp)
  have hAn : Below w.heap.size w wn := by rw [← hwn]; (repeat (first | with_reducible exact Below.refl _ _ | with_reducible assumption | with_reducible refine below_drewN ?_ _ | with_reducible refine Below.drew ?_ | with_reducible refine Below.alloc ?_ (by first | omega | (simp; omega) | simp) _ | with_reducible refine Below.setCell ?_ (by first | omega | (simp; omega) | simp) _))
  clear hwn
  refine (block24M _ g (hA.below hAn) (hd.below hAn) hv kd gn (hH.below hAn) h0 h1 h2 HK.out HG.out hpr).mono ?_
  rintro e w1 ⟨rfl, hb1⟩
  have hB : Below w.heap.size w w1 := Below.trans hAn (hb1.mono hAn.size)
  have hZ6 := hZn.below hb1 hZn.lt
  clear hb1 hpr hA hH hd hZn hAn
  have z0 : w1.cell? ⟨w.heap.size + 1, 0, none⟩ = some (.int .i64 0) := hZ6.cell 0
  have z1 : w1.cell? ⟨w.heap.size + 1, 1, none⟩ = some (.int .i64 0) := hZ6.cell 1
  have z2 : w1.cell? ⟨w.heap.size + 1, 2, none⟩ = some (.int .i64 0) := hZ6.cell 2
  have z3 : w1.cell? ⟨w.heap.size + 1, 3, none⟩ = some (.int .i64 0) := hZ6.cell 3
  have hl6 := hZ6.lt
  have z4 := hZ6.free 0
  have z5 := hZ6.free 1
  have z6 := hZ6.free 2
  have z7 := hZ6.free 3
  go_wp2_with fail
  refine bodyPost_ret (v := .tuple #[.agg #[.int .i64 24, .int .i64 3, .int .i64 kd, .int .i64 gn], .int .i64 0]) ?_ rfl ⟨rfl, by (repeat (first | with_reducible exact Below.refl _ _ | with_reducible assumption | with_reducible refine below_drewN ?_ _ | with_reducible refine Below.drew ?_ | with_reducible refine Below.alloc ?_ (by first | omega | (simp; omega) | simp) _ | with_reducible refine Below.setCell ?_ (by first | omega | (simp; omega) | simp) _))⟩
  simp [results, Tryd.results28, go_sem, *]
set_option maxRecDepth 100000 in
set_option maxHeartbeats 1000000 in
theorem Block16 (w : World) (g : Nat) (hA : LdsM w g 112 4) (hd : Hd w) (hv kd gn : Int) (hH : LdsM w g 128 hv) (h0 : 0 ≤ hv) (h1 : hv < 134217728) (h2 : hv / 16 % 8 ≤ 4) (hkd : hv % 16 = kd) (hgn : hv / 128 % 1048576 = gn)
    (hpr : ∀ W, Hd W → Calls Tryd.prog 68 #[.int .i64 hv, .int .i64 3] W fun e w' => e = .returned (.bool true) ∧ Below W.heap.size W w') :
    Calls Tryd.prog 28 #[.pointer (some ⟨g, 0, none⟩), .agg #[.int .i64 64, .int .i64 2, .int .i64 8, .int .i64 10, .int .i64 4, .int .i64 14, .int .i64 16, .int .i64 3], .int .i64 16] w
      fun e w' => e = .returned (.tuple #[.agg #[.int .i64 16, .int .i64 3, .int .i64 kd, .int .i64 gn], .int .i64 0]) ∧ Below w.heap.size w w' := by
  have HK := Lib.hid hkd
  have HG := Lib.hid hgn
  clear hkd hgn
  go_enter Tryd.func28, Tryd.ntmps28
  go_wp2_with fail
  generalize hwn : (w.alloc (.cells #[.int .i64 64, .int .i64 2, .int .i64 8, .int .i64 10, .int .i64 4, .int .i64 14, .int .i64 16, .int .i64 3] 31)).alloc (.cells #[.int .i64 0, .int .i64 0, .int .i64 0, .int .i64 0] 53) = wn
  have hZn : Cl wn (w.heap.size + 1) 53 #[.int .i64 0, .int .i64 0, .int .i64 0, .int .i64 0] := by rw [← hwn]; exact Cl.new_ _ _ _ _ (by simp)
  have hAn : Below w.heap.size w wn := by rw [← hwn]; (repeat (first | with_reducible exact Below.refl _ _ | with_reducible assumption | with_reducible refine below_drewN ?_ _ | with_reducible refine Below.drew ?_ | with_reducible refine Below.alloc ?_ (by first | omega | (simp; omega) | simp) _ | with_reducible refine Below.setCell ?_ (by first | omega | (simp; omega) | simp) _))
  clear hwn
  refine (block16M _ g (hA.below hAn) (hd.below hAn) hv kd gn (hH.below hAn) h0 h1 h2 HK.out HG.out hpr).mono ?_
  rintro e w1 ⟨rfl, hb1⟩
  have hB : Below w.heap.size w w1 := Below.trans hAn (hb1.mono hAn.size)
  have hZ6 := hZn.below hb1 hZn.lt
  clear hb1 hpr hA hH hd hZn hAn
  have z0 : w1.cell? ⟨w.heap.size + 1, 0, none⟩ = some (.int .i64 0) := hZ6.cell 0
  have z1 : w1.cell? ⟨w.heap.size + 1, 1, none⟩ = some (.int .i64 0) := hZ6.cell 1
  have z2 : w1.cell? ⟨w.heap.size + 1, 2, none⟩ = some (.int .i64 0) := hZ6.cell 2
  have z3 : w1.cell? ⟨w.heap.size + 1, 3, none⟩ = some (.int .i64 0) := hZ6.cell 3
  have hl6 := hZ6.lt
  have z4 := hZ6.free 0
  have z5 := hZ6.free 1
  have z6 := hZ6.free 2
  have z7 := hZ6.free 3
  go_wp2_with fail
  refine bodyPost_ret (v := .tuple #[.agg #[.int .i64 16, .int .i64 3, .int .i64 kd, .int .i64 gn], .int .i64 0]) ?_ rfl ⟨rfl, by (repeat (first | with_reducible exact Below.refl _ _ | with_reducible assumption | with_reducible refine below_drewN ?_ _ | with_reducible refine Below.drew ?_ | with_reducible refine Below.alloc ?_ (by first | omega | (simp; omega) | simp) _ | with_reducible refine Below.setCell ?_ (by first | omega | (simp; omega) | simp) _))⟩
  simp [results, Tryd.results28, go_sem, *]

/-- The table of the parts of pointers, as the program lays it. -/
def Pt (w : World) : Prop := w.cell? ⟨0, 0, none⟩ = some (.int .i64 0) ∧ w.cell? ⟨0, 1, none⟩ = some (.int .i64 12) ∧ w.cell? ⟨0, 2, none⟩ = some (.int .i64 12) ∧
  w.cell? ⟨0, 3, none⟩ = some (.int .i64 20)
theorem Pt.lt {w : World} (h : Pt w) : 0 < w.heap.size := World.block_lt_of_cell? w _ h.1
theorem Pt.below {w w' : World} (h : Pt w) (hb : Below w.heap.size w w') : Pt w' := by
  have hl := h.lt
  obtain ⟨h0, h1, h2, h3⟩ := h
  exact ⟨(hb.cell hl).trans h0, (hb.cell hl).trans h1, (hb.cell hl).trans h2, (hb.cell hl).trans h3⟩

set_option maxHeartbeats 400000 in
theorem of_ptr8216_0 (w : World) (q : Nat) (hq : w.cell? ⟨q, 0, none⟩ = some (.int .i64 8216)) :
    Calls Tryd.prog 89 #[.agg #[.int .i64 0, .int .i64 12], .pointer (some ⟨q, 0, none⟩)] w fun e w' => e = .returned (.int .i64 24) ∧ Below w.heap.size w w' := by
  have hpl : q < w.heap.size := World.block_lt_of_cell? w _ hq
  have hL : bits .and .i64 8216 4095 = 24 := by decide
  go_enter Tryd.func89, Tryd.ntmps89
  go_wp2
  go_quiet (fail)
  go_wp2
  go_ret
  exact ⟨rfl, by (repeat (first | with_reducible exact Below.refl _ _ | with_reducible assumption | with_reducible refine below_drewN ?_ _ | with_reducible refine Below.drew ?_ | with_reducible refine Below.alloc ?_ (by first | omega | (simp; omega) | simp) _ | with_reducible refine Below.setCell ?_ (by first | omega | (simp; omega) | simp) _))⟩
set_option maxHeartbeats 400000 in
theorem of_ptr4120_0 (w : World) (q : Nat) (hq : w.cell? ⟨q, 0, none⟩ = some (.int .i64 4120)) :
    Calls Tryd.prog 89 #[.agg #[.int .i64 0, .int .i64 12], .pointer (some ⟨q, 0, none⟩)] w fun e w' => e = .returned (.int .i64 24) ∧ Below w.heap.size w w' := by
  have hpl : q < w.heap.size := World.block_lt_of_cell? w _ hq
  have hL : bits .and .i64 4120 4095 = 24 := by decide
  go_enter Tryd.func89, Tryd.ntmps89
  go_wp2
  go_quiet (fail)
  go_wp2
  go_ret
  exact ⟨rfl, by (repeat (first | with_reducible exact Below.refl _ _ | with_reducible assumption | with_reducible refine below_drewN ?_ _ | with_reducible refine Below.drew ?_ | with_reducible refine Below.alloc ?_ (by first | omega | (simp; omega) | simp) _ | with_reducible refine Below.setCell ?_ (by first | omega | (simp; omega) | simp) _))⟩
set_option maxHeartbeats 400000 in
theorem of_ptr8217_0 (w : World) (q : Nat) (hq : w.cell? ⟨q, 0, none⟩ = some (.int .i64 8217)) :
    Calls Tryd.prog 89 #[.agg #[.int .i64 0, .int .i64 12], .pointer (some ⟨q, 0, none⟩)] w fun e w' => e = .returned (.int .i64 25) ∧ Below w.heap.size w w' := by
  have hpl : q < w.heap.size := World.block_lt_of_cell? w _ hq
  have hL : bits .and .i64 8217 4095 = 25 := by decide
  go_enter Tryd.func89, Tryd.ntmps89
  go_wp2
  go_quiet (fail)
  go_wp2
  go_ret
  exact ⟨rfl, by (repeat (first | with_reducible exact Below.refl _ _ | with_reducible assumption | with_reducible refine below_drewN ?_ _ | with_reducible refine Below.drew ?_ | with_reducible refine Below.alloc ?_ (by first | omega | (simp; omega) | simp) _ | with_reducible refine Below.setCell ?_ (by first | omega | (simp; omega) | simp) _))⟩
set_option maxHeartbeats 400000 in
theorem of_ptr8216_12 (w : World) (q : Nat) (hq : w.cell? ⟨q, 0, none⟩ = some (.int .i64 8216)) :
    Calls Tryd.prog 89 #[.agg #[.int .i64 12, .int .i64 20], .pointer (some ⟨q, 0, none⟩)] w fun e w' => e = .returned (.int .i64 2) ∧ Below w.heap.size w w' := by
  have hpl : q < w.heap.size := World.block_lt_of_cell? w _ hq
  have hL : bits .and .i64 2 1048575 = 2 := by decide
  go_enter Tryd.func89, Tryd.ntmps89
  go_wp2
  go_quiet (fail)
  go_wp2
  go_ret
  exact ⟨rfl, by (repeat (first | with_reducible exact Below.refl _ _ | with_reducible assumption | with_reducible refine below_drewN ?_ _ | with_reducible refine Below.drew ?_ | with_reducible refine Below.alloc ?_ (by first | omega | (simp; omega) | simp) _ | with_reducible refine Below.setCell ?_ (by first | omega | (simp; omega) | simp) _))⟩
set_option maxHeartbeats 400000 in
theorem of_ptr4120_12 (w : World) (q : Nat) (hq : w.cell? ⟨q, 0, none⟩ = some (.int .i64 4120)) :
    Calls Tryd.prog 89 #[.agg #[.int .i64 12, .int .i64 20], .pointer (some ⟨q, 0, none⟩)] w fun e w' => e = .returned (.int .i64 1) ∧ Below w.heap.size w w' := by
  have hpl : q < w.heap.size := World.block_lt_of_cell? w _ hq
  have hL : bits .and .i64 1 1048575 = 1 := by decide
  go_enter Tryd.func89, Tryd.ntmps89
  go_wp2
  go_quiet (fail)
  go_wp2
  go_ret
  exact ⟨rfl, by (repeat (first | with_reducible exact Below.refl _ _ | with_reducible assumption | with_reducible refine below_drewN ?_ _ | with_reducible refine Below.drew ?_ | with_reducible refine Below.alloc ?_ (by first | omega | (simp; omega) | simp) _ | with_reducible refine Below.setCell ?_ (by first | omega | (simp; omega) | simp) _))⟩
set_option maxHeartbeats 400000 in
theorem of_ptr8217_12 (w : World) (q : Nat) (hq : w.cell? ⟨q, 0, none⟩ = some (.int .i64 8217)) :
    Calls Tryd.prog 89 #[.agg #[.int .i64 12, .int .i64 20], .pointer (some ⟨q, 0, none⟩)] w fun e w' => e = .returned (.int .i64 2) ∧ Below w.heap.size w w' := by
  have hpl : q < w.heap.size := World.block_lt_of_cell? w _ hq
  have hL : bits .and .i64 2 1048575 = 2 := by decide
  go_enter Tryd.func89, Tryd.ntmps89
  go_wp2
  go_quiet (fail)
  go_wp2
  go_ret
  exact ⟨rfl, by (repeat (first | with_reducible exact Below.refl _ _ | with_reducible assumption | with_reducible refine below_drewN ?_ _ | with_reducible refine Below.drew ?_ | with_reducible refine Below.alloc ?_ (by first | omega | (simp; omega) | simp) _ | with_reducible refine Below.setCell ?_ (by first | omega | (simp; omega) | simp) _))⟩
end Go.Proofs.YtcoeoggoaiebeaaDoor
