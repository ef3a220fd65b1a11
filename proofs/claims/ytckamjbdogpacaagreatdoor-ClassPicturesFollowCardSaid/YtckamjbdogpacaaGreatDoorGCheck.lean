/-
  code.Check of any line of words, at any table: a function of table, words and code.
-/
import Derived.Test.YtckamjbdogpacaaGreatDoorGPos
namespace Go.Proofs.YtckamjbdogpacaaGreatDoor
open Go.RowKit Go.Shelf
set_option linter.unusedSimpArgs false
set_option linter.unusedVariables false
attribute [local go_sem] Oper.semAt_some

def CkTo (T f : Nat → Int) (c st wd bt : Int) : Prop := ∀ w : World, Tb w T → Db w → Calls Tryz.prog 81 #[.agg #[.int .i64 (f 0), .int .i64 (f 1), .int .i64 (f 2), .int .i64 (f 3), .int .i64 (f 4), .int .i64 (f 5), .int .i64 (f 6), .int .i64 (f 7)], .int .i64 c] w fun e w' => e = .returned (.tuple #[.int .i64 st, .int .i64 wd, .int .i64 bt]) ∧ Below w.heap.size w w'

set_option maxRecDepth 100000 in
set_option maxHeartbeats 2000000 in
theorem check_bad (T f : Nat → Int) (c : Int) (hW : WIn f) (hc : okC c = false) : CkTo T f c 2 0 0 := by
  intro w hT hdb
  go_enter Tryz.func81, Tryz.ntmps81
  go_wp2_with fail
  refine (valid_calls _ f c hW).mono ?_
  rintro e w1 ⟨rfl, hb1⟩
  rw [hc]
  have hX := ((((Cl.new w 67 #[.int .i64 (f 0), .int .i64 (f 1), .int .i64 (f 2), .int .i64 (f 3), .int .i64 (f 4), .int .i64 (f 5), .int .i64 (f 6), .int .i64 (f 7)]).alloc _).alloc _).alloc _).below hb1 (by (first | omega | (simp; omega) | simp))
  have hZ0 := (((Cl.new_ (w.alloc (.cells #[.int .i64 (f 0), .int .i64 (f 1), .int .i64 (f 2), .int .i64 (f 3), .int .i64 (f 4), .int .i64 (f 5), .int .i64 (f 6), .int .i64 (f 7)] 67)) 3 #[.int .i64 0] (w.heap.size + 1) (by simp)).alloc (.cells #[.int .i64 0] 3)).alloc (.cells #[.int .i64 0] 3)).below hb1 (by (first | omega | (simp; omega) | simp))
  have hZ1 := ((Cl.new_ ((w.alloc (.cells #[.int .i64 (f 0), .int .i64 (f 1), .int .i64 (f 2), .int .i64 (f 3), .int .i64 (f 4), .int .i64 (f 5), .int .i64 (f 6), .int .i64 (f 7)] 67)).alloc (.cells #[.int .i64 0] 3)) 3 #[.int .i64 0] (w.heap.size + 2) (by simp)).alloc (.cells #[.int .i64 0] 3)).below hb1 (by simp)
  have hZ2 := (Cl.new_ (((w.alloc (.cells #[.int .i64 (f 0), .int .i64 (f 1), .int .i64 (f 2), .int .i64 (f 3), .int .i64 (f 4), .int .i64 (f 5), .int .i64 (f 6), .int .i64 (f 7)] 67)).alloc (.cells #[.int .i64 0] 3)).alloc (.cells #[.int .i64 0] 3)) 3 #[.int .i64 0] (w.heap.size + 3) (by simp)).below hb1 (by simp)
  have hB : Below w.heap.size w w1 := Below.trans (by (repeat (first | with_reducible exact Below.refl _ _ | with_reducible assumption | with_reducible refine below_drewN ?_ _ | with_reducible refine Below.drew ?_ | with_reducible refine Below.alloc ?_ (by first | omega | (simp; omega) | simp) _ | with_reducible refine Below.setCell ?_ (by first | omega | (simp; omega) | simp) _))) (hb1.mono (by (first | omega | (simp; omega) | simp)))
  clear hb1
  have l0 := hZ0.lt
  have l1 := hZ1.lt
  have l2 := hZ2.lt
  have z0 := hZ0.cell 0
  have z1 := hZ1.cell 0
  have z2 := hZ2.cell 0
  have f0 := hZ0.free 0
  have f1 := hZ1.free 0
  have f2 := hZ2.free 0
  simp only [List.getElem?_toArray, List.getElem?_cons_zero] at z0 z1 z2
  go_wp2_with fail
  refine bodyPost_ret (v := .tuple #[.int .i64 2, .int .i64 0, .int .i64 0]) ?_ rfl ⟨rfl, ?_⟩
  · simp [results, Tryz.results81, go_sem, *]
  · (repeat (first | with_reducible exact Below.refl _ _ | with_reducible assumption | with_reducible refine below_drewN ?_ _ | with_reducible refine Below.drew ?_ | with_reducible refine Below.alloc ?_ (by first | omega | (simp; omega) | simp) _ | with_reducible refine Below.setCell ?_ (by first | omega | (simp; omega) | simp) _))

set_option maxRecDepth 100000 in
set_option maxHeartbeats 4000000 in
theorem check_a (T f : Nat → Int) (c n s0 : Int) (oF : Int → Int) (hO : OnesOk oF) (hW : WIn f) (hc : okC c = true) (hS : sumT T f 8 = (s0, n)) (hn0 : 0 ≤ n) (hn1 : n ≤ 9000000000000)
    (bodd : ((n + oF (IntKind.u64.wrap c)) % 2 == 1) = false) (bs0 : (bits .xor .i64 s0 (bits .and .i64 c 511) == 0) = true) : CkTo T f c 0 0 0 := by
  intro w hT hdb
  have HS := Lib.hid (fun w => sum_calls w T f hW)
  rw [hS] at HS
  have ho1 := hO.1 (IntKind.u64.wrap c)
  have HO := Lib.hid hO.2
  clear hO hS
  go_enter Tryz.func81, Tryz.ntmps81
  go_wp2_with fail
  refine (valid_calls _ f c hW).mono ?_
  rintro e w1 ⟨rfl, hb1⟩
  rw [hc]
  have hX := ((((Cl.new w 67 #[.int .i64 (f 0), .int .i64 (f 1), .int .i64 (f 2), .int .i64 (f 3), .int .i64 (f 4), .int .i64 (f 5), .int .i64 (f 6), .int .i64 (f 7)]).alloc _).alloc _).alloc _).below hb1 (by (first | omega | (simp; omega) | simp))
  have hZ0 := (((Cl.new_ (w.alloc (.cells #[.int .i64 (f 0), .int .i64 (f 1), .int .i64 (f 2), .int .i64 (f 3), .int .i64 (f 4), .int .i64 (f 5), .int .i64 (f 6), .int .i64 (f 7)] 67)) 3 #[.int .i64 0] (w.heap.size + 1) (by simp)).alloc (.cells #[.int .i64 0] 3)).alloc (.cells #[.int .i64 0] 3)).below hb1 (by (first | omega | (simp; omega) | simp))
  have hZ1 := ((Cl.new_ ((w.alloc (.cells #[.int .i64 (f 0), .int .i64 (f 1), .int .i64 (f 2), .int .i64 (f 3), .int .i64 (f 4), .int .i64 (f 5), .int .i64 (f 6), .int .i64 (f 7)] 67)).alloc (.cells #[.int .i64 0] 3)) 3 #[.int .i64 0] (w.heap.size + 2) (by simp)).alloc (.cells #[.int .i64 0] 3)).below hb1 (by simp)
  have hZ2 := (Cl.new_ (((w.alloc (.cells #[.int .i64 (f 0), .int .i64 (f 1), .int .i64 (f 2), .int .i64 (f 3), .int .i64 (f 4), .int .i64 (f 5), .int .i64 (f 6), .int .i64 (f 7)] 67)).alloc (.cells #[.int .i64 0] 3)).alloc (.cells #[.int .i64 0] 3)) 3 #[.int .i64 0] (w.heap.size + 3) (by simp)).below hb1 (by simp)
  have hB : Below w.heap.size w w1 := Below.trans (by (repeat (first | with_reducible exact Below.refl _ _ | with_reducible assumption | with_reducible refine below_drewN ?_ _ | with_reducible refine Below.drew ?_ | with_reducible refine Below.alloc ?_ (by first | omega | (simp; omega) | simp) _ | with_reducible refine Below.setCell ?_ (by first | omega | (simp; omega) | simp) _))) (hb1.mono (by (first | omega | (simp; omega) | simp)))
  clear hb1
  obtain ⟨x0, x1, x2, x3, x4, x5, x6, x7⟩ := hX.has8'
  go_wp2_with fail
  refine (HS.out _ (hT.below hB) (hdb.below hB)).mono ?_
  rintro e w2 ⟨rfl, hb2⟩
  have hB2 := hB.trans (hb2.mono hB.size)
  replace hZ0 := hZ0.below hb2 hZ0.lt
  replace hZ1 := hZ1.below hb2 hZ1.lt
  replace hZ2 := hZ2.below hb2 hZ2.lt
  clear hb2 x0 x1 x2 x3 x4 x5 x6 x7 hX hB
  have l0 := hZ0.lt
  have l1 := hZ1.lt
  have l2 := hZ2.lt
  go_wp2_with fail
  refine (HO.out _ _).mono ?_
  rintro e w3 ⟨rfl, rfl⟩
  have z0 := hZ0.cell 0
  have z1 := hZ1.cell 0
  have z2 := hZ2.cell 0
  have f0 := hZ0.free 0
  have f1 := hZ1.free 0
  have f2 := hZ2.free 0
  simp only [List.getElem?_toArray, List.getElem?_cons_zero] at z0 z1 z2
  go_wp2_with fail
  refine bodyPost_ret (v := .tuple #[.int .i64 0, .int .i64 0, .int .i64 0]) ?_ rfl ⟨rfl, ?_⟩
  · simp [results, Tryz.results81, go_sem, *]
  · (repeat (first | with_reducible exact Below.refl _ _ | with_reducible assumption | with_reducible refine below_drewN ?_ _ | with_reducible refine Below.drew ?_ | with_reducible refine Below.alloc ?_ (by first | omega | (simp; omega) | simp) _ | with_reducible refine Below.setCell ?_ (by first | omega | (simp; omega) | simp) _))
set_option maxRecDepth 100000 in
set_option maxHeartbeats 4000000 in
theorem check_b (T f : Nat → Int) (c n s0 : Int) (oF : Int → Int) (hO : OnesOk oF) (hW : WIn f) (hc : okC c = true) (hS : sumT T f 8 = (s0, n)) (hn0 : 0 ≤ n) (hn1 : n ≤ 9000000000000)
    (bodd : ((n + oF (IntKind.u64.wrap c)) % 2 == 1) = false) (bs0 : (bits .xor .i64 s0 (bits .and .i64 c 511) == 0) = false) : CkTo T f c 2 0 0 := by
  intro w hT hdb
  have HS := Lib.hid (fun w => sum_calls w T f hW)
  rw [hS] at HS
  have ho1 := hO.1 (IntKind.u64.wrap c)
  have HO := Lib.hid hO.2
  clear hO hS
  go_enter Tryz.func81, Tryz.ntmps81
  go_wp2_with fail
  refine (valid_calls _ f c hW).mono ?_
  rintro e w1 ⟨rfl, hb1⟩
  rw [hc]
  have hX := ((((Cl.new w 67 #[.int .i64 (f 0), .int .i64 (f 1), .int .i64 (f 2), .int .i64 (f 3), .int .i64 (f 4), .int .i64 (f 5), .int .i64 (f 6), .int .i64 (f 7)]).alloc _).alloc _).alloc _).below hb1 (by (first | omega | (simp; omega) | simp))
  have hZ0 := (((Cl.new_ (w.alloc (.cells #[.int .i64 (f 0), .int .i64 (f 1), .int .i64 (f 2), .int .i64 (f 3), .int .i64 (f 4), .int .i64 (f 5), .int .i64 (f 6), .int .i64 (f 7)] 67)) 3 #[.int .i64 0] (w.heap.size + 1) (by simp)).alloc (.cells #[.int .i64 0] 3)).alloc (.cells #[.int .i64 0] 3)).below hb1 (by (first | omega | (simp; omega) | simp))
  have hZ1 := ((Cl.new_ ((w.alloc (.cells #[.int .i64 (f 0), .int .i64 (f 1), .int .i64 (f 2), .int .i64 (f 3), .int .i64 (f 4), .int .i64 (f 5), .int .i64 (f 6), .int .i64 (f 7)] 67)).alloc (.cells #[.int .i64 0] 3)) 3 #[.int .i64 0] (w.heap.size + 2) (by simp)).alloc (.cells #[.int .i64 0] 3)).below hb1 (by simp)
  have hZ2 := (Cl.new_ (((w.alloc (.cells #[.int .i64 (f 0), .int .i64 (f 1), .int .i64 (f 2), .int .i64 (f 3), .int .i64 (f 4), .int .i64 (f 5), .int .i64 (f 6), .int .i64 (f 7)] 67)).alloc (.cells #[.int .i64 0] 3)).alloc (.cells #[.int .i64 0] 3)) 3 #[.int .i64 0] (w.heap.size + 3) (by simp)).below hb1 (by simp)
  have hB : Below w.heap.size w w1 := Below.trans (by (repeat (first | with_reducible exact Below.refl _ _ | with_reducible assumption | with_reducible refine below_drewN ?_ _ | with_reducible refine Below.drew ?_ | with_reducible refine Below.alloc ?_ (by first | omega | (simp; omega) | simp) _ | with_reducible refine Below.setCell ?_ (by first | omega | (simp; omega) | simp) _))) (hb1.mono (by (first | omega | (simp; omega) | simp)))
  clear hb1
  obtain ⟨x0, x1, x2, x3, x4, x5, x6, x7⟩ := hX.has8'
  go_wp2_with fail
  refine (HS.out _ (hT.below hB) (hdb.below hB)).mono ?_
  rintro e w2 ⟨rfl, hb2⟩
  have hB2 := hB.trans (hb2.mono hB.size)
  replace hZ0 := hZ0.below hb2 hZ0.lt
  replace hZ1 := hZ1.below hb2 hZ1.lt
  replace hZ2 := hZ2.below hb2 hZ2.lt
  clear hb2 x0 x1 x2 x3 x4 x5 x6 x7 hX hB
  have l0 := hZ0.lt
  have l1 := hZ1.lt
  have l2 := hZ2.lt
  go_wp2_with fail
  refine (HO.out _ _).mono ?_
  rintro e w3 ⟨rfl, rfl⟩
  have z0 := hZ0.cell 0
  have z1 := hZ1.cell 0
  have z2 := hZ2.cell 0
  have f0 := hZ0.free 0
  have f1 := hZ1.free 0
  have f2 := hZ2.free 0
  simp only [List.getElem?_toArray, List.getElem?_cons_zero] at z0 z1 z2
  go_wp2_with fail
  refine bodyPost_ret (v := .tuple #[.int .i64 2, .int .i64 0, .int .i64 0]) ?_ rfl ⟨rfl, ?_⟩
  · simp [results, Tryz.results81, go_sem, *]
  · (repeat (first | with_reducible exact Below.refl _ _ | with_reducible assumption | with_reducible refine below_drewN ?_ _ | with_reducible refine Below.drew ?_ | with_reducible refine Below.alloc ?_ (by first | omega | (simp; omega) | simp) _ | with_reducible refine Below.setCell ?_ (by first | omega | (simp; omega) | simp) _))
set_option maxRecDepth 100000 in
set_option maxHeartbeats 4000000 in
theorem check_c (T f : Nat → Int) (c n s0 : Int) (oF : Int → Int) (hO : OnesOk oF) (hW : WIn f) (hc : okC c = true) (hS : sumT T f 8 = (s0, n)) (hn0 : 0 ≤ n) (hn1 : n ≤ 9000000000000)
    (bodd : ((n + oF (IntKind.u64.wrap c)) % 2 == 1) = true) (bs0 : (bits .xor .i64 s0 (bits .and .i64 c 511) == 0) = true) : CkTo T f c 1 8 9 := by
  intro w hT hdb
  have HS := Lib.hid (fun w => sum_calls w T f hW)
  rw [hS] at HS
  have ho1 := hO.1 (IntKind.u64.wrap c)
  have HO := Lib.hid hO.2
  clear hO hS
  go_enter Tryz.func81, Tryz.ntmps81
  go_wp2_with fail
  refine (valid_calls _ f c hW).mono ?_
  rintro e w1 ⟨rfl, hb1⟩
  rw [hc]
  have hX := ((((Cl.new w 67 #[.int .i64 (f 0), .int .i64 (f 1), .int .i64 (f 2), .int .i64 (f 3), .int .i64 (f 4), .int .i64 (f 5), .int .i64 (f 6), .int .i64 (f 7)]).alloc _).alloc _).alloc _).below hb1 (by (first | omega | (simp; omega) | simp))
  have hZ0 := (((Cl.new_ (w.alloc (.cells #[.int .i64 (f 0), .int .i64 (f 1), .int .i64 (f 2), .int .i64 (f 3), .int .i64 (f 4), .int .i64 (f 5), .int .i64 (f 6), .int .i64 (f 7)] 67)) 3 #[.int .i64 0] (w.heap.size + 1) (by simp)).alloc (.cells #[.int .i64 0] 3)).alloc (.cells #[.int .i64 0] 3)).below hb1 (by (first | omega | (simp; omega) | simp))
  have hZ1 := ((Cl.new_ ((w.alloc (.cells #[.int .i64 (f 0), .int .i64 (f 1), .int .i64 (f 2), .int .i64 (f 3), .int .i64 (f 4), .int .i64 (f 5), .int .i64 (f 6), .int .i64 (f 7)] 67)).alloc (.cells #[.int .i64 0] 3)) 3 #[.int .i64 0] (w.heap.size + 2) (by simp)).alloc (.cells #[.int .i64 0] 3)).below hb1 (by simp)
  have hZ2 := (Cl.new_ (((w.alloc (.cells #[.int .i64 (f 0), .int .i64 (f 1), .int .i64 (f 2), .int .i64 (f 3), .int .i64 (f 4), .int .i64 (f 5), .int .i64 (f 6), .int .i64 (f 7)] 67)).alloc (.cells #[.int .i64 0] 3)).alloc (.cells #[.int .i64 0] 3)) 3 #[.int .i64 0] (w.heap.size + 3) (by simp)).below hb1 (by simp)
  have hB : Below w.heap.size w w1 := Below.trans (by (repeat (first | with_reducible exact Below.refl _ _ | with_reducible assumption | with_reducible refine below_drewN ?_ _ | with_reducible refine Below.drew ?_ | with_reducible refine Below.alloc ?_ (by first | omega | (simp; omega) | simp) _ | with_reducible refine Below.setCell ?_ (by first | omega | (simp; omega) | simp) _))) (hb1.mono (by (first | omega | (simp; omega) | simp)))
  clear hb1
  obtain ⟨x0, x1, x2, x3, x4, x5, x6, x7⟩ := hX.has8'
  go_wp2_with fail
  refine (HS.out _ (hT.below hB) (hdb.below hB)).mono ?_
  rintro e w2 ⟨rfl, hb2⟩
  have hB2 := hB.trans (hb2.mono hB.size)
  replace hZ0 := hZ0.below hb2 hZ0.lt
  replace hZ1 := hZ1.below hb2 hZ1.lt
  replace hZ2 := hZ2.below hb2 hZ2.lt
  clear hb2 x0 x1 x2 x3 x4 x5 x6 x7 hX hB
  have l0 := hZ0.lt
  have l1 := hZ1.lt
  have l2 := hZ2.lt
  go_wp2_with fail
  refine (HO.out _ _).mono ?_
  rintro e w3 ⟨rfl, rfl⟩
  have z0 := hZ0.cell 0
  have z1 := hZ1.cell 0
  have z2 := hZ2.cell 0
  have f0 := hZ0.free 0
  have f1 := hZ1.free 0
  have f2 := hZ2.free 0
  simp only [List.getElem?_toArray, List.getElem?_cons_zero] at z0 z1 z2
  go_wp2_with fail
  refine bodyPost_ret (v := .tuple #[.int .i64 1, .int .i64 8, .int .i64 9]) ?_ rfl ⟨rfl, ?_⟩
  · simp [results, Tryz.results81, go_sem, *]
  · (repeat (first | with_reducible exact Below.refl _ _ | with_reducible assumption | with_reducible refine below_drewN ?_ _ | with_reducible refine Below.drew ?_ | with_reducible refine Below.alloc ?_ (by first | omega | (simp; omega) | simp) _ | with_reducible refine Below.setCell ?_ (by first | omega | (simp; omega) | simp) _))
set_option maxRecDepth 100000 in
set_option maxHeartbeats 4000000 in
theorem check_d (T f : Nat → Int) (c n s0 : Int) (oF : Int → Int) (hO : OnesOk oF) (hW : WIn f) (hc : okC c = true) (hS : sumT T f 8 = (s0, n)) (hn0 : 0 ≤ n) (hn1 : n ≤ 9000000000000)
    (bodd : ((n + oF (IntKind.u64.wrap c)) % 2 == 1) = true) (bs0 : (bits .xor .i64 s0 (bits .and .i64 c 511) == 0) = false) (bpw : (bits .and .i64 (bits .xor .i64 s0 (bits .and .i64 c 511)) (wrap64 (bits .xor .i64 s0 (bits .and .i64 c 511) - 1)) == 0) = true) (y : Nat) (hy : IntKind.u64.wrap (bits .xor .i64 s0 (bits .and .i64 c 511)) = (y : Int)) (hy0 : y ≠ 0) (hy1 : y < 18446744073709551616) : CkTo T f c 1 8 ((Lib.ctz 64 y : Nat) : Int) := by
  intro w hT hdb
  have HS := Lib.hid (fun w => sum_calls w T f hW)
  rw [hS] at HS
  have ho1 := hO.1 (IntKind.u64.wrap c)
  have HO := Lib.hid hO.2
  clear hO hS
  have HY0 := Lib.hid hy0
  obtain ⟨bt, hbt⟩ : ∃ bt : Int, ((Lib.ctz 64 y : Nat) : Int) = bt := ⟨_, rfl⟩
  rw [hbt]
  have HBT := Lib.hid hbt
  clear hbt hy0
  go_enter Tryz.func81, Tryz.ntmps81
  go_wp2_with fail
  refine (valid_calls _ f c hW).mono ?_
  rintro e w1 ⟨rfl, hb1⟩
  rw [hc]
  have hX := ((((Cl.new w 67 #[.int .i64 (f 0), .int .i64 (f 1), .int .i64 (f 2), .int .i64 (f 3), .int .i64 (f 4), .int .i64 (f 5), .int .i64 (f 6), .int .i64 (f 7)]).alloc _).alloc _).alloc _).below hb1 (by (first | omega | (simp; omega) | simp))
  have hZ0 := (((Cl.new_ (w.alloc (.cells #[.int .i64 (f 0), .int .i64 (f 1), .int .i64 (f 2), .int .i64 (f 3), .int .i64 (f 4), .int .i64 (f 5), .int .i64 (f 6), .int .i64 (f 7)] 67)) 3 #[.int .i64 0] (w.heap.size + 1) (by simp)).alloc (.cells #[.int .i64 0] 3)).alloc (.cells #[.int .i64 0] 3)).below hb1 (by (first | omega | (simp; omega) | simp))
  have hZ1 := ((Cl.new_ ((w.alloc (.cells #[.int .i64 (f 0), .int .i64 (f 1), .int .i64 (f 2), .int .i64 (f 3), .int .i64 (f 4), .int .i64 (f 5), .int .i64 (f 6), .int .i64 (f 7)] 67)).alloc (.cells #[.int .i64 0] 3)) 3 #[.int .i64 0] (w.heap.size + 2) (by simp)).alloc (.cells #[.int .i64 0] 3)).below hb1 (by simp)
  have hZ2 := (Cl.new_ (((w.alloc (.cells #[.int .i64 (f 0), .int .i64 (f 1), .int .i64 (f 2), .int .i64 (f 3), .int .i64 (f 4), .int .i64 (f 5), .int .i64 (f 6), .int .i64 (f 7)] 67)).alloc (.cells #[.int .i64 0] 3)).alloc (.cells #[.int .i64 0] 3)) 3 #[.int .i64 0] (w.heap.size + 3) (by simp)).below hb1 (by simp)
  have hB : Below w.heap.size w w1 := Below.trans (by (repeat (first | with_reducible exact Below.refl _ _ | with_reducible assumption | with_reducible refine below_drewN ?_ _ | with_reducible refine Below.drew ?_ | with_reducible refine Below.alloc ?_ (by first | omega | (simp; omega) | simp) _ | with_reducible refine Below.setCell ?_ (by first | omega | (simp; omega) | simp) _))) (hb1.mono (by (first | omega | (simp; omega) | simp)))
  clear hb1
  obtain ⟨x0, x1, x2, x3, x4, x5, x6, x7⟩ := hX.has8'
  go_wp2_with fail
  refine (HS.out _ (hT.below hB) (hdb.below hB)).mono ?_
  rintro e w2 ⟨rfl, hb2⟩
  have hB2 := hB.trans (hb2.mono hB.size)
  replace hZ0 := hZ0.below hb2 hZ0.lt
  replace hZ1 := hZ1.below hb2 hZ1.lt
  replace hZ2 := hZ2.below hb2 hZ2.lt
  clear hb2 x0 x1 x2 x3 x4 x5 x6 x7 hX hB
  have l0 := hZ0.lt
  have l1 := hZ1.lt
  have l2 := hZ2.lt
  go_wp2_with fail
  refine (HO.out _ _).mono ?_
  rintro e w3 ⟨rfl, rfl⟩
  have z0 := hZ0.cell 0
  have z1 := hZ1.cell 0
  have z2 := hZ2.cell 0
  have f0 := hZ0.free 0
  have f1 := hZ1.free 0
  have f2 := hZ2.free 0
  simp only [List.getElem?_toArray, List.getElem?_cons_zero] at z0 z1 z2
  go_wp2_with fail
  refine (tz_calls _ y hy1 HY0.out ((hdb.below hB2).below (by (repeat (first | with_reducible exact Below.refl _ _ | with_reducible assumption | with_reducible refine below_drewN ?_ _ | with_reducible refine Below.drew ?_ | with_reducible refine Below.alloc ?_ (by first | omega | (simp; omega) | simp) _ | with_reducible refine Below.setCell ?_ (by first | omega | (simp; omega) | simp) _))))).mono ?_
  rintro e w3 ⟨rfl, rfl⟩
  rw [HBT.out]
  go_wp2_with fail
  refine bodyPost_ret (v := .tuple #[.int .i64 1, .int .i64 8, .int .i64 bt]) ?_ rfl ⟨rfl, ?_⟩
  · simp [results, Tryz.results81, go_sem, *]
  · (repeat (first | with_reducible exact Below.refl _ _ | with_reducible assumption | with_reducible refine below_drewN ?_ _ | with_reducible refine Below.drew ?_ | with_reducible refine Below.alloc ?_ (by first | omega | (simp; omega) | simp) _ | with_reducible refine Below.setCell ?_ (by first | omega | (simp; omega) | simp) _))

theorem cl_own {β : Type} (B : Nat) (t : TypeId) (f : β → Array Value) : Own (fun s W => Cl W B t (f s)) := fun s A W' row hs hg hrow =>
  Cl.grown hs hg (fun e' => by obtain ⟨o, ho, hc⟩ := hrow B e'.symm; rw [show A.heap[B]? = _ from hs] at ho; cases ho; cases hc)
set_option maxRecDepth 100000 in
set_option maxHeartbeats 4000000 in
theorem check_e (T f : Nat → Int) (c n s0 : Int) (oF : Int → Int) (hO : OnesOk oF) (hW : WIn f) (hc : okC c = true) (hS : sumT T f 8 = (s0, n)) (hn0 : 0 ≤ n) (hn1 : n ≤ 9000000000000) (st wd bt : Int)
    (hres : (∃ i : Nat, i < 320 ∧ (posF i : Int) = (bits .xor .i64 s0 (bits .and .i64 c 511)) ∧ (∀ j, j < i → (posF j : Int) ≠ (bits .xor .i64 s0 (bits .and .i64 c 511))) ∧ st = 1 ∧ wd = (i : Int) / 40 ∧ bt = (i : Int) % 40) ∨ ((∀ i, i < 320 → (posF i : Int) ≠ (bits .xor .i64 s0 (bits .and .i64 c 511))) ∧ st = 2 ∧ wd = 0 ∧ bt = 0))
   
    (bodd : ((n + oF (IntKind.u64.wrap c)) % 2 == 1) = true) (bs0 : (bits .xor .i64 s0 (bits .and .i64 c 511) == 0) = false) (bpw : (bits .and .i64 (bits .xor .i64 s0 (bits .and .i64 c 511)) (wrap64 (bits .xor .i64 s0 (bits .and .i64 c 511) - 1)) == 0) = false) : CkTo T f c st wd bt := by
  intro w hT hdb
  have HS := Lib.hid (fun w => sum_calls w T f hW)
  rw [hS] at HS
  have ho1 := hO.1 (IntKind.u64.wrap c)
  have HO := Lib.hid hO.2
  have HRES := Lib.hid hres
  clear hres
  clear hO hS
  refine (callsIn_wide (n := 3)).1 ?_
  refine callsIn_of_wp_marks Tryz.func81 rfl trivial ?_
  refine wpIn_wide.2 ?_
  simp only [Tryz.ntmps81, List.size_toArray, List.length_cons, List.length_nil, Nat.reduceAdd, Nat.reduceSub, Array.replicate_succ, Array.replicate_zero, List.push_toArray, List.append_toArray, List.nil_append, List.cons_append]
  go_wp2_with fail
  refine (valid_calls _ f c hW).mono ?_
  rintro e w1 ⟨rfl, hb1⟩
  rw [hc]
  have hX := ((((Cl.new w 67 #[.int .i64 (f 0), .int .i64 (f 1), .int .i64 (f 2), .int .i64 (f 3), .int .i64 (f 4), .int .i64 (f 5), .int .i64 (f 6), .int .i64 (f 7)]).alloc _).alloc _).alloc _).below hb1 (by (first | omega | (simp; omega) | simp))
  have hZ0 := (((Cl.new_ (w.alloc (.cells #[.int .i64 (f 0), .int .i64 (f 1), .int .i64 (f 2), .int .i64 (f 3), .int .i64 (f 4), .int .i64 (f 5), .int .i64 (f 6), .int .i64 (f 7)] 67)) 3 #[.int .i64 0] (w.heap.size + 1) (by simp)).alloc (.cells #[.int .i64 0] 3)).alloc (.cells #[.int .i64 0] 3)).below hb1 (by (first | omega | (simp; omega) | simp))
  have hZ1 := ((Cl.new_ ((w.alloc (.cells #[.int .i64 (f 0), .int .i64 (f 1), .int .i64 (f 2), .int .i64 (f 3), .int .i64 (f 4), .int .i64 (f 5), .int .i64 (f 6), .int .i64 (f 7)] 67)).alloc (.cells #[.int .i64 0] 3)) 3 #[.int .i64 0] (w.heap.size + 2) (by simp)).alloc (.cells #[.int .i64 0] 3)).below hb1 (by simp)
  have hZ2 := (Cl.new_ (((w.alloc (.cells #[.int .i64 (f 0), .int .i64 (f 1), .int .i64 (f 2), .int .i64 (f 3), .int .i64 (f 4), .int .i64 (f 5), .int .i64 (f 6), .int .i64 (f 7)] 67)).alloc (.cells #[.int .i64 0] 3)).alloc (.cells #[.int .i64 0] 3)) 3 #[.int .i64 0] (w.heap.size + 3) (by simp)).below hb1 (by simp)
  have hB : Below w.heap.size w w1 := Below.trans (by (repeat (first | with_reducible exact Below.refl _ _ | with_reducible assumption | with_reducible refine below_drewN ?_ _ | with_reducible refine Below.drew ?_ | with_reducible refine Below.alloc ?_ (by first | omega | (simp; omega) | simp) _ | with_reducible refine Below.setCell ?_ (by first | omega | (simp; omega) | simp) _))) (hb1.mono (by (first | omega | (simp; omega) | simp)))
  clear hb1
  obtain ⟨x0, x1, x2, x3, x4, x5, x6, x7⟩ := hX.has8'
  go_wp2_with fail
  refine (HS.out _ (hT.below hB) (hdb.below hB)).mono ?_
  rintro e w2 ⟨rfl, hb2⟩
  have hB2 := hB.trans (hb2.mono hB.size)
  replace hZ0 := hZ0.below hb2 hZ0.lt
  replace hZ1 := hZ1.below hb2 hZ1.lt
  replace hZ2 := hZ2.below hb2 hZ2.lt
  clear hb2 x0 x1 x2 x3 x4 x5 x6 x7 hX hB
  have l0 := hZ0.lt
  have l1 := hZ1.lt
  have l2 := hZ2.lt
  go_wp2_with fail
  refine (HO.out _ _).mono ?_
  rintro e w3 ⟨rfl, rfl⟩
  have z0 := hZ0.cell 0
  have z1 := hZ1.cell 0
  have z2 := hZ2.cell 0
  have f0 := hZ0.free 0
  have f1 := hZ1.free 0
  have f2 := hZ2.free 0
  simp only [List.getElem?_toArray, List.getElem?_cons_zero] at z0 z1 z2
  go_wp2_with fail
  refine (positions_calls _).mono ?_
  rintro e w4 ⟨rfl, rfl⟩
  go_wp2_with fail
  have hbS := Cl.new w2 3 #[.int .i64 (bits .xor .i64 s0 (bits .and .i64 c 511))]
  replace hZ0 := hZ0.alloc (.cells #[.int .i64 (bits .xor .i64 s0 (bits .and .i64 c 511))] 3)
  replace hZ1 := hZ1.alloc (.cells #[.int .i64 (bits .xor .i64 s0 (bits .and .i64 c 511))] 3)
  replace hZ2 := hZ2.alloc (.cells #[.int .i64 (bits .xor .i64 s0 (bits .and .i64 c 511))] 3)
  have hB0 : Below w.heap.size w (w2.alloc (.cells #[.int .i64 (bits .xor .i64 s0 (bits .and .i64 c 511))] 3)) := by (repeat (first | with_reducible exact Below.refl _ _ | with_reducible assumption | with_reducible refine below_drewN ?_ _ | with_reducible refine Below.drew ?_ | with_reducible refine Below.alloc ?_ (by first | omega | (simp; omega) | simp) _ | with_reducible refine Below.setCell ?_ (by first | omega | (simp; omega) | simp) _))
  have hsz0 : (w2.alloc (.cells #[.int .i64 (bits .xor .i64 s0 (bits .and .i64 c 511))] 3)).heap.size = w2.heap.size + 1 := by simp
  generalize w2.alloc (.cells #[.int .i64 (bits .xor .i64 s0 (bits .and .i64 c 511))] 3) = W0 at *
  clear z0 z1 z2 f0 f1 f2 hB2 HS hdb hT
  have hl0 : w.heap.size + 1 < w2.heap.size := l0
  refine (wpIn_wide (n := 3)).1 ?_
  refine wpIn_rangeFunc_ownH (α := Nat) rfl (by omega) (gf := 113) (lb := #[]) rfl trivial (enters_of Tryz.func113 (by kernel_rfl) rfl)
    (pos_stops Fence.wide (3 - 1) trivial rfl (by omega) (Below w.heap.size) W0) belowK_t (belowK_b hB0.size) (Below.refl _ _) (fun _ => rfl)
    (fun pre W => (((Cl W (w.heap.size + 1) 3 #[.int .i64 0] ∧ Cl W (w.heap.size + 1 + 1) 3 #[.int .i64 0]) ∧ (Cl W (w.heap.size + 1 + 1 + 1) 3 #[.int .i64 0] ∧ Cl W w2.heap.size 3 #[.int .i64 (bits .xor .i64 s0 (bits .and .i64 c 511))])) ∧ (∀ i ∈ pre, (posF i : Int) ≠ (bits .xor .i64 s0 (bits .and .i64 c 511)))) ∧ Below w.heap.size w W)
    (fun cc pre W => (((Cl W (w.heap.size + 1) 3 #[.int .i64 1] ∧ Cl W (w.heap.size + 1 + 1) 3 #[.int .i64 ((pre.getLast?.getD 0 : Nat) / 40 : Int)]) ∧ Cl W (w.heap.size + 1 + 1 + 1) 3 #[.int .i64 ((pre.getLast?.getD 0 : Nat) % 40 : Int)]) ∧ (cc = .ret ∧ (posF (pre.getLast?.getD 0) : Int) = (bits .xor .i64 s0 (bits .and .i64 c 511)) ∧ ∀ i ∈ pre.dropLast, (posF i : Int) ≠ (bits .xor .i64 s0 (bits .and .i64 c 511)))) ∧ Below w.heap.size w W)
    (OwnFrom.and (OwnFrom.and (OwnFrom.and (OwnFrom.and (Own.from (cl_own _ _ _) _) (Own.from (cl_own _ _ _) _)) (OwnFrom.and (Own.from (cl_own _ _ _) _) (Own.from (cl_own _ _ _) _))) (ownFrom_pure _ _)) (ownFrom_below (Nat.le_refl _) hB0.size))
    (fun _ => OwnFrom.and (OwnFrom.and (OwnFrom.and (OwnFrom.and (Own.from (cl_own _ _ _) _) (Own.from (cl_own _ _ _) _)) (Own.from (cl_own _ _ _) _)) (ownFrom_pure _ _)) (ownFrom_below (Nat.le_refl _) hB0.size))
    ⟨⟨⟨⟨hZ0, hZ1⟩, hZ2, hbS⟩, by simp⟩, hB0⟩
    (fun x a' W => ∃ Bx, w2.heap.size < Bx ∧ Cl W Bx 162 #[.int .i64 ((x : Int) / 40), .int .i64 ((x : Int) % 40)] ∧ a' = { tmps := #[.agg #[.int .i64 (f 0), .int .i64 (f 1), .int .i64 (f 2), .int .i64 (f 3), .int .i64 (f 4), .int .i64 (f 5), .int .i64 (f 6), .int .i64 (f 7)], .int .i64 c, .pointer (some ⟨w.heap.size, 0, none⟩), undef, .pointer (some ⟨w.heap.size + 1, 0, none⟩), .pointer (some ⟨w.heap.size + 1 + 1, 0, none⟩), .pointer (some ⟨w.heap.size + 1 + 1 + 1, 0, none⟩), .pointer (some ⟨w2.heap.size, 0, none⟩), .int .i64 n, .bool true, .pointer (some ⟨Bx, 0, none⟩), .int .i64 (posF x : Int), .agg #[.int .i64 (f 0), .int .i64 (f 1), .int .i64 (f 2), .int .i64 (f 3), .int .i64 (f 4), .int .i64 (f 5), .int .i64 (f 6), .int .i64 (f 7)], .int .i64 c, .bool true, .bool false, .tuple #[.int .i64 s0, .int .i64 n], .agg #[.int .i64 (f 0), .int .i64 (f 1), .int .i64 (f 2), .int .i64 (f 3), .int .i64 (f 4), .int .i64 (f 5), .int .i64 (f 6), .int .i64 (f 7)], .tuple #[.int .i64 s0, .int .i64 n], .int .i64 s0, .int .i64 n, .int .i64 s0, .int .i64 c, .int .i64 (bits .and .i64 c 511), .int .i64 (bits .xor .i64 s0 (bits .and .i64 c 511)), .int .i64 n, .int .i64 c, .int .u64 (IntKind.u64.wrap c), .int .i64 (oF (IntKind.u64.wrap c)), .int .i64 (n + oF (IntKind.u64.wrap c)), .int .i64 ((n + oF (IntKind.u64.wrap c)) % 2), .bool true, .bool false, .bool true, .bool false, .bool false, undef, undef, .bool false, .bool false, .bool true, .bool false, .bool false, .int .i64 (bits .xor .i64 s0 (bits .and .i64 c 511)), .bool false, .bool false, .int .i64 (bits .xor .i64 s0 (bits .and .i64 c 511)), .int .i64 (bits .xor .i64 s0 (bits .and .i64 c 511)), .int .i64 (wrap64 ((bits .xor .i64 s0 (bits .and .i64 c 511)) - 1)), .int .i64 (bits .and .i64 (bits .xor .i64 s0 (bits .and .i64 c 511)) (wrap64 ((bits .xor .i64 s0 (bits .and .i64 c 511)) - 1))), .bool false, undef, undef, undef, .func (.func 113) #[] #[], .agg #[.int .i64 ((x : Int) / 40), .int .i64 ((x : Int) % 40)], .int .i64 (posF x : Int), undef, undef, undef, undef, undef, undef, undef], defers := [] })
    (fun x a' s A B row hs hg hr => by obtain ⟨Bx, h1, h2, h3⟩ := hs; exact ⟨Bx, h1, cl_own Bx _ (fun _ => #[.int .i64 ((x : Int) / 40), .int .i64 ((x : Int) % 40)]) () A B row h2 hg (fun r e => (hr r e).2), h3⟩)
    ?assign ?body ?done ?stop
  case assign =>
    rintro l pre x W K ⟨⟨⟨⟨b0, b1⟩, b2, b3⟩, hne⟩, hB⟩ hK
    gi_wp2
    exact hK _ _ ((KeepsOthers.alloc _ _).from _) ((Below.refl _ W).alloc hB.size _) ⟨⟨⟨⟨b0.alloc _, b1.alloc _⟩, b2.alloc _, b3.alloc _⟩, hne⟩, hB.alloc hB.size _⟩ ⟨W.heap.size, b3.lt, Cl.new _ _ _, rfl⟩
  case body =>
    rintro l pre x a' W hl hr ⟨⟨⟨⟨b0, b1⟩, b2, b3⟩, hne⟩, hB⟩ ⟨Bx, hBx, bX, rfl⟩ hlt
    have c3 : W.cell? ⟨w2.heap.size, 0, none⟩ = some (.int .i64 (bits .xor .i64 s0 (bits .and .i64 c 511))) := b3.cell 0
    by_cases hx : (posF x : Int) = (bits .xor .i64 s0 (bits .and .i64 c 511))
    · have bx : ((posF x : Int) == (bits .xor .i64 s0 (bits .and .i64 c 511))) = true := by simp [hx]
      have HX := Lib.hid hx
      have HNE := Lib.hid hne
      have x0 := bX.cell 0
      have x1 := bX.cell 1
      have f0 := b0.free 0
      have f1 := b1.free 0
      have f2 := b2.free 0
      have d0 := b0.cell 0
      have d1 := b1.cell 0
      have d2 := b2.cell 0
      simp only [List.getElem?_toArray, List.getElem?_cons_zero, List.getElem?_cons_succ] at x0 x1 d0 d1 d2
      have hlx := bX.lt
      have n0 : ¬ Bx = w.heap.size + 1 := by omega
      have n1 : ¬ Bx = w.heap.size + 1 + 1 := by omega
      have n2 : ¬ Bx = w.heap.size + 1 + 1 + 1 := by omega
      have n0' : ¬ w.heap.size + 1 = Bx := by omega
      have n1' : ¬ w.heap.size + 1 + 1 = Bx := by omega
      have n2' : ¬ w.heap.size + 1 + 1 + 1 = Bx := by omega
      have hF0 : Cl (((W.setCell ⟨w.heap.size + 1, 0, none⟩ (.int .i64 1)).setCell ⟨w.heap.size + 1 + 1, 0, none⟩ (.int .i64 ((x : Int) / 40))).setCell ⟨w.heap.size + 1 + 1 + 1, 0, none⟩ (.int .i64 ((x : Int) % 40))) (w.heap.size + 1) 3 #[.int .i64 1] := ((b0.set_ 0 _).far (by simp; try omega) _).far (by simp; try omega) _
      have hF1 : Cl (((W.setCell ⟨w.heap.size + 1, 0, none⟩ (.int .i64 1)).setCell ⟨w.heap.size + 1 + 1, 0, none⟩ (.int .i64 ((x : Int) / 40))).setCell ⟨w.heap.size + 1 + 1 + 1, 0, none⟩ (.int .i64 ((x : Int) % 40))) (w.heap.size + 1 + 1) 3 #[.int .i64 ((x : Int) / 40)] := ((b1.far (by simp; try omega) _).set_ 0 _).far (by simp; try omega) _
      have hF2 : Cl (((W.setCell ⟨w.heap.size + 1, 0, none⟩ (.int .i64 1)).setCell ⟨w.heap.size + 1 + 1, 0, none⟩ (.int .i64 ((x : Int) / 40))).setCell ⟨w.heap.size + 1 + 1 + 1, 0, none⟩ (.int .i64 ((x : Int) % 40))) (w.heap.size + 1 + 1 + 1) 3 #[.int .i64 ((x : Int) % 40)] := ((b2.far (by simp; try omega) _).far (by simp; try omega) _).set_ 0 _
      have hKO : KeepsOthers W (((W.setCell ⟨w.heap.size + 1, 0, none⟩ (.int .i64 1)).setCell ⟨w.heap.size + 1 + 1, 0, none⟩ (.int .i64 ((x : Int) / 40))).setCell ⟨w.heap.size + 1 + 1 + 1, 0, none⟩ (.int .i64 ((x : Int) % 40))).drew := (((KeepsOthers.setCell _ _ _).trans (KeepsOthers.setCell _ _ _)).trans (KeepsOthers.setCell _ _ _)).trans (KeepsOthers.drew _)
      have hBF : Below w.heap.size w (((W.setCell ⟨w.heap.size + 1, 0, none⟩ (.int .i64 1)).setCell ⟨w.heap.size + 1 + 1, 0, none⟩ (.int .i64 ((x : Int) / 40))).setCell ⟨w.heap.size + 1 + 1 + 1, 0, none⟩ (.int .i64 ((x : Int) % 40))).drew := by (repeat (first | with_reducible exact Below.refl _ _ | with_reducible assumption | with_reducible refine below_drewN ?_ _ | with_reducible refine Below.drew ?_ | with_reducible refine Below.alloc ?_ (by first | omega | (simp; omega) | simp) _ | with_reducible refine Below.setCell ?_ (by first | omega | (simp; omega) | simp) _))
      have hgl : (pre ++ [x]).getLast?.getD 0 = x := by simp
      have hdl : (pre ++ [x]).dropLast = pre := by simp
      have HFIN : Hid (((Cl _ _ _ _ ∧ Cl _ _ _ _) ∧ Cl _ _ _ _) ∧ (KeepsOthers _ _ ∧ Below _ _ _)) := ⟨⟨⟨hF0.drew, hF1.drew⟩, hF2.drew⟩, hKO, hBF⟩
      have HGL := Lib.hid hgl
      have HDL := Lib.hid hdl
      clear hF0 hF1 hF2 hKO hBF hgl hdl hx hne
      gi_wp2
      gi_region
      all_goals gi_wp2
      all_goals
        obtain ⟨⟨⟨g0, g1⟩, g2⟩, gk, gb⟩ := HFIN.out
        refine ⟨gk.from _, ⟨⟨⟨g0, ?_⟩, ?_⟩, rfl, ?_, ?_⟩, gb⟩
        · rw [HGL.out]; exact g1
        · rw [HGL.out]; exact g2
        · rw [HGL.out]; exact HX.out
        · rw [HDL.out]; exact HNE.out
    · have bx : ((posF x : Int) == (bits .xor .i64 s0 (bits .and .i64 c 511))) = false := by simp [hx]
      have HX := Lib.hid hx
      have HNE := Lib.hid hne
      clear hx hne
      gi_wp2
      refine ⟨KeepsFrom.refl _ _, Below.refl _ _, ⟨⟨⟨b0, b1⟩, b2, b3⟩, fun i hi => ?_⟩, hB⟩
      rw [List.mem_append, List.mem_singleton] at hi
      rcases hi with hi | rfl
      · exact HNE.out i hi
      · exact HX.out
  case done =>
    rintro D ys W hD rfl ⟨⟨⟨⟨b0, b1⟩, b2, b3⟩, hne⟩, hB⟩ hK
    obtain ⟨rfl, rfl, rfl⟩ : st = 2 ∧ wd = 0 ∧ bt = 0 := by
      rcases HRES.out with ⟨i, hi, h1, _⟩ | ⟨_, h2⟩
      · exact absurd h1 (hne i (List.mem_range.2 hi))
      · exact h2
    have hDl := lt_of_heap hK
    have hDw : w.heap.size + 1 + 1 + 1 < D := by omega
    have f0 := b0.free 0
    have f1 := b1.free 0
    have f2 := b2.free 0
    have d0 := b0.cell 0
    have d1 := b1.cell 0
    have d2 := b2.cell 0
    simp only [List.getElem?_toArray, List.getElem?_cons_zero] at d0 d1 d2
    have hF0 : Cl (((W.setCell ⟨w.heap.size + 1, 0, none⟩ (.int .i64 2)).setCell ⟨w.heap.size + 1 + 1, 0, none⟩ (.int .i64 0)).setCell ⟨w.heap.size + 1 + 1 + 1, 0, none⟩ (.int .i64 0)) (w.heap.size + 1) 3 #[.int .i64 2] := ((b0.set_ 0 _).far (by simp; try omega) _).far (by simp; try omega) _
    have hF1 : Cl (((W.setCell ⟨w.heap.size + 1, 0, none⟩ (.int .i64 2)).setCell ⟨w.heap.size + 1 + 1, 0, none⟩ (.int .i64 0)).setCell ⟨w.heap.size + 1 + 1 + 1, 0, none⟩ (.int .i64 0)) (w.heap.size + 1 + 1) 3 #[.int .i64 0] := ((b1.far (by simp; try omega) _).set_ 0 _).far (by simp; try omega) _
    have hF2 : Cl (((W.setCell ⟨w.heap.size + 1, 0, none⟩ (.int .i64 2)).setCell ⟨w.heap.size + 1 + 1, 0, none⟩ (.int .i64 0)).setCell ⟨w.heap.size + 1 + 1 + 1, 0, none⟩ (.int .i64 0)) (w.heap.size + 1 + 1 + 1) 3 #[.int .i64 0] := ((b2.far (by simp; try omega) _).far (by simp; try omega) _).set_ 0 _
    have hBF : Below w.heap.size w (((W.setCell ⟨w.heap.size + 1, 0, none⟩ (.int .i64 2)).setCell ⟨w.heap.size + 1 + 1, 0, none⟩ (.int .i64 0)).setCell ⟨w.heap.size + 1 + 1 + 1, 0, none⟩ (.int .i64 0)) := by (repeat (first | with_reducible exact Below.refl _ _ | with_reducible assumption | with_reducible refine below_drewN ?_ _ | with_reducible refine Below.drew ?_ | with_reducible refine Below.alloc ?_ (by first | omega | (simp; omega) | simp) _ | with_reducible refine Below.setCell ?_ (by first | omega | (simp; omega) | simp) _))
    have hK2 := (((KeepsOthers.setCell W ⟨w.heap.size + 1, 0, none⟩ (.int .i64 2)).trans (KeepsOthers.setCell _ ⟨w.heap.size + 1 + 1, 0, none⟩ (.int .i64 0))).trans (KeepsOthers.setCell _ ⟨w.heap.size + 1 + 1 + 1, 0, none⟩ (.int .i64 0))).same D _ hK rfl
    go_wp2_with fail
    refine ⟨by simp, .inl ⟨_, _, rfl, run_takeDeferred hK2, ?_⟩⟩
    have g0 := cell_kept (hF0.cell 0) (grownBy_putObj' _ D (.deferred none)) (fun r e => by cases e; exact ⟨_, hK2, rfl⟩)
    have g1 := cell_kept (hF1.cell 0) (grownBy_putObj' _ D (.deferred none)) (fun r e => by cases e; exact ⟨_, hK2, rfl⟩)
    have g2 := cell_kept (hF2.cell 0) (grownBy_putObj' _ D (.deferred none)) (fun r e => by cases e; exact ⟨_, hK2, rfl⟩)
    refine ⟨.tuple #[.int .i64 2, .int .i64 0, .int .i64 0], ?_, rfl, hBF.trans (belowK_b (w := w) (Nat.le_refl _) _ D _ _ (by omega) hK2 rfl rfl)⟩
    simp [results, Tryz.results81, go_sem, g0, g1, g2]
  case stop =>
    rintro D cc pre W hD ⟨m, hm, rfl⟩ ⟨⟨⟨⟨b0, b1⟩, b2⟩, rfl, hx, hne⟩, hB⟩ hK
    have hgl : (List.range (m + 1)).getLast?.getD 0 = m := by rw [List.range_succ]; simp
    have hdl : (List.range (m + 1)).dropLast = List.range m := by rw [List.range_succ]; simp
    rw [hgl] at b1 b2 hx
    rw [hdl] at hne
    obtain ⟨rfl, rfl, rfl⟩ : st = 1 ∧ wd = (m : Int) / 40 ∧ bt = (m : Int) % 40 := by
      rcases HRES.out with ⟨i, hi, h1, h2, h3⟩ | ⟨h1, _⟩
      · have hmi : m = i := by
          rcases Nat.lt_trichotomy m i with h | h | h
          · exact absurd hx (h2 m h)
          · exact h
          · exact absurd h1 (hne i (List.mem_range.2 h))
        rw [hmi]
        exact h3
      · exact absurd hx (h1 m hm)
    have hDl := lt_of_heap hK
    have hDw : w.heap.size + 1 + 1 + 1 < D := by omega
    clear hx hne HRES hgl hdl
    gi_wp2
    refine ⟨by simp, .inl ⟨_, _, rfl, run_takeDeferred hK, ?_⟩⟩
    have g0 := cell_kept (b0.cell 0) (grownBy_putObj' _ D (.deferred none)) (fun r e => by cases e; exact ⟨_, hK, rfl⟩)
    have g1 := cell_kept (b1.cell 0) (grownBy_putObj' _ D (.deferred none)) (fun r e => by cases e; exact ⟨_, hK, rfl⟩)
    have g2 := cell_kept (b2.cell 0) (grownBy_putObj' _ D (.deferred none)) (fun r e => by cases e; exact ⟨_, hK, rfl⟩)
    refine ⟨.tuple #[.int .i64 1, .int .i64 ((m : Int) / 40), .int .i64 ((m : Int) % 40)], ?_, rfl, hB.trans (belowK_b (w := w) (Nat.le_refl _) _ D _ _ (by omega) hK rfl rfl)⟩
    simp [results, Tryz.results81, go_sem, g0, g1, g2]
end Go.Proofs.YtckamjbdogpacaaGreatDoor
