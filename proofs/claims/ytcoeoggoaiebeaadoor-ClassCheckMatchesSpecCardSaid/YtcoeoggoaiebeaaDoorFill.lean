/-
  class.Fill of two words at the pointer of the examples.
-/
import Derived.Test.YtcoeoggoaiebeaaDoorFollow
import Derived.Test.YtcoeoggoaiebeaaDoorFlush
import Derived.Test.YtcoeoggoaiebeaaDoorFit
import Derived.LoopN
namespace Go.Proofs.YtcoeoggoaiebeaaDoor
open Go.RowKit
set_option linter.unusedSimpArgs false
set_option linter.unusedVariables false

theorem fillok (w : World) (x : Int) (h0 : 0 ≤ x) (h1 : x ≤ 100) : Calls Tryd.prog 57 #[.int .i64 x] w fun e w' => e = .returned (.bool false) ∧ w = w' := by
  have b0 : decide (x < 0) = false := by simp; omega
  have b1 : decide (1099511627775 < x) = false := by simp; omega
  go_enter Tryd.func57, Tryd.ntmps57
  go_wp2
  go_ret
  exact ⟨by simp [b0, b1], rfl⟩

set_option maxHeartbeats 1000000 in
theorem index56 (w : World) (gw : Nat) (hc : Cl w gw 3 #[.int .i64 5, .int .i64 6]) :
    Calls Tryd.prog 78 #[.slice (some ⟨gw, 0, none⟩) 2 2, .func (.func 57) #[] #[]] w fun e w' => e = .returned (.int .i64 (-1)) ∧ w = w' := by
  have c0 : w.cell? ⟨gw, 0, none⟩ = some (.int .i64 5) := hc.cell 0
  have c1 : w.cell? ⟨gw, 1, none⟩ = some (.int .i64 6) := hc.cell 1
  have hl := hc.lt
  go_enter Tryd.func78, Tryd.ntmps78
  go_wp2_with fail
  refine wp_loop_rounds 3 ?_
  rw [rounds_succ]
  go_wp2_with fail
  refine (fillok _ 5 (by omega) (by omega)).mono ?_
  rintro e w1 ⟨rfl, rfl⟩
  go_wp2_with fail
  rw [rounds_succ]
  go_wp2_with fail
  refine (fillok _ 6 (by omega) (by omega)).mono ?_
  rintro e w1 ⟨rfl, rfl⟩
  go_wp2_with fail
  rw [rounds_succ]
  go_wp2_with fail
  go_ret
  exact ⟨rfl, rfl⟩
theorem contains56 (w : World) (gw : Nat) (hc : Cl w gw 3 #[.int .i64 5, .int .i64 6]) :
    Calls Tryd.prog 56 #[.slice (some ⟨gw, 0, none⟩) 2 2, .func (.func 57) #[] #[]] w fun e w' => e = .returned (.bool false) ∧ w = w' := by
  go_enter Tryd.func56, Tryd.ntmps56
  go_wp2_with fail
  refine (index56 _ gw hc).mono ?_
  rintro e w1 ⟨rfl, rfl⟩
  go_wp2_with fail
  go_ret
  exact ⟨rfl, rfl⟩

/-- What lies below the memory is as it was. -/
theorem GrewM.cell {base g o : Nat} {w w' : World} (hg : GrewM base w w') (h1 : g < base) (h2 : g < w.heap.size) : w'.cell? ⟨g, o, none⟩ = w.cell? ⟨g, o, none⟩ := by
  have hb : Below (g + 1) w w' := ⟨hg.1, hg.2.1, hg.2.2.1, hg.2.2.2.1, fun k hk => by
    rcases hg.2.2.2.2 k (by omega) with h | ⟨h, _⟩
    · exact h
    · omega⟩
  exact hb.cell (p := ⟨g, o, none⟩) (Nat.lt_succ_self g)
theorem Hd.grewM {base : Nat} {w w' : World} (h : Hd w) (hl : 2 < base) (hg : GrewM base w w') : Hd w' := by
  have hlt := h.lt
  obtain ⟨h0, h1, h2, h3, h4, h5⟩ := h
  exact ⟨(hg.cell hl hlt).trans h0, (hg.cell hl hlt).trans h1, (hg.cell hl hlt).trans h2, (hg.cell hl hlt).trans h3, (hg.cell hl hlt).trans h4, (hg.cell hl hlt).trans h5⟩
theorem Pt.grewM {base : Nat} {w w' : World} (h : Pt w) (hl : 0 < base) (hg : GrewM base w w') : Pt w' := by
  have hlt := h.lt
  obtain ⟨h0, h1, h2, h3⟩ := h
  exact ⟨(hg.cell hl hlt).trans h0, (hg.cell hl hlt).trans h1, (hg.cell hl hlt).trans h2, (hg.cell hl hlt).trans h3⟩

set_option maxRecDepth 100000 in
set_option maxHeartbeats 4000000 in
theorem fill_calls (base : Nat) (w : World) (gv gm gw : Nat) (P : Nat → List (Nat × Int)) (E : Nat) (hM : MemIs base w gm 64 P E) (hE : E ≤ 100) (hV : Cl w gv 92 #[.pointer (some ⟨gm, 0, none⟩), .slice none 0 0])
    (hW : Cl w gw 3 #[.int .i64 5, .int .i64 6]) (h14 : sh (P 14) 0 = 4) (h24 : sh (P 24) 0 = 306) (p14 : ∀ p ∈ P 14, p.1 < 8) (p24 : ∀ p ∈ P 24, p.1 < 8) (hl24 : (P 24).length ≤ 10) (hd : Hd w) (hp : Pt w) (hbase : base ≤ w.heap.size) :
    Calls Tryd.prog 31 #[.pointer (some ⟨gv, 0, none⟩), .agg #[.int .i64 64, .int .i64 2, .int .i64 8, .int .i64 10, .int .i64 4, .int .i64 14, .int .i64 16, .int .i64 3], .int .i64 8216, .slice (some ⟨gw, 0, none⟩) 2 2] w
      fun e w' => e = .returned (.int .i64 0) ∧ StorePost base w gm 64 (upd (upd P 24 (1, 5)) 24 (2, 6)) (E + 3) w' := by
  have H14 := Lib.hid p14
  have H24 := Lib.hid p24
  clear p14 p24
  go_enter Tryd.func31, Tryd.ntmps31
  go_upto_region 1 with (fail)
  generalize hwn : w.alloc (.cells #[.int .i64 64, .int .i64 2, .int .i64 8, .int .i64 10, .int .i64 4, .int .i64 14, .int .i64 16, .int .i64 3] 31) = wn
  have hLn : Cl wn w.heap.size 31 #[.int .i64 64, .int .i64 2, .int .i64 8, .int .i64 10, .int .i64 4, .int .i64 14, .int .i64 16, .int .i64 3] := by rw [← hwn]; exact Cl.new _ _ _
  have hAn : Below w.heap.size w wn := by rw [← hwn]; (repeat (first | with_reducible exact Below.refl _ _ | with_reducible assumption | with_reducible refine below_drewN ?_ _ | with_reducible refine Below.drew ?_ | with_reducible refine Below.alloc ?_ (by first | omega | (simp; omega) | simp) _ | with_reducible refine Below.setCell ?_ (by first | omega | (simp; omega) | simp) _))
  clear hwn
  replace hM := hM.below hAn
  replace hV := hV.below hAn hV.lt
  replace hW := hW.below hAn hW.lt
  replace hd := hd.below hAn
  replace hp := hp.below hAn
  replace hbase := Nat.le_trans hbase hAn.size
  have hL14 : LdsM wn gm 112 4 := LdsM.of (n := 14) (r := 0) hM (by omega) (by omega) (by omega) (by omega) (by omega) H14.out h14
  have hL24 : LdsM wn gm 192 306 := LdsM.of (n := 24) (r := 0) hM (by omega) (by omega) (by omega) (by omega) (by omega) H24.out h24
  have hGr := GrewM.of_below (base := base) hAn
  have hln := hLn.lt
  obtain ⟨y0, y1, y2, y3, y4, y5, y6, y7⟩ := hLn.cells8
  go_wp2_with fail
  refine (follow8216 _ gv (LdsV.of hV hL14) (LdsV.of hV hL24) hd hp).mono ?_
  rintro e w1 ⟨rfl, hb1⟩
  replace hM := hM.below hb1
  replace hV := hV.below hb1 hV.lt
  replace hW := hW.below hb1 hW.lt
  replace hGr := hGr.trans (GrewM.of_below hb1)
  replace hbase := Nat.le_trans hbase hb1.size
  clear hAn hLn hd hp hL14 hL24 hln y0 y1 y2 y3 y4 y5 y6 y7 hb1
  go_upto_region 2 with (fail)
  generalize hwn : w1.alloc (.cells #[.int .i64 24, .int .i64 3, .int .i64 2, .int .i64 2] 53) = w2
  have hC : Cl w2 w1.heap.size 53 #[.int .i64 24, .int .i64 3, .int .i64 2, .int .i64 2] := by rw [← hwn]; exact Cl.new _ _ _
  have hAn : Below w1.heap.size w1 w2 := by rw [← hwn]; (repeat (first | with_reducible exact Below.refl _ _ | with_reducible assumption | with_reducible refine below_drewN ?_ _ | with_reducible refine Below.drew ?_ | with_reducible refine Below.alloc ?_ (by first | omega | (simp; omega) | simp) _ | with_reducible refine Below.setCell ?_ (by first | omega | (simp; omega) | simp) _))
  clear hwn
  replace hM := hM.below hAn
  replace hV := hV.below hAn hV.lt
  replace hW := hW.below hAn hW.lt
  replace hGr := hGr.trans (GrewM.of_below hAn)
  replace hbase := Nat.le_trans hbase hAn.size
  clear hAn
  have b0 := hC.cell 0
  have b1 := hC.cell 1
  have v0 := hV.cell 0
  simp only [List.getElem?_toArray, List.getElem?_cons_succ, List.getElem?_cons_zero] at b0 b1 v0
  have hcl := hC.lt
  have hvl := hV.lt
  go_wp2_with fail
  refine (room3 _).mono ?_
  rintro e w' ⟨rfl, rfl⟩
  go_wp2_with fail
  refine (contains56 _ gw hW).mono ?_
  rintro e w' ⟨rfl, rfl⟩
  go_upto_region 8 with (fail)
  go_cut [11, 12] (fun x y wx => x = .pointer (some ⟨gm, 0, none⟩) ∧ y = .int .i64 24 ∧ Below w2.heap.size w2 wx)
  case first =>
    go_region_held3 (fun w' => w'.cell? ⟨gv, 0, none⟩ = some (.pointer (some ⟨gm, 0, none⟩)) ∧ w'.cell? ⟨w1.heap.size, 0, none⟩ = some (.int .i64 24)) (go_keep)
      (first
        | (go_at_call 58; refine (m_calls _ gm).mono ?_; rintro e wa ⟨rfl, ba0⟩; (have ba : Below w2.heap.size w2 wa := (by first | exact below_of_drew ba0 | exact ba0)); (have e2 := (ba.cell (p := ⟨gv, 0, none⟩) hvl).trans v0); (have e3 := (ba.cell (p := ⟨w1.heap.size, 0, none⟩) hcl).trans b0); (have ls := ba.size)))
    all_goals (go_wp2_with fail; go_meet)
    all_goals exact ⟨rfl, rfl, ba⟩
  case rest =>
    obtain ⟨rfl, rfl, hbx⟩ := hcut
    obtain ⟨w3, hw3⟩ : ∃ x : World, x = wc := ⟨_, rfl⟩
    subst hw3
    replace hM := hM.below hbx
    replace hV := hV.below hbx hV.lt
    replace hW := hW.below hbx hW.lt
    replace hC := hC.below hbx hC.lt
    replace hGr := hGr.trans (GrewM.of_below hbx)
    replace hbase := Nat.le_trans hbase hbx.size
    clear hbx b0 b1 v0 hcl hvl
    have b0 := hC.cell 0
    simp only [List.getElem?_toArray, List.getElem?_cons_succ, List.getElem?_cons_zero] at b0
    have hcl := hC.lt
    go_wp2_with fail
    refine wp_loop_rounds 2 ?_
    rw [rounds_succ]
    go_wp2_with fail
    refine (state_zero base _ gm 64 24 P E hM (by omega)).mono ?_
    rintro e w4 ⟨rfl, hb4⟩
    replace hM := hM.below hb4
    replace hW := hW.below hb4 hW.lt
    replace hC := hC.below hb4 hC.lt
    replace hGr := hGr.trans (GrewM.of_below hb4)
    replace hbase := Nat.le_trans hbase hb4.size
    clear hb4 b0 hcl
    have b0 := hC.cell 0
    simp only [List.getElem?_toArray, List.getElem?_cons_succ, List.getElem?_cons_zero] at b0
    have hcl := hC.lt
    go_wp2_with fail
    rw [rounds_succ]
    go_wp2_with fail
    have c0 := hW.cell 0
    have c1 := hW.cell 1
    simp only [List.getElem?_toArray, List.getElem?_cons_succ, List.getElem?_cons_zero] at c0 c1
    have hwl := hW.lt
    refine wp_loop_rounds 3 ?_
    rw [rounds_succ]
    go_wp2_with fail
    refine (store_calls base _ gm 64 24 1 193 5 P E hM (by omega) (by omega) (by omega) (by omega) (by omega) (by omega) (by omega) (by omega) (by omega) hbase).mono ?_
    rintro e w5 ⟨rfl, hM, hg⟩
    replace hW := hg.cl hW (by decide)
    replace hC := hg.cl hC (by decide)
    replace hGr := hGr.trans hg
    replace hbase := Nat.le_trans hbase hg.size
    clear hg b0 hcl c0 c1 hwl
    have b0 := hC.cell 0
    have c0 := hW.cell 0
    have c1 := hW.cell 1
    simp only [List.getElem?_toArray, List.getElem?_cons_succ, List.getElem?_cons_zero] at b0 c0 c1
    have hcl := hC.lt
    have hwl := hW.lt
    go_wp2_with fail
    rw [rounds_succ]
    go_wp2_with fail
    have hl5 : (upd P 24 (1, 5) 24).length ≤ 50 := by rw [upd_self, List.length_append]; simp; omega
    refine (store_calls base _ gm 64 24 2 194 6 (upd P 24 (1, 5)) (E + 1) hM (by omega) (by omega) (by omega) (by omega) (by omega) (by omega) (by omega) (by omega) hl5 hbase).mono ?_
    rintro e w6 ⟨rfl, hM, hg⟩
    replace hW := hg.cl hW (by decide)
    replace hC := hg.cl hC (by decide)
    replace hGr := hGr.trans hg
    replace hbase := Nat.le_trans hbase hg.size
    clear hg b0 hcl c0 c1 hwl
    have b0 := hC.cell 0
    have c0 := hW.cell 0
    have c1 := hW.cell 1
    simp only [List.getElem?_toArray, List.getElem?_cons_succ, List.getElem?_cons_zero] at b0 c0 c1
    have hcl := hC.lt
    have hwl := hW.lt
    go_wp2_with fail
    rw [rounds_succ]
    go_wp2_with fail
    refine wp_loop_rounds 2 ?_
    rw [rounds_succ]
    go_wp2_with fail
    refine (flush_calls base _ gm 64 24 (upd (upd P 24 (1, 5)) 24 (2, 6)) (E + 1 + 1) hM (by omega) (by omega)).mono ?_
    rintro e w7 ⟨rfl, hM, hg⟩
    replace hGr := hGr.trans hg
    go_wp2_with fail
    rw [rounds_succ]
    go_wp2_with fail
    go_ret
    exact ⟨rfl, hM, hGr⟩
end Go.Proofs.YtcoeoggoaiebeaaDoor
