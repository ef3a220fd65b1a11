/-
  memory.Flush.
  class.Fill of two words at the pointer of the examples.
-/
import Derived.Test.YtckamjbdogpacaaGreatDoorMemC
import Derived.Test.YtckamjbdogpacaaGreatDoorFollow
import Derived.Test.YtckamjbdogpacaaGreatDoorFit
import Derived.LoopN
namespace Go.Proofs.YtckamjbdogpacaaGreatDoor
open Go.RowKit

theorem flushed {base : Nat} {w : World} {gm L n : Nat} {P : Nat → List (Nat × Int)} {E gl gb : Nat} {cur : Array Value} {Ae : Option Addr} {ne ce : Nat} {xs : List Value} {es : Array MapEntry} {ck : Nat}
    (g1 : base ≤ gm) (g2 : base ≤ gl) (g3 : base ≤ gb) (hL : L ≤ 200) (hG : Cl w gm 92 #[.slice (some ⟨gl, 0, none⟩) L L, .map (some gb), .int .i64 0, .slice Ae ne ce]) (hLn : Cl w gl 88 cur)
    (hZ : ZeroLines cur L) (hP : Pend w base cur L P) (hA : ApartP cur L) (hEv : w.ownsRow base 111 12 (.slice Ae ne ce) ne xs) (hne : ne ≤ E) (hB : w.heap[gb]? = some (.map es ck)) (hK : ∀ x ∈ es.toList, MapKept.IsKey (.int .i64) x.key)
    (hn : n < L) (k : Int) : StorePost base w gm L P E (w.setCell ⟨gl, n * 11 + 10, none⟩ (.int .i64 k)) := by
  have hsz : n * 11 + 10 < cur.size := by rw [hZ.1]; omega
  refine ⟨⟨gl, gb, _, Ae, ne, ce, xs, es, ck, g1, g2, g3, hL, hG.far (Cl.apart hG hLn (by decide)) _, hLn.set_ _ _, hZ.set _ _ (fun i j hi hj he => by omega), fun i hi => ?_, ?_, own_far hEv hLn (by decide) _ _, hne, map_far hB hLn _, hK⟩, GrewM.set hLn g2 (by decide) _ _⟩
  · obtain ⟨v', m', a, b, c, d⟩ := hP i hi
    by_cases hin : i = n
    · subst hin
      exact ⟨v', k, by rw [Array.getElem?_setIfInBounds_ne (by omega)]; exact a, Array.getElem?_setIfInBounds_self_of_lt hsz, own_far c hLn (by decide) _ _, d⟩
    · exact ⟨v', m', by rw [Array.getElem?_setIfInBounds_ne (by omega)]; exact a, by rw [Array.getElem?_setIfInBounds_ne (by omega)]; exact b, own_far c hLn (by decide) _ _, d⟩
  · intro i j hi hj hne v v' hv hv' b hb
    rw [Array.getElem?_setIfInBounds_ne (by omega)] at hv hv'
    exact hA i j hi hj hne v v' hv hv' b hb

set_option maxRecDepth 100000 in
set_option maxHeartbeats 4000000 in
theorem flush_calls (base : Nat) (w : World) (gm L n : Nat) (P : Nat → List (Nat × Int)) (E : Nat) (hM : MemIs base w gm L P E) (hE : E ≤ 1000) (hn : n < L) :
    Calls Tryz.prog 27 #[.pointer (some ⟨gm, 0, none⟩), .int .i64 (n : Int)] w
      fun e w' => e = .returned (.int .i64 0) ∧ StorePost base w gm L P (E + 1) w' := by
  obtain ⟨gl0, A0, c0, _, _, _, m0, hL200⟩ := hM.line hn
  go_enter Tryz.func27, Tryz.ntmps27
  go_wp2_with fail
  refine (has_yes _ gm L n _ _ m0 hn hL200).mono ?_
  rintro e w1 ⟨rfl, rfl⟩
  clear m0
  obtain ⟨gl, gb, cur, Ae, ne, ce, xs, es, ck, g1, g2, g3, _, hG, hLn, hZ, hP, hA, hEv, hne, hB, hK⟩ := hM
  obtain ⟨v, m, hv, hmk, hrow, hl⟩ := hP n hn
  obtain ⟨Av, cv, rfl⟩ := (Rd.own hrow).form
  have m0 := hG.cell 0
  simp only [List.getElem?_toArray, List.getElem?_cons_zero] at m0
  have l9 := (hLn.cell (n * 11 + 9)).trans hv
  have l10 := (hLn.cell (n * 11 + 10)).trans hmk
  have f10 := hLn.free (n * 11 + 10)
  have hgl := hLn.lt
  have hgm := hG.lt
  have ngl : ¬ gm = gl := Cl.apart hG hLn (by decide)
  have ngl' : ¬ gl = gm := fun h => ngl h.symm
  have hF : ∀ W, Below w.heap.size w W → StorePost base w gm L P E (W.setCell ⟨gl, n * 11 + 10, none⟩ (.int .i64 ((P n).length : Int))) := by
    intro W hb
    have hP' : Pend W base cur L P := fun i hi => by
      obtain ⟨v, m, a, b, c, d⟩ := hP i hi
      exact ⟨v, m, a, b, own_below c hb, d⟩
    obtain ⟨h1, h2⟩ := flushed g1 g2 g3 hL200 (hG.below hb hG.lt) (hLn.below hb hLn.lt) hZ hP' hA (own_below hEv hb) hne ((hb.block gb (lt_of_heap hB)).trans hB) hK hn ((P n).length : Int)
    exact ⟨h1, (GrewM.of_below hb).trans h2⟩
  have HF := Lib.hid hF
  clear hF
  have hk0 : (w.setCell ⟨gl, n * 11 + 10, none⟩ (.int .i64 ((P n).length : Int))).drew.cell? ⟨gm, 0, none⟩ = some (.slice (some ⟨gl, 0, none⟩) L L) := (hG.far (p := ⟨gl, n * 11 + 10, none⟩) ngl (.int .i64 ((P n).length : Int))).cell 0
  have hk9 : (w.setCell ⟨gl, n * 11 + 10, none⟩ (.int .i64 ((P n).length : Int))).drew.cell? ⟨gl, n * 11 + 9, none⟩ = some (.slice Av (P n).length cv) := ((hLn.set_ (n * 11 + 10) (.int .i64 ((P n).length : Int))).cell (n * 11 + 9)).trans (by rw [Array.getElem?_setIfInBounds_ne (by omega)]; exact hv)
  clear hP hZ hA hK hB hEv hrow hv hmk hG hLn
  go_upto_region 3 with (fail)
  go_cut [] (fun wx => StorePost base w gm L P E wx)
  case first =>
    go_region_held3 (fun w' => w'.cell? ⟨gm, 0, none⟩ = some (.slice (some ⟨gl, 0, none⟩) L L) ∧ w'.cell? ⟨gl, n * 11 + 9, none⟩ = some (.slice Av (P n).length cv)) (first | go_keep | (refine ⟨?_, ?_⟩ <;> first | exact hk0 | exact hk9))
      (fail)
    go_wp2_with fail
    go_meet
    exact HF.out _ (by (repeat (first | with_reducible exact Below.refl _ _ | with_reducible assumption | with_reducible refine below_drewN ?_ _ | with_reducible refine Below.drew ?_ | with_reducible refine Below.alloc ?_ (by first | omega | (simp; omega) | simp) _ | with_reducible refine Below.setCell ?_ (by first | omega | (simp; omega) | simp) _)))
  case rest =>
    obtain ⟨hM3, hgr3⟩ := hcut
    obtain ⟨w3, hw3⟩ : ∃ x : World, x = wc := ⟨_, rfl⟩
    subst hw3
    clear m0 l9 l10 f10 hgl hgm ngl ngl' HF
    go_wp2_with fail
    refine (note_calls base _ gm L _ E hM3 (by omega) _ _ _ _).mono ?_
    rintro e w5 ⟨rfl, hM5, hgr5⟩
    go_wp2_with fail
    go_ret
    exact ⟨rfl, hM5, hgr3.trans hgr5⟩
end Go.Proofs.YtckamjbdogpacaaGreatDoor

namespace Go.Proofs.YtckamjbdogpacaaGreatDoor
open Go.RowKit
set_option linter.unusedSimpArgs false
set_option linter.unusedVariables false

theorem fillok (w : World) (x : Int) (h0 : 0 ≤ x) (h1 : x ≤ 100) : Calls Tryz.prog 48 #[.int .i64 x] w fun e w' => e = .returned (.bool false) ∧ w = w' := by
  have b0 : decide (x < 0) = false := by simp; omega
  have b1 : decide (1099511627775 < x) = false := by simp; omega
  go_enter Tryz.func48, Tryz.ntmps48
  go_wp2
  go_ret
  exact ⟨by simp [b0, b1], rfl⟩

set_option maxHeartbeats 1000000 in
theorem index56 (w : World) (gw : Nat) (hc : Cl w gw 3 #[.int .i64 5, .int .i64 6]) :
    Calls Tryz.prog 80 #[.slice (some ⟨gw, 0, none⟩) 2 2, .func (.func 48) #[] #[]] w fun e w' => e = .returned (.int .i64 (-1)) ∧ w = w' := by
  have c0 : w.cell? ⟨gw, 0, none⟩ = some (.int .i64 5) := hc.cell 0
  have c1 : w.cell? ⟨gw, 1, none⟩ = some (.int .i64 6) := hc.cell 1
  have hl := hc.lt
  go_enter Tryz.func80, Tryz.ntmps80
  go_wp2_with fail
  refine wp_loop_rounds 3 ?_
  rw [rounds_succ]
  go_wp2_with fail
  refine (fillok _ 5 (by omega) (by omega)).mono ?_
  rintro e w1 ⟨rfl, rfl⟩
  go_wp2_with fail
  rw [rounds_succ]
  go_wp2_with fail
  refine (fillok _ 6 (by omega) (by omega)).mono ?_
  rintro e w1 ⟨rfl, rfl⟩
  go_wp2_with fail
  rw [rounds_succ]
  go_wp2_with fail
  go_ret
  exact ⟨rfl, rfl⟩
theorem contains56 (w : World) (gw : Nat) (hc : Cl w gw 3 #[.int .i64 5, .int .i64 6]) :
    Calls Tryz.prog 47 #[.slice (some ⟨gw, 0, none⟩) 2 2, .func (.func 48) #[] #[]] w fun e w' => e = .returned (.bool false) ∧ w = w' := by
  go_enter Tryz.func47, Tryz.ntmps47
  go_wp2_with fail
  refine (index56 _ gw hc).mono ?_
  rintro e w1 ⟨rfl, rfl⟩
  go_wp2_with fail
  go_ret
  exact ⟨rfl, rfl⟩

/-- What lies below the memory is as it was. -/
theorem GrewM.cell {base g o : Nat} {w w' : World} (hg : GrewM base w w') (h1 : g < base) (h2 : g < w.heap.size) : w'.cell? ⟨g, o, none⟩ = w.cell? ⟨g, o, none⟩ := by
  have hb : Below (g + 1) w w' := ⟨hg.1, hg.2.1, hg.2.2.1, hg.2.2.2.1, fun k hk => by
    rcases hg.2.2.2.2 k (by omega) with h | ⟨h, _⟩
    · exact h
    · omega⟩
  exact hb.cell (p := ⟨g, o, none⟩) (Nat.lt_succ_self g)
theorem Hd.grewM {base : Nat} {w w' : World} (h : Hd w) (hl : 2 < base) (hg : GrewM base w w') : Hd w' := by
  have hlt := h.lt
  obtain ⟨h0, h1, h2, h3, h4, h5⟩ := h
  exact ⟨(hg.cell hl hlt).trans h0, (hg.cell hl hlt).trans h1, (hg.cell hl hlt).trans h2, (hg.cell hl hlt).trans h3, (hg.cell hl hlt).trans h4, (hg.cell hl hlt).trans h5⟩
theorem Pt.grewM {base : Nat} {w w' : World} (h : Pt w) (hl : 0 < base) (hg : GrewM base w w') : Pt w' := by
  have hlt := h.lt
  obtain ⟨h0, h1, h2, h3⟩ := h
  exact ⟨(hg.cell hl hlt).trans h0, (hg.cell hl hlt).trans h1, (hg.cell hl hlt).trans h2, (hg.cell hl hlt).trans h3⟩

set_option maxRecDepth 100000 in
set_option maxHeartbeats 4000000 in
theorem fill_calls (base : Nat) (w : World) (gv gm gw : Nat) (P : Nat → List (Nat × Int)) (E : Nat) (hM : MemIs base w gm 64 P E) (hE : E ≤ 100) (hV : Cl w gv 100 #[.pointer (some ⟨gm, 0, none⟩), .slice none 0 0])
    (hW : Cl w gw 3 #[.int .i64 5, .int .i64 6]) (h14 : sh (P 14) 0 = 4) (h24 : sh (P 24) 0 = 306) (p14 : ∀ p ∈ P 14, p.1 < 8) (p24 : ∀ p ∈ P 24, p.1 < 8) (hl24 : (P 24).length ≤ 10) (hd : Hd w) (hp : Pt w) (hbase : base ≤ w.heap.size) :
    Calls Tryz.prog 20 #[.pointer (some ⟨gv, 0, none⟩), .agg #[.int .i64 64, .int .i64 2, .int .i64 8, .int .i64 10, .int .i64 4, .int .i64 14, .int .i64 16, .int .i64 3], .int .i64 8216, .slice (some ⟨gw, 0, none⟩) 2 2] w
      fun e w' => e = .returned (.int .i64 0) ∧ StorePost base w gm 64 (upd (upd P 24 (1, 5)) 24 (2, 6)) (E + 3) w' := by
  have H14 := Lib.hid p14
  have H24 := Lib.hid p24
  clear p14 p24
  go_enter Tryz.func20, Tryz.ntmps20
  go_upto_region 1 with (fail)
  generalize hwn : w.alloc (.cells #[.int .i64 64, .int .i64 2, .int .i64 8, .int .i64 10, .int .i64 4, .int .i64 14, .int .i64 16, .int .i64 3] 29) = wn
  have hLn : Cl wn w.heap.size 29 #[.int .i64 64, .int .i64 2, .int .i64 8, .int .i64 10, .int .i64 4, .int .i64 14, .int .i64 16, .int .i64 3] := by rw [← hwn]; exact Cl.new _ _ _
  have hAn : Below w.heap.size w wn := by rw [← hwn]; (repeat (first | with_reducible exact Below.refl _ _ | with_reducible assumption | with_reducible refine below_drewN ?_ _ | with_reducible refine Below.drew ?_ | with_reducible refine Below.alloc ?_ (by first | omega | (simp; omega) | simp) _ | with_reducible refine Below.setCell ?_ (by first | omega | (simp; omega) | simp) _))
  clear hwn
  replace hM := hM.below hAn
  replace hV := hV.below hAn hV.lt
  replace hW := hW.below hAn hW.lt
  replace hd := hd.below hAn
  replace hp := hp.below hAn
  replace hbase := Nat.le_trans hbase hAn.size
  have hL14 : LdsM wn gm 112 4 := LdsM.of (n := 14) (r := 0) hM (by omega) (by omega) (by omega) (by omega) (by omega) H14.out h14
  have hL24 : LdsM wn gm 192 306 := LdsM.of (n := 24) (r := 0) hM (by omega) (by omega) (by omega) (by omega) (by omega) H24.out h24
  have hGr := GrewM.of_below (base := base) hAn
  have hln := hLn.lt
  obtain ⟨y0, y1, y2, y3, y4, y5, y6, y7⟩ := hLn.cells8
  go_wp2_with fail
  refine (follow8216 _ gv (LdsV.of hV hL14) (LdsV.of hV hL24) hd hp).mono ?_
  rintro e w1 ⟨rfl, hb1⟩
  replace hM := hM.below hb1
  replace hV := hV.below hb1 hV.lt
  replace hW := hW.below hb1 hW.lt
  replace hGr := hGr.trans (GrewM.of_below hb1)
  replace hbase := Nat.le_trans hbase hb1.size
  clear hAn hLn hd hp hL14 hL24 hln y0 y1 y2 y3 y4 y5 y6 y7 hb1
  go_upto_region 2 with (fail)
  generalize hwn : w1.alloc (.cells #[.int .i64 24, .int .i64 3, .int .i64 2, .int .i64 2] 43) = w2
  have hC : Cl w2 w1.heap.size 43 #[.int .i64 24, .int .i64 3, .int .i64 2, .int .i64 2] := by rw [← hwn]; exact Cl.new _ _ _
  have hAn : Below w1.heap.size w1 w2 := by rw [← hwn]; (repeat (first | with_reducible exact Below.refl _ _ | with_reducible assumption | with_reducible refine below_drewN ?_ _ | with_reducible refine Below.drew ?_ | with_reducible refine Below.alloc ?_ (by first | omega | (simp; omega) | simp) _ | with_reducible refine Below.setCell ?_ (by first | omega | (simp; omega) | simp) _))
  clear hwn
  replace hM := hM.below hAn
  replace hV := hV.below hAn hV.lt
  replace hW := hW.below hAn hW.lt
  replace hGr := hGr.trans (GrewM.of_below hAn)
  replace hbase := Nat.le_trans hbase hAn.size
  clear hAn
  have b0 := hC.cell 0
  have b1 := hC.cell 1
  have v0 := hV.cell 0
  simp only [List.getElem?_toArray, List.getElem?_cons_succ, List.getElem?_cons_zero] at b0 b1 v0
  have hcl := hC.lt
  have hvl := hV.lt
  go_wp2_with fail
  refine (room3 _).mono ?_
  rintro e w' ⟨rfl, rfl⟩
  go_wp2_with fail
  refine (contains56 _ gw hW).mono ?_
  rintro e w' ⟨rfl, rfl⟩
  go_upto_region 8 with (fail)
  go_cut [11, 12] (fun x y wx => x = .pointer (some ⟨gm, 0, none⟩) ∧ y = .int .i64 24 ∧ Below w2.heap.size w2 wx)
  case first =>
    go_region_held3 (fun w' => w'.cell? ⟨gv, 0, none⟩ = some (.pointer (some ⟨gm, 0, none⟩)) ∧ w'.cell? ⟨w1.heap.size, 0, none⟩ = some (.int .i64 24)) (go_keep)
      (first
        | (go_at_call 49; refine (m_calls _ gm).mono ?_; rintro e wa ⟨rfl, ba0⟩; (have ba : Below w2.heap.size w2 wa := (by first | exact below_of_drew ba0 | exact ba0)); (have e2 := (ba.cell (p := ⟨gv, 0, none⟩) hvl).trans v0); (have e3 := (ba.cell (p := ⟨w1.heap.size, 0, none⟩) hcl).trans b0); (have ls := ba.size)))
    all_goals (go_wp2_with fail; go_meet)
    all_goals exact ⟨rfl, rfl, ba⟩
  case rest =>
    obtain ⟨rfl, rfl, hbx⟩ := hcut
    obtain ⟨w3, hw3⟩ : ∃ x : World, x = wc := ⟨_, rfl⟩
    subst hw3
    replace hM := hM.below hbx
    replace hV := hV.below hbx hV.lt
    replace hW := hW.below hbx hW.lt
    replace hC := hC.below hbx hC.lt
    replace hGr := hGr.trans (GrewM.of_below hbx)
    replace hbase := Nat.le_trans hbase hbx.size
    clear hbx b0 b1 v0 hcl hvl
    have b0 := hC.cell 0
    simp only [List.getElem?_toArray, List.getElem?_cons_succ, List.getElem?_cons_zero] at b0
    have hcl := hC.lt
    go_wp2_with fail
    refine wp_loop_rounds 2 ?_
    rw [rounds_succ]
    go_wp2_with fail
    refine (state_zero base _ gm 64 24 P E hM (by omega)).mono ?_
    rintro e w4 ⟨rfl, hb4⟩
    replace hM := hM.below hb4
    replace hW := hW.below hb4 hW.lt
    replace hC := hC.below hb4 hC.lt
    replace hGr := hGr.trans (GrewM.of_below hb4)
    replace hbase := Nat.le_trans hbase hb4.size
    clear hb4 b0 hcl
    have b0 := hC.cell 0
    simp only [List.getElem?_toArray, List.getElem?_cons_succ, List.getElem?_cons_zero] at b0
    have hcl := hC.lt
    go_wp2_with fail
    rw [rounds_succ]
    go_wp2_with fail
    have c0 := hW.cell 0
    have c1 := hW.cell 1
    simp only [List.getElem?_toArray, List.getElem?_cons_succ, List.getElem?_cons_zero] at c0 c1
    have hwl := hW.lt
    refine wp_loop_rounds 3 ?_
    rw [rounds_succ]
    go_wp2_with fail
    refine (store_calls base _ gm 64 24 1 193 5 P E hM (by omega) (by omega) (by omega) (by omega) (by omega) (by omega) (by omega) (by omega) (by omega) hbase).mono ?_
    rintro e w5 ⟨rfl, hM, hg⟩
    replace hW := hg.cl hW (by decide)
    replace hC := hg.cl hC (by decide)
    replace hGr := hGr.trans hg
    replace hbase := Nat.le_trans hbase hg.size
    clear hg b0 hcl c0 c1 hwl
    have b0 := hC.cell 0
    have c0 := hW.cell 0
    have c1 := hW.cell 1
    simp only [List.getElem?_toArray, List.getElem?_cons_succ, List.getElem?_cons_zero] at b0 c0 c1
    have hcl := hC.lt
    have hwl := hW.lt
    go_wp2_with fail
    rw [rounds_succ]
    go_wp2_with fail
    have hl5 : (upd P 24 (1, 5) 24).length ≤ 50 := by rw [upd_self, List.length_append]; simp; omega
    refine (store_calls base _ gm 64 24 2 194 6 (upd P 24 (1, 5)) (E + 1) hM (by omega) (by omega) (by omega) (by omega) (by omega) (by omega) (by omega) (by omega) hl5 hbase).mono ?_
    rintro e w6 ⟨rfl, hM, hg⟩
    replace hW := hg.cl hW (by decide)
    replace hC := hg.cl hC (by decide)
    replace hGr := hGr.trans hg
    replace hbase := Nat.le_trans hbase hg.size
    clear hg b0 hcl c0 c1 hwl
    have b0 := hC.cell 0
    have c0 := hW.cell 0
    have c1 := hW.cell 1
    simp only [List.getElem?_toArray, List.getElem?_cons_succ, List.getElem?_cons_zero] at b0 c0 c1
    have hcl := hC.lt
    have hwl := hW.lt
    go_wp2_with fail
    rw [rounds_succ]
    go_wp2_with fail
    refine wp_loop_rounds 2 ?_
    rw [rounds_succ]
    go_wp2_with fail
    refine (flush_calls base _ gm 64 24 (upd (upd P 24 (1, 5)) 24 (2, 6)) (E + 1 + 1) hM (by omega) (by omega)).mono ?_
    rintro e w7 ⟨rfl, hM, hg⟩
    replace hGr := hGr.trans hg
    go_wp2_with fail
    rw [rounds_succ]
    go_wp2_with fail
    go_ret
    exact ⟨rfl, hM, hGr⟩
end Go.Proofs.YtckamjbdogpacaaGreatDoor
