/-
  The specification's memory: settle.
-/
import Derived.Test.YtckamjbdogpacaaGreatDoorSmC
namespace Go.Proofs.YtckamjbdogpacaaGreatDoor
open Go.RowKit
set_option linter.unusedSimpArgs false
set_option linter.unusedVariables false

theorem Rd.tail2 {w : World} {e : TypeId} {size gp o n c k : Nat} {xs : List Value} (h : Rd w e size (.slice (some ⟨gp, o, none⟩) n c) n xs) (hk : k ≤ n) : Rd w e size (.slice (some ⟨gp, o + k * size, none⟩) (n - k) (c - k)) (n - k) (xs.drop (k * size)) := by
  obtain ⟨h1, A, c', hv, hc, hm, hz, h2⟩ := h
  injection hv with hA _ hcc
  subst hcc
  refine ⟨by rw [List.length_drop, h1, Nat.sub_mul], _, _, rfl, by omega, by omega, fun h => by simp at h, fun hn => ?_⟩
  obtain ⟨b, o', cur, fr, hA', hh, hcell⟩ := h2 (by omega)
  rw [← hA] at hA'
  injection hA' with hA'
  injection hA' with hb ho _
  subst hb
  subst ho
  refine ⟨gp, o + k * size, cur, fr, rfl, hh, fun j u hj => ?_⟩
  rw [List.getElem?_drop] at hj
  have := hcell _ u hj
  rwa [← Nat.add_assoc] at this

def SetRel (w : World) (X : Array Value) (gW k : Nat) (v : Value) (wr : World) : Prop := ∃ (i : Nat) (h : Nat → Int), i ≤ k ∧ v = .int .i64 (i : Int) ∧ Cl wr w.heap.size 108 X ∧ Cl wr gW 67 #[.int .i64 (h 0), .int .i64 (h 1), .int .i64 (h 2), .int .i64 (h 3), .int .i64 (h 4), .int .i64 (h 5), .int .i64 (h 6), .int .i64 (h 7)] ∧ Below w.heap.size w wr

set_option maxRecDepth 100000 in
set_option maxHeartbeats 4000000 in
theorem ssettle_in (G : Nat → Prop) (w : World) (gm L E n k gl0 cap0 len0 cv0 : Nat) (Av0 : Option Addr) (hM : MemS G w gm L E) (hE : E ≤ 900) (hU : Up G w.heap.size) (hn : n < L) (q0 : w.cell? ⟨gm, 0, none⟩ = some (.slice (some ⟨gl0, 0, none⟩) L cap0)) (q9 : w.cell? ⟨gl0, n * 11 + 9, none⟩ = some (.slice Av0 len0 cv0)) (hk : k ≤ len0) (hk0 : 0 < k) :
    Calls Tryz.prog 87 #[.pointer (some ⟨gm, 0, none⟩), .int .i64 (n : Int), .int .i64 (k : Int)] w (SV G w gm L E) := by
  obtain ⟨gl, cap, cur, sp, Ae, ne, ce, xs, h1, h2, hS, hL, h3, hP, hEv, hne, g1, g2, g3⟩ := hM
  have m0 := hS.cell 0
  simp only [List.getElem?_toArray, List.getElem?_cons_zero] at m0
  have hgl0 : gl0 = gl := by
    rw [m0] at q0
    injection q0 with q0
    injection q0 with q0
    injection q0 with q0
    injection q0 with q0
    exact q0.symm
  rw [hgl0] at q9
  clear q0 hgl0
  obtain ⟨f, c, v, m, ps, a, b, d, e, e1, e2, e3, e4, e5⟩ := hP n hn
  obtain ⟨_, Av, cv, rfl, hcc, hmx, hnil, hcell⟩ := Rd.own e2
  have l9 := (hL.cell (n * 11 + 9)).trans d
  have hlen : len0 = ps.length := by
    rw [l9] at q9
    injection q9 with q9
    injection q9 with _ q9
    exact q9.symm
  subst hlen
  obtain ⟨pb, po, pc, pfr, rfl, hph, hpc⟩ := hcell (by omega)
  clear q9 hcell hnil
  have l10 := (hL.cell (n * 11 + 10)).trans e
  have lw := fun j (hj : j < 8) => (hL.cell (n * 11 + j)).trans (a j hj)
  have l0 : w.cell? ⟨gl, n * 11, none⟩ = some (.int .i64 (f 0)) := lw 0 (by omega)
  have l1 := lw 1 (by omega)
  have l2 := lw 2 (by omega)
  have l3 := lw 3 (by omega)
  have l4 := lw 4 (by omega)
  have l5 := lw 5 (by omega)
  have l6 := lw 6 (by omega)
  have l7 := lw 7 (by omega)
  have l8 := (hL.cell (n * 11 + 8)).trans b
  have hgl := hL.lt
  have hgm := hS.lt
  have hpb := lt_of_heap hph
  have ngl : ¬ gm = gl := Cl.apart hS hL (by decide)
  have ngl' : ¬ gl = gm := fun h => ngl h.symm
  have ni0 : (0 : Int) ≤ (n : Int) := by omega
  have ni1 : (n : Int) < (L : Int) := by omega
  have kne : ((k : Int) == 0) = false := by simp; omega
  have HS := Lib.hid hS
  have HL := Lib.hid hL
  have HP := Lib.hid hP
  have HEV := Lib.hid hEv
  have HU := Lib.hid hU
  have HE2 := Lib.hid e2
  have HE4 := Lib.hid e4
  have HE1 := Lib.hid e1
  have HPH := Lib.hid hph
  have HPC := Lib.hid hpc
  have HX0 : Hid (∃ X : Array Value, X = #[.int .i64 (f 0), .int .i64 (f 1), .int .i64 (f 2), .int .i64 (f 3), .int .i64 (f 4), .int .i64 (f 5), .int .i64 (f 6), .int .i64 (f 7), .int .i64 c, .slice (some ⟨pb, po, none⟩) ps.length cv, .int .i64 (m : Int)]) := ⟨_, rfl⟩
  clear hS hL hP hEv hU e2 e4 e1 hph hpc a b d e e5 lw
  go_enter Tryz.func87, Tryz.ntmps87
  go_upto_region 2 with (fail)
  obtain ⟨w1, hw1⟩ : ∃ x, x = w.alloc (.cells #[.int .i64 (f 0), .int .i64 (f 1), .int .i64 (f 2), .int .i64 (f 3), .int .i64 (f 4), .int .i64 (f 5), .int .i64 (f 6), .int .i64 (f 7), .int .i64 c, .slice (some ⟨pb, po, none⟩) ps.length cv, .int .i64 (m : Int)] 108) := ⟨_, rfl⟩
  have hX1 : Cl w1 w.heap.size 108 #[.int .i64 (f 0), .int .i64 (f 1), .int .i64 (f 2), .int .i64 (f 3), .int .i64 (f 4), .int .i64 (f 5), .int .i64 (f 6), .int .i64 (f 7), .int .i64 c, .slice (some ⟨pb, po, none⟩) ps.length cv, .int .i64 (m : Int)] := by rw [hw1]; exact Cl.new _ _ _
  have hA1 : Below w.heap.size w w1 := by rw [hw1]; (repeat (first | with_reducible exact Below.refl _ _ | with_reducible assumption | with_reducible refine below_drewN ?_ _ | with_reducible refine Below.drew ?_ | with_reducible refine Below.alloc ?_ (by first | omega | (simp; omega) | simp) _ | with_reducible refine Below.setCell ?_ (by first | omega | (simp; omega) | simp) _))
  rw [← hw1]
  clear hw1 HX0
  have hx1 := hX1.lt
  have HX1 := Lib.hid hX1
  have HA1 := Lib.hid hA1
  have x0 := hX1.cell 0
  have x1 := hX1.cell 1
  have x2 := hX1.cell 2
  have x3 := hX1.cell 3
  have x4 := hX1.cell 4
  have x5 := hX1.cell 5
  have x6 := hX1.cell 6
  have x7 := hX1.cell 7
  have x8 := hX1.cell 8
  simp only [List.getElem?_toArray, List.getElem?_cons_succ, List.getElem?_cons_zero] at x0 x1 x2 x3 x4 x5 x6 x7 x8
  clear hX1 hA1 l0 l1 l2 l3 l4 l5 l6 l7 l8
  go_wp2_with fail
  refine (sfix_calls _ f c).mono ?_
  rintro ee w2 ⟨⟨g, c2, er, rfl⟩, hb2⟩
  have HB2 := Lib.hid (HA1.out.trans (hb2.mono HA1.out.size))
  have HX2 := Lib.hid (HX1.out.below hb2 hx1)
  clear hb2 x0 x1 x2 x3 x4 x5 x6 x7 x8
  go_upto_region 3 with (fail)
  obtain ⟨w3, hw3⟩ : ∃ x, x = w2.alloc (.cells #[.int .i64 (g 0), .int .i64 (g 1), .int .i64 (g 2), .int .i64 (g 3), .int .i64 (g 4), .int .i64 (g 5), .int .i64 (g 6), .int .i64 (g 7)] 67) := ⟨_, rfl⟩
  have hW3 : Cl w3 w2.heap.size 67 #[.int .i64 (g 0), .int .i64 (g 1), .int .i64 (g 2), .int .i64 (g 3), .int .i64 (g 4), .int .i64 (g 5), .int .i64 (g 6), .int .i64 (g 7)] := by rw [hw3]; exact Cl.new _ _ _
  have hA3 : Below w2.heap.size w2 w3 := by rw [hw3]; (repeat (first | with_reducible exact Below.refl _ _ | with_reducible assumption | with_reducible refine below_drewN ?_ _ | with_reducible refine Below.drew ?_ | with_reducible refine Below.alloc ?_ (by first | omega | (simp; omega) | simp) _ | with_reducible refine Below.setCell ?_ (by first | omega | (simp; omega) | simp) _))
  rw [← hw3]
  clear hw3
  have hs2 := HB2.out.size
  have hs2' : w.heap.size < w2.heap.size := HX2.out.lt
  have HREL0 : Hid (SetRel w _ w2.heap.size k (.int .i64 0) w3) := ⟨0, g, Nat.zero_le _, rfl, HX2.out.below hA3 HX2.out.lt, hW3, HB2.out.trans (hA3.mono hs2)⟩
  clear hW3 hA3
  go_wp2_with fail
  go_loopw [10] (fun v wr => SetRel w #[.int .i64 (f 0), .int .i64 (f 1), .int .i64 (f 2), .int .i64 (f 3), .int .i64 (f 4), .int .i64 (f 5), .int .i64 (f 6), .int .i64 (f 7), .int .i64 c, .slice (some ⟨pb, po, none⟩) ps.length cv, .int .i64 (m : Int)] w2.heap.size k v wr) (fun v _ => k - (intOf v).toNat)
  case atStart => exact HREL0.out
  case round =>
    clear HREL0
    obtain ⟨i, h, hi, rfl, hX, hW, hb⟩ := hrel
    have hxl := hX.lt
    have hwl := hW.lt
    have x9 := hX.cell 9
    simp only [List.getElem?_toArray, List.getElem?_cons_succ, List.getElem?_cons_zero] at x9
    by_cases hlt : i < k
    · obtain ⟨⟨wd, vl⟩, hp⟩ : ∃ x, ps[i]? = some x := ⟨_, List.getElem?_eq_getElem (show i < ps.length by omega)⟩
      have hw8 : wd < 8 := (HE4.out _ (List.mem_of_getElem? hp)).1
      obtain ⟨c0, c1⟩ := stCells_get ps i _ hp
      have d0 : wr.cell? ⟨pb, po + i * 2, none⟩ = some (.int .i64 (wd : Int)) := (hb.cell (p := ⟨pb, po + i * 2, none⟩) hpb).trans (by rw [cell_of_row w pb _ pc _ pfr HPH.out]; exact HPC.out _ _ c0)
      have d1 : wr.cell? ⟨pb, po + i * 2 + 1, none⟩ = some (.int .i64 vl) := (hb.cell (p := ⟨pb, po + i * 2 + 1, none⟩) hpb).trans (by rw [Nat.add_assoc, cell_of_row w pb _ pc _ pfr HPH.out]; exact HPC.out _ _ c1)
      have y0 := (hW.cell wd).trans (w8_get h wd hw8)
      have y1 := hW.free wd
      have wi1 : (wd : Int) < 8 := by omega
      have wi0 : (0 : Int) ≤ (wd : Int) := by omega
      have ii0 : (0 : Int) ≤ (i : Int) := by omega
      have ii1 : (i : Int) < (ps.length : Int) := by omega
      have hset := hW.set_ wd (.int .i64 vl)
      rw [w8_set h wd vl hw8] at hset
      have HN : Hid (SetRel w #[.int .i64 (f 0), .int .i64 (f 1), .int .i64 (f 2), .int .i64 (f 3), .int .i64 (f 4), .int .i64 (f 5), .int .i64 (f 6), .int .i64 (f 7), .int .i64 c, .slice (some ⟨pb, po, none⟩) ps.length cv, .int .i64 (m : Int)] w2.heap.size k (.int .i64 (((i + 1 : Nat) : Int))) (wr.setCell ⟨w2.heap.size, wd, none⟩ (.int .i64 vl)).drew) := ⟨i + 1, setW h wd vl, by omega, rfl, hX.far (p := ⟨w2.heap.size, wd, none⟩) (by show ¬ w.heap.size = w2.heap.size; omega) _, hset, by (repeat (first | with_reducible exact Below.refl _ _ | with_reducible assumption | with_reducible refine below_drewN ?_ _ | with_reducible refine Below.drew ?_ | with_reducible refine Below.alloc ?_ (by first | omega | (simp; omega) | simp) _ | with_reducible refine Below.setCell ?_ (by first | omega | (simp; omega) | simp) _))⟩
      clear c0 c1 hset hp
      go_wp2_with fail
      go_region
      go_wp2_with fail
      go_roundw
      case rel =>
        obtain ⟨i2, h', r0, r1, r2, r3, r4⟩ := HN.out
        exact ⟨i2, h', r0, by rw [← r1]; go_num, r2, r3, r4⟩
      case measure => simp [intOf]; omega
    · obtain rfl : i = k := by omega
      obtain ⟨i0, hi0, hz0, hz1, hz2⟩ := info_parts st_info
      obtain ⟨qs, hqs⟩ : ∃ qs, ps.drop i = qs := ⟨_, rfl⟩
      have hql : qs.length = ps.length - i := by rw [← hqs, List.length_drop]
      have HQ4 : Hid (StIn qs) := fun p hp => HE4.out p (List.mem_of_mem_drop (by rw [hqs]; exact hp))
      have k1 : (0 : Int) ≤ (i : Int) := by omega
      have k2 : (i : Int) ≤ (ps.length : Int) := by omega
      have hbW := Below.alloc hb hb.size (.cells #[] 137)
      have hown : (wr.alloc (.cells #[] 137)).ownsRow wr.heap.size 137 2 (.slice (some ⟨wr.heap.size, 0, none⟩) 0 0) 0 [] := World.ownsRow_made wr #[] 0 (Nat.le_refl _) (by simp [maxLen]) rfl
      have hR := Rd.tail2 (k := i) ((Rd.own HE2.out).below hbW) hk
      rw [← stCells_drop, hqs, ← hql] at hR
      have HR := Lib.hid hR
      have HB := Lib.hid hb
      have HQL := Lib.hid hql
      have HX := Lib.hid hX
      have HWW := Lib.hid hW
      clear hR hb hbW hqs hX hW
      go_upto_region 7 with (fail)
      go_cut [11] (fun l wx => ∃ A c1, l = .slice A qs.length c1 ∧ Below wr.heap.size wr wx ∧ wx.ownsRow wr.heap.size 137 2 (.slice A qs.length c1) qs.length (stCells qs))
      case first =>
        by_cases hcv : cv = i
        · have hq0 : qs = [] := List.eq_nil_of_length_eq_zero (by omega)
          have hlen0 : ps.length - i = 0 := by omega
          subst hq0
          clear hql HQL
          go_wp2_with fail
          go_meet
          exact ⟨some ⟨wr.heap.size, 0, none⟩, 0, by first | rfl | (rw [hlen0]; rfl), by (repeat (first | with_reducible exact Below.refl _ _ | with_reducible assumption | with_reducible refine below_drewN ?_ _ | with_reducible refine Below.drew ?_ | with_reducible refine Below.alloc ?_ (by first | omega | (simp; omega) | simp) _ | with_reducible refine Below.setCell ?_ (by first | omega | (simp; omega) | simp) _)), hown⟩
        · have HN := Lib.hid (Rd.news HR.out)
          have HLQ : Hid ((stCells qs).length = (ps.length - i) * 2) := by rw [← hql]; exact HR.out.1
          have hcv0 : ¬ (cv : Int) = (i : Int) := by omega
          have hm9 : ps.length - i ≤ 1000 := by omega
          clear hql
          go_wp2_with (at_builtin; refine wpList_append_own _ rfl _ _ 86 rfl wr.heap.size 137 i0 (.agg #[.int .i64 0, .int .i64 0]) 2 16 Tryz.underlying86 hi0 hz0 hz1 hz2 rfl (by decide) (.slice (some ⟨wr.heap.size, 0, none⟩) 0 0) 0 [] rfl hown ⟨pb, po + i * 2, none⟩ (ps.length - i) (cv - i) (stCells qs) rfl HLQ.out HN.out (st_one qs) (by unfold maxLen; omega) (by omega) (by simp) ?_; intro v' w4 hown1 hg1 hv1)
          obtain ⟨_, A, c1, hv, _⟩ := Rd.own hown1
          simp only [Nat.zero_add] at hv
          subst hv
          go_meet
          exact ⟨A, c1, by rw [HQL.out], Below.grown (by (repeat (first | with_reducible exact Below.refl _ _ | with_reducible assumption | with_reducible refine below_drewN ?_ _ | with_reducible refine Below.drew ?_ | with_reducible refine Below.alloc ?_ (by first | omega | (simp; omega) | simp) _ | with_reducible refine Below.setCell ?_ (by first | omega | (simp; omega) | simp) _))) hg1 (by simp) (by simp [Value.ownBlock]), by rw [HQL.out]; simpa using hown1⟩
      case rest =>
        obtain ⟨A, c1, rfl, hb4, hown4⟩ := hcut
        obtain ⟨w4, hw4⟩ : ∃ x : World, x = wc := ⟨_, rfl⟩
        subst hw4
        have HBW := Lib.hid (HB.out.trans (hb4.mono HB.out.size))
        have hW4 := HWW.out.below hb4 hwl
        have hX4 := HX.out.below hb4 hxl
        have hL4 := HL.out.below HBW.out hgl
        have em4 := (HBW.out.cell (p := ⟨gm, 0, none⟩) hgm).trans m0
        have hwl4 := hW4.lt
        have hxl4 := hX4.lt
        have hgl4 := hL4.lt
        have hgm4 : gm < w4.heap.size := Nat.lt_of_lt_of_le hgm HBW.out.size
        obtain ⟨y0, y1, y2, y3, y4, y5, y6, y7⟩ := hW4.has8'
        have x10 := hX4.cell 10
        simp only [List.getElem?_toArray, List.getElem?_cons_succ, List.getElem?_cons_zero] at x10
        have HL4 := Lib.hid hL4
        have HOWN4 := Lib.hid hown4
        have nwl : w2.heap.size ≠ gl := by omega
        have nxl : w.heap.size ≠ gl := by omega
        have hb4s := hb4.size
        obtain ⟨u0', hu0⟩ : ∃ u, cur[n * 11]? = some u := ⟨_, Array.getElem?_eq_getElem (by omega)⟩
        obtain ⟨u1', hu1⟩ : ∃ u, cur[n * 11 + 1]? = some u := ⟨_, Array.getElem?_eq_getElem (by omega)⟩
        obtain ⟨u2', hu2⟩ : ∃ u, cur[n * 11 + 2]? = some u := ⟨_, Array.getElem?_eq_getElem (by omega)⟩
        obtain ⟨u3', hu3⟩ : ∃ u, cur[n * 11 + 3]? = some u := ⟨_, Array.getElem?_eq_getElem (by omega)⟩
        obtain ⟨u4', hu4⟩ : ∃ u, cur[n * 11 + 4]? = some u := ⟨_, Array.getElem?_eq_getElem (by omega)⟩
        obtain ⟨u5', hu5⟩ : ∃ u, cur[n * 11 + 5]? = some u := ⟨_, Array.getElem?_eq_getElem (by omega)⟩
        obtain ⟨u6', hu6⟩ : ∃ u, cur[n * 11 + 6]? = some u := ⟨_, Array.getElem?_eq_getElem (by omega)⟩
        obtain ⟨u7', hu7⟩ : ∃ u, cur[n * 11 + 7]? = some u := ⟨_, Array.getElem?_eq_getElem (by omega)⟩
        obtain ⟨u8', hu8⟩ : ∃ u, cur[n * 11 + 8]? = some u := ⟨_, Array.getElem?_eq_getElem (by omega)⟩
        obtain ⟨u9', hu9⟩ : ∃ u, cur[n * 11 + 9]? = some u := ⟨_, Array.getElem?_eq_getElem (by omega)⟩
        obtain ⟨u10', hu10⟩ : ∃ u, cur[n * 11 + 10]? = some u := ⟨_, Array.getElem?_eq_getElem (by omega)⟩
        have HFIN : Hid (∀ (wz wa : World) (cd : Int) (z : Nat) (zi : Int), zi = (z : Int) → z ≤ qs.length → Below w4.heap.size w4 wa → MemS G (((((((((((wa.setCell ⟨gl, n * 11, none⟩ (.int .i64 (h 0))).setCell ⟨gl, n * 11 + 1, none⟩ (.int .i64 (h 1))).setCell ⟨gl, n * 11 + 2, none⟩ (.int .i64 (h 2))).setCell ⟨gl, n * 11 + 3, none⟩ (.int .i64 (h 3))).setCell ⟨gl, n * 11 + 4, none⟩ (.int .i64 (h 4))).setCell ⟨gl, n * 11 + 5, none⟩ (.int .i64 (h 5))).setCell ⟨gl, n * 11 + 6, none⟩ (.int .i64 (h 6))).setCell ⟨gl, n * 11 + 7, none⟩ (.int .i64 (h 7))).setCell ⟨gl, n * 11 + 8, none⟩ (.int .i64 cd)).setCell ⟨gl, n * 11 + 9, none⟩ (.slice A qs.length c1)).setCell ⟨gl, n * 11 + 10, none⟩ (.int .i64 zi)) gm L E ∧
            GrewS G w (((((((((((wa.setCell ⟨gl, n * 11, none⟩ (.int .i64 (h 0))).setCell ⟨gl, n * 11 + 1, none⟩ (.int .i64 (h 1))).setCell ⟨gl, n * 11 + 2, none⟩ (.int .i64 (h 2))).setCell ⟨gl, n * 11 + 3, none⟩ (.int .i64 (h 3))).setCell ⟨gl, n * 11 + 4, none⟩ (.int .i64 (h 4))).setCell ⟨gl, n * 11 + 5, none⟩ (.int .i64 (h 5))).setCell ⟨gl, n * 11 + 6, none⟩ (.int .i64 (h 6))).setCell ⟨gl, n * 11 + 7, none⟩ (.int .i64 (h 7))).setCell ⟨gl, n * 11 + 8, none⟩ (.int .i64 cd)).setCell ⟨gl, n * 11 + 9, none⟩ (.slice A qs.length c1)).setCell ⟨gl, n * 11 + 10, none⟩ (.int .i64 zi))) := by
          intro wz wa cd z zi hzi hz ba
          subst hzi
          have M := ((((((((((MidS.start HL.out (HBW.out.trans (ba.mono HBW.out.size))).set (n * 11) (.int .i64 (h 0))).set (n * 11 + 1) (.int .i64 (h 1))).set (n * 11 + 2) (.int .i64 (h 2))).set (n * 11 + 3) (.int .i64 (h 3))).set (n * 11 + 4) (.int .i64 (h 4))).set (n * 11 + 5) (.int .i64 (h 5))).set (n * 11 + 6) (.int .i64 (h 6))).set (n * 11 + 7) (.int .i64 (h 7))).set (n * 11 + 8) (.int .i64 cd)).set (n * 11 + 9) (.slice A qs.length c1)
          have M1 := M.set (n * 11 + 10) (.int .i64 (z : Int))
          have N := ((((((((((MidS.start HL4.out ba).set (n * 11) (.int .i64 (h 0))).set (n * 11 + 1) (.int .i64 (h 1))).set (n * 11 + 2) (.int .i64 (h 2))).set (n * 11 + 3) (.int .i64 (h 3))).set (n * 11 + 4) (.int .i64 (h 4))).set (n * 11 + 5) (.int .i64 (h 5))).set (n * 11 + 6) (.int .i64 (h 6))).set (n * 11 + 7) (.int .i64 (h 7))).set (n * 11 + 8) (.int .i64 cd)).set (n * 11 + 9) (.slice A qs.length c1)
          have N1 := N.set (n * 11 + 10) (.int .i64 (z : Int))
          have hown' := N1.own HL4.out HOWN4.out (by decide)
          have hss := setL_size cur (n * 11) h
          refine MemS.mid (n := n) h1 h2 HS.out HL.out HP.out HEV.out hne g1 g2 g3 M1 (by simp; exact h3) (fun i j hi hj => ?_) ⟨h, cd, .slice A qs.length c1, z, qs, fun j hj => ?_, ?_, ?_, ?_, hz, own_base hown' (Nat.zero_le _), by have := HQL.out; omega, HQ4.out, fun b hb => ?_⟩
          · have hx : ∀ q, q < 11 → n * 11 + q ≠ i * 11 + j := fun q hq h => hi (by omega)
            rw [Array.getElem?_setIfInBounds_ne (hx 10 (by omega)), Array.getElem?_setIfInBounds_ne (hx 9 (by omega)), Array.getElem?_setIfInBounds_ne (hx 8 (by omega))]
            exact setL_ne cur (n * 11) h _ (by omega)
          · rw [Array.getElem?_setIfInBounds_ne (by omega), Array.getElem?_setIfInBounds_ne (by omega), Array.getElem?_setIfInBounds_ne (by omega)]
            exact setL_at cur (n * 11) h _ hj (by omega)
          · rw [Array.getElem?_setIfInBounds_ne (by omega), Array.getElem?_setIfInBounds_ne (by omega)]
            exact Array.getElem?_setIfInBounds_self_of_lt (by simp; omega)
          · rw [Array.getElem?_setIfInBounds_ne (by omega)]
            exact Array.getElem?_setIfInBounds_self_of_lt (by simp; omega)
          · exact Array.getElem?_setIfInBounds_self_of_lt (by simp; omega)
          · exact HU.out b (by have := (HOWN4.out.lt b hb).1; omega)
        have hm9 : (m : Int) ≤ 900 := by have := HE1.out; omega
        have hi9 : (i : Int) ≤ 900 := by omega
        have hwr : IntKind.i64.wrap ((m : Int) - (i : Int)) = (m : Int) - (i : Int) := by
          rw [IntKind.wrap_i64]
          omega
        clear hb4 hown4 hW4 hX4 hL4 hown hql
        by_cases hmk : 0 < (m : Int) - (i : Int)
        · skip
          go_wp2_with fail
          go_region_held3 (fun w' => w'.cell? ⟨gm, 0, none⟩ = some (.slice (some ⟨gl, 0, none⟩) L cap) ∧ w'.cell? ⟨w2.heap.size, 0, none⟩ = some (.int .i64 (h 0)) ∧ w'.cell? ⟨w2.heap.size, 1, none⟩ = some (.int .i64 (h 1)) ∧ w'.cell? ⟨w2.heap.size, 2, none⟩ = some (.int .i64 (h 2)) ∧ w'.cell? ⟨w2.heap.size, 3, none⟩ = some (.int .i64 (h 3)) ∧ w'.cell? ⟨w2.heap.size, 4, none⟩ = some (.int .i64 (h 4)) ∧ w'.cell? ⟨w2.heap.size, 5, none⟩ = some (.int .i64 (h 5)) ∧ w'.cell? ⟨w2.heap.size, 6, none⟩ = some (.int .i64 (h 6)) ∧ w'.cell? ⟨w2.heap.size, 7, none⟩ = some (.int .i64 (h 7)) ∧ w'.cell? ⟨w.heap.size, 10, none⟩ = some (.int .i64 (m : Int))) (first | (go_keep; done) | exact ⟨fr11 ngl em, fr11 nwl ex0, fr11 nwl ex1, fr11 nwl ex2, fr11 nwl ex3, fr11 nwl ex4, fr11 nwl ex5, fr11 nwl ex6, fr11 nwl ex7, fr11 nxl e10⟩)
            (first | (go_at_call 52; refine (sencode_calls _ h).mono ?_; rintro e wa ⟨⟨cd, rfl⟩, ba0⟩; (have ba : Below w4.heap.size w4 wa := (by first | exact below_of_drew ba0 | exact ba0)); (have em := (ba.cell (p := ⟨gm, 0, none⟩) hgm4).trans em4); (have ex0 := (ba.cell (p := ⟨w2.heap.size, 0, none⟩) hwl4).trans y0); (have ex1 := (ba.cell (p := ⟨w2.heap.size, 1, none⟩) hwl4).trans y1); (have ex2 := (ba.cell (p := ⟨w2.heap.size, 2, none⟩) hwl4).trans y2); (have ex3 := (ba.cell (p := ⟨w2.heap.size, 3, none⟩) hwl4).trans y3); (have ex4 := (ba.cell (p := ⟨w2.heap.size, 4, none⟩) hwl4).trans y4); (have ex5 := (ba.cell (p := ⟨w2.heap.size, 5, none⟩) hwl4).trans y5); (have ex6 := (ba.cell (p := ⟨w2.heap.size, 6, none⟩) hwl4).trans y6); (have ex7 := (ba.cell (p := ⟨w2.heap.size, 7, none⟩) hwl4).trans y7); (have e10 := (ba.cell (p := ⟨w.heap.size, 10, none⟩) hxl4).trans x10); (have hLa := HL4.out.below ba hgl4); (have ef0 := hLa.free (n * 11)); (have ef1 := hLa.free (n * 11 + 1)); (have ef2 := hLa.free (n * 11 + 2)); (have ef3 := hLa.free (n * 11 + 3)); (have ef4 := hLa.free (n * 11 + 4)); (have ef5 := hLa.free (n * 11 + 5)); (have ef6 := hLa.free (n * 11 + 6)); (have ef7 := hLa.free (n * 11 + 7)); (have ef8 := hLa.free (n * 11 + 8)); (have ef9 := hLa.free (n * 11 + 9)); (have ef10 := hLa.free (n * 11 + 10)); (have hla := hLa.lt); (have el0 := (hLa.cell (n * 11)).trans hu0); (have el1 := (hLa.cell (n * 11 + 1)).trans hu1); (have el2 := (hLa.cell (n * 11 + 2)).trans hu2); (have el3 := (hLa.cell (n * 11 + 3)).trans hu3); (have el4 := (hLa.cell (n * 11 + 4)).trans hu4); (have el5 := (hLa.cell (n * 11 + 5)).trans hu5); (have el6 := (hLa.cell (n * 11 + 6)).trans hu6); (have el7 := (hLa.cell (n * 11 + 7)).trans hu7); (have el8 := (hLa.cell (n * 11 + 8)).trans hu8); (have el9 := (hLa.cell (n * 11 + 9)).trans hu9); (have el10 := (hLa.cell (n * 11 + 10)).trans hu10); clear hLa))
          all_goals
            go_wp2_with fail
            go_end0
            exact ⟨rfl, HFIN.out w wa cd (m - i) _ (by first | omega | (rw [hwr]; omega)) (by have := HE1.out; have := HQL.out; omega) ba⟩
        · skip
          go_wp2_with fail
          go_region_held3 (fun w' => w'.cell? ⟨gm, 0, none⟩ = some (.slice (some ⟨gl, 0, none⟩) L cap) ∧ w'.cell? ⟨w2.heap.size, 0, none⟩ = some (.int .i64 (h 0)) ∧ w'.cell? ⟨w2.heap.size, 1, none⟩ = some (.int .i64 (h 1)) ∧ w'.cell? ⟨w2.heap.size, 2, none⟩ = some (.int .i64 (h 2)) ∧ w'.cell? ⟨w2.heap.size, 3, none⟩ = some (.int .i64 (h 3)) ∧ w'.cell? ⟨w2.heap.size, 4, none⟩ = some (.int .i64 (h 4)) ∧ w'.cell? ⟨w2.heap.size, 5, none⟩ = some (.int .i64 (h 5)) ∧ w'.cell? ⟨w2.heap.size, 6, none⟩ = some (.int .i64 (h 6)) ∧ w'.cell? ⟨w2.heap.size, 7, none⟩ = some (.int .i64 (h 7)) ∧ w'.cell? ⟨w.heap.size, 10, none⟩ = some (.int .i64 (m : Int))) (first | (go_keep; done) | exact ⟨fr11 ngl em, fr11 nwl ex0, fr11 nwl ex1, fr11 nwl ex2, fr11 nwl ex3, fr11 nwl ex4, fr11 nwl ex5, fr11 nwl ex6, fr11 nwl ex7, fr11 nxl e10⟩)
            (first | (go_at_call 52; refine (sencode_calls _ h).mono ?_; rintro e wa ⟨⟨cd, rfl⟩, ba0⟩; (have ba : Below w4.heap.size w4 wa := (by first | exact below_of_drew ba0 | exact ba0)); (have em := (ba.cell (p := ⟨gm, 0, none⟩) hgm4).trans em4); (have ex0 := (ba.cell (p := ⟨w2.heap.size, 0, none⟩) hwl4).trans y0); (have ex1 := (ba.cell (p := ⟨w2.heap.size, 1, none⟩) hwl4).trans y1); (have ex2 := (ba.cell (p := ⟨w2.heap.size, 2, none⟩) hwl4).trans y2); (have ex3 := (ba.cell (p := ⟨w2.heap.size, 3, none⟩) hwl4).trans y3); (have ex4 := (ba.cell (p := ⟨w2.heap.size, 4, none⟩) hwl4).trans y4); (have ex5 := (ba.cell (p := ⟨w2.heap.size, 5, none⟩) hwl4).trans y5); (have ex6 := (ba.cell (p := ⟨w2.heap.size, 6, none⟩) hwl4).trans y6); (have ex7 := (ba.cell (p := ⟨w2.heap.size, 7, none⟩) hwl4).trans y7); (have e10 := (ba.cell (p := ⟨w.heap.size, 10, none⟩) hxl4).trans x10); (have hLa := HL4.out.below ba hgl4); (have ef0 := hLa.free (n * 11)); (have ef1 := hLa.free (n * 11 + 1)); (have ef2 := hLa.free (n * 11 + 2)); (have ef3 := hLa.free (n * 11 + 3)); (have ef4 := hLa.free (n * 11 + 4)); (have ef5 := hLa.free (n * 11 + 5)); (have ef6 := hLa.free (n * 11 + 6)); (have ef7 := hLa.free (n * 11 + 7)); (have ef8 := hLa.free (n * 11 + 8)); (have ef9 := hLa.free (n * 11 + 9)); (have ef10 := hLa.free (n * 11 + 10)); (have hla := hLa.lt); (have el0 := (hLa.cell (n * 11)).trans hu0); (have el1 := (hLa.cell (n * 11 + 1)).trans hu1); (have el2 := (hLa.cell (n * 11 + 2)).trans hu2); (have el3 := (hLa.cell (n * 11 + 3)).trans hu3); (have el4 := (hLa.cell (n * 11 + 4)).trans hu4); (have el5 := (hLa.cell (n * 11 + 5)).trans hu5); (have el6 := (hLa.cell (n * 11 + 6)).trans hu6); (have el7 := (hLa.cell (n * 11 + 7)).trans hu7); (have el8 := (hLa.cell (n * 11 + 8)).trans hu8); (have el9 := (hLa.cell (n * 11 + 9)).trans hu9); (have el10 := (hLa.cell (n * 11 + 10)).trans hu10); clear hLa))
          all_goals
            go_wp2_with fail
            go_end0
            exact ⟨rfl, HFIN.out w wa cd (m - i) _ (by first | omega | (rw [hwr]; omega)) (by have := HE1.out; have := HQL.out; omega) ba⟩
end Go.Proofs.YtckamjbdogpacaaGreatDoor
