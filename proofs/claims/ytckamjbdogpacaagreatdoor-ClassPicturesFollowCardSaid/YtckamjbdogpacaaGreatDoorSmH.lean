/-
  The specification's memory: New.
  The specification's memory: Shows.
  The specification's memory: Load.
-/
import Derived.Test.YtckamjbdogpacaaGreatDoorSmF
namespace Go.Proofs.YtckamjbdogpacaaGreatDoor
open Go.RowKit
set_option linter.unusedSimpArgs false
set_option linter.unusedVariables false

theorem sl_info : (Tryz.prog.info? 108).map (fun i => (i.zero, i.size, i.bytes)) = some (some (.agg #[.int .i64 0, .int .i64 0, .int .i64 0, .int .i64 0, .int .i64 0, .int .i64 0, .int .i64 0, .int .i64 0, .int .i64 0, .slice none 0 0, .int .i64 0]), 11, 104) := by kernel_rfl
/-- The cells of lines that are new. -/
def nlCells (k : Nat) (c : Int) : List Value := (List.replicate k [.int .i64 0, .int .i64 0, .int .i64 0, .int .i64 0, .int .i64 0, .int .i64 0, .int .i64 0, .int .i64 0, .int .i64 c, .slice none 0 0, .int .i64 0]).flatten
theorem nlCells_succ (k : Nat) (c : Int) : nlCells (k + 1) c = nlCells k c ++ [.int .i64 0, .int .i64 0, .int .i64 0, .int .i64 0, .int .i64 0, .int .i64 0, .int .i64 0, .int .i64 0, .int .i64 c, .slice none 0 0, .int .i64 0] := by
  unfold nlCells
  rw [List.replicate_succ', List.flatten_append]
  simp
theorem nlCells_get (k : Nat) (c : Int) (i : Nat) (hi : i < k) : ∀ j, j < 11 → (nlCells k c)[i * 11 + j]? = ([.int .i64 0, .int .i64 0, .int .i64 0, .int .i64 0, .int .i64 0, .int .i64 0, .int .i64 0, .int .i64 0, .int .i64 c, .slice none 0 0, .int .i64 0] : List Value)[j]? := by
  induction k with
  | zero => omega
  | succ k ih =>
    intro j hj
    have hl : (nlCells k c).length = k * 11 := by simp [nlCells]
    rw [nlCells_succ]
    by_cases hik : i < k
    · rw [List.getElem?_append_left (by omega)]
      exact ih hik j hj
    · obtain rfl : i = k := by omega
      rw [List.getElem?_append_right (by omega), hl]
      congr 1
      omega

def NewSRel (w : World) (gs L : Nat) (c : Int) (v : Value) (wr : World) : Prop := ∃ (k : Nat) (A : Option Addr) (cc : Nat), k ≤ L ∧ v = .int .i64 (k : Int) ∧ Cl wr gs 106 #[.slice A k cc, .int .i64 0, .slice none 0 0] ∧ wr.ownsRow w.heap.size 108 11 (.slice A k cc) k (nlCells k c) ∧ Below w.heap.size w wr
def NewS (w : World) (L : Nat) (e : Ending) (w' : World) : Prop := ∃ gs, e = .returned (.pointer (some ⟨gs, 0, none⟩)) ∧ MemS (fun g => w.heap.size ≤ g) w' gs L 0 ∧ Below w.heap.size w w'

set_option maxRecDepth 100000 in
set_option maxHeartbeats 2000000 in
theorem snew_calls (w : World) (L : Nat) (h1 : 1 ≤ L) (h2 : L ≤ 200) :
    Calls Tryz.prog 23 #[.int .i64 (L : Int)] w (NewS w L) := by
  obtain ⟨i0, hi0, hz0, hz1, hz2⟩ := info_parts sl_info
  obtain ⟨w0, hw0⟩ : ∃ x, x = w.alloc (.cells #[.slice none 0 0, .int .i64 0, .slice none 0 0] 106) := ⟨_, rfl⟩
  have hA0 : Below w.heap.size w w0 := by rw [hw0]; (repeat (first | with_reducible exact Below.refl _ _ | with_reducible assumption | with_reducible refine below_drewN ?_ _ | with_reducible refine Below.drew ?_ | with_reducible refine Below.alloc ?_ (by first | omega | (simp; omega) | simp) _ | with_reducible refine Below.setCell ?_ (by first | omega | (simp; omega) | simp) _))
  have hX0 : Cl w0 w.heap.size 106 #[.slice none 0 0, .int .i64 0, .slice none 0 0] := by rw [hw0]; exact Cl.new _ _ _
  have HW0 := Lib.hid hw0
  have HA0 := Lib.hid hA0
  have HX0 := Lib.hid hX0
  clear hw0 hA0 hX0
  go_enter Tryz.func23, Tryz.ntmps23
  go_wp2_with fail
  rw [← HW0.out]
  refine (sencode_calls _ (fun _ => 0)).mono ?_
  rintro e w1 ⟨⟨c, rfl⟩, hb1⟩
  have HREL : Hid (NewSRel w w.heap.size L c (.int .i64 0) w1) := ⟨0, none, 0, Nat.zero_le _, rfl, HX0.out.below hb1 HX0.out.lt, World.ownsRow_nil _ _ _ _, HA0.out.trans (hb1.mono HA0.out.size)⟩
  clear hb1
  go_wp2_with fail
  go_loopw [5] (fun v wr => NewSRel w w.heap.size L c v wr) (fun v _ => L - (intOf v).toNat)
  case atStart => exact HREL.out
  case round =>
    clear HREL
    obtain ⟨k, A, cc, hk, rfl, hC, hown, hb⟩ := hrel
    have hl := hC.lt
    have m0 := hC.cell 0
    have f0 := hC.free 0
    simp only [List.getElem?_toArray, List.getElem?_cons_zero] at m0
    by_cases hlt : k < L
    · have ag : some w.heap.size ≠ (Value.slice A k cc).ownBlock := own_ne hown hC (by decide)
      have hbs := hb.size
      go_wp2_with (at_builtin; refine wpList_append_lies _ rfl _ _ _ (by rfl) w.heap.size 108 i0 _ 11 104 Tryz.underlying104 hi0 hz0 hz1 hz2 rfl (by omega) (.slice A k cc) k (nlCells k c) (by rfl) (hown.alloc _) ⟨wr.heap.size, 0, none⟩ 1 1 [.int .i64 0, .int .i64 0, .int .i64 0, .int .i64 0, .int .i64 0, .int .i64 0, .int .i64 0, .int .i64 0, .int .i64 c, .slice none 0 0, .int .i64 0] (by rfl) (by rfl) (World.news_of_block (cs := #[.int .i64 0, .int .i64 0, .int .i64 0, .int .i64 0, .int .i64 0, .int .i64 0, .int .i64 0, .int .i64 0, .int .i64 c, .slice none 0 0, .int .i64 0]) (t := 108) (fr := (0, 0)) (heap_alloc_new wr _)) (by simp [Value.oneCell']) (by omega) (by unfold maxLen; omega) (by omega) (by simp; omega) (wr.heap.size + 1) (by simp) ?_; intro gg c2 w4 hown1 hgrow hat hlt4; (have hGw := Cl.grown (hC.alloc _) hgrow ag); (have c0w : w4.cell? ⟨w.heap.size, 0, none⟩ = some (.slice A k cc) := hGw.cell 0); (have f0w := hGw.free 0); (have lgw := hGw.lt); (have hb4 : Below w.heap.size w w4 := Below.grown (show Below w.heap.size w _ by (repeat (first | with_reducible exact Below.refl _ _ | with_reducible assumption | with_reducible refine below_drewN ?_ _ | with_reducible refine Below.drew ?_ | with_reducible refine Below.alloc ?_ (by first | omega | (simp; omega) | simp) _ | with_reducible refine Below.setCell ?_ (by first | omega | (simp; omega) | simp) _))) hgrow (by simp; omega) (fun q hq => (hown.lt q hq).1)))
      go_roundw
      case rel =>
        rw [← nlCells_succ] at hown1
        exact ⟨k + 1, _, _, by omega, by go_num, hGw.set_ 0 _, own_far hown1 hGw (by decide) _ _, by (repeat (first | with_reducible exact Below.refl _ _ | with_reducible assumption | with_reducible refine below_drewN ?_ _ | with_reducible refine Below.drew ?_ | with_reducible refine Below.alloc ?_ (by first | omega | (simp; omega) | simp) _ | with_reducible refine Below.setCell ?_ (by first | omega | (simp; omega) | simp) _))⟩
      case measure => simp [intOf]; omega
    · have hn : ¬ (k : Int) < (L : Int) := by omega
      have hkL : k = L := by omega
      have HC := Lib.hid hC
      have HO := Lib.hid hown
      have HB := Lib.hid hb
      have HK := Lib.hid hkL
      clear hC hown hb hkL
      go_wp2_with fail
      go_ret
      have hown := HO.out
      have hC := HC.out
      have hkL := HK.out
      subst hkL
      rcases hown.2 with ⟨_, h0⟩ | ⟨g, cap, cu, hv, hbg, hg, hcap, _, hsz, htk⟩
      · omega
      · injection hv with hA _ hcc
        subst hA
        subst hcc
        have get : ∀ i j, i < k → j < 11 → cu[i * 11 + j]? = ([.int .i64 0, .int .i64 0, .int .i64 0, .int .i64 0, .int .i64 0, .int .i64 0, .int .i64 0, .int .i64 0, .int .i64 c, .slice none 0 0, .int .i64 0] : List Value)[j]? := by
          intro i j hi hj
          rw [← nlCells_get k c i hi j hj, ← htk, List.getElem?_take, if_pos (by omega)]
          simp
        refine ⟨w.heap.size, rfl, ⟨g, cc, cu, 0, none, 0, 0, [], h2, hcap, hC, hg, by rw [hsz]; omega, fun i hi => ⟨fun _ => 0, c, .slice none 0 0, 0, [], fun j hj => ?_, get i 8 hi (by omega), get i 9 hi (by omega), get i 10 hi (by omega), Nat.le_refl _, World.ownsRow_nil _ _ _ _, Nat.le_refl _, (fun p hp => by cases hp), (fun b hb => by simp [Value.ownBlock] at hb)⟩, World.ownsRow_nil _ _ _ _, Nat.le_refl _, Nat.le_refl _, hbg, (fun b hb => by simp [Value.ownBlock] at hb)⟩, HB.out⟩
        rw [get i j hi (by omega)]
        match j, hj with
        | 0, _ => rfl
        | 1, _ => rfl
        | 2, _ => rfl
        | 3, _ => rfl
        | 4, _ => rfl
        | 5, _ => rfl
        | 6, _ => rfl
        | 7, _ => rfl
end Go.Proofs.YtckamjbdogpacaaGreatDoor

namespace Go.Proofs.YtckamjbdogpacaaGreatDoor
open Go.RowKit
set_option linter.unusedSimpArgs false
set_option linter.unusedVariables false

def ShPost (w : World) (e : Ending) (w' : World) : Prop := (∃ g : Nat → Int, e = .returned (.agg #[.int .i64 (g 0), .int .i64 (g 1), .int .i64 (g 2), .int .i64 (g 3), .int .i64 (g 4), .int .i64 (g 5), .int .i64 (g 6), .int .i64 (g 7)])) ∧ Below w.heap.size w w'
def ShRelS (w : World) (X : Array Value) (gW k : Nat) (v : Value) (wr : World) : Prop := ∃ (i : Nat) (h : Nat → Int), i ≤ k ∧ v = .int .i64 (i : Int) ∧ Cl wr (w.heap.size + 1) 108 X ∧ Cl wr gW 67 #[.int .i64 (h 0), .int .i64 (h 1), .int .i64 (h 2), .int .i64 (h 3), .int .i64 (h 4), .int .i64 (h 5), .int .i64 (h 6), .int .i64 (h 7)] ∧ Cl wr w.heap.size 67 #[.int .i64 0, .int .i64 0, .int .i64 0, .int .i64 0, .int .i64 0, .int .i64 0, .int .i64 0, .int .i64 0] ∧ Below w.heap.size w wr

set_option maxRecDepth 100000 in
set_option maxHeartbeats 4000000 in
theorem sshows_calls (G : Nat → Prop) (w : World) (gm L E n : Nat) (hM : MemS G w gm L E) (hE : E ≤ 1000) (hn : n < L) :
    Calls Tryz.prog 91 #[.pointer (some ⟨gm, 0, none⟩), .int .i64 (n : Int)] w (ShPost w) := by
  obtain ⟨gl, cap, f, c, v, ps, ⟨⟨l0, l1, l2, l3, l4, l5, l6, l7, l8⟩, l9⟩, m0, h200, hcap, hgm, hgl, e2, e3, e4, m, l10, e1⟩ := hM.line hn
  obtain ⟨Av, cv, rfl⟩ := (Rd.own e2).form
  have ni0 : (0 : Int) ≤ (n : Int) := by omega
  have ni1 : (n : Int) < (L : Int) := by omega
  have HR := Lib.hid (Rd.own e2)
  have HE4 := Lib.hid e4
  obtain ⟨wz, hwz⟩ : ∃ x, x = w.alloc (.cells #[.int .i64 0, .int .i64 0, .int .i64 0, .int .i64 0, .int .i64 0, .int .i64 0, .int .i64 0, .int .i64 0] 67) := ⟨_, rfl⟩
  have hAz : Below w.heap.size w wz := by rw [hwz]; (repeat (first | with_reducible exact Below.refl _ _ | with_reducible assumption | with_reducible refine below_drewN ?_ _ | with_reducible refine Below.drew ?_ | with_reducible refine Below.alloc ?_ (by first | omega | (simp; omega) | simp) _ | with_reducible refine Below.setCell ?_ (by first | omega | (simp; omega) | simp) _))
  have hZz : Cl wz w.heap.size 67 #[.int .i64 0, .int .i64 0, .int .i64 0, .int .i64 0, .int .i64 0, .int .i64 0, .int .i64 0, .int .i64 0] := by rw [hwz]; exact Cl.new _ _ _
  have hsz : wz.heap.size = w.heap.size + 1 := by rw [hwz]; simp
  have cl_ : ∀ g o, g < w.heap.size → wz.cell? ⟨g, o, none⟩ = w.cell? ⟨g, o, none⟩ := fun g o hg => hAz.cell (p := ⟨g, o, none⟩) hg
  replace l0 := (cl_ _ _ hgl).trans l0
  replace l1 := (cl_ _ _ hgl).trans l1
  replace l2 := (cl_ _ _ hgl).trans l2
  replace l3 := (cl_ _ _ hgl).trans l3
  replace l4 := (cl_ _ _ hgl).trans l4
  replace l5 := (cl_ _ _ hgl).trans l5
  replace l6 := (cl_ _ _ hgl).trans l6
  replace l7 := (cl_ _ _ hgl).trans l7
  replace l8 := (cl_ _ _ hgl).trans l8
  replace l9 := (cl_ _ _ hgl).trans l9
  replace l10 := (cl_ _ _ hgl).trans l10
  replace m0 := (cl_ _ _ hgm).trans m0
  have HWZ := Lib.hid hwz
  have HAZ := Lib.hid hAz
  have HZZ := Lib.hid hZz
  clear hM e2 e4 hwz hAz hZz cl_
  go_enter Tryz.func91, Tryz.ntmps91
  go_upto_region 1 with (fail)
  rw [← HWZ.out]
  go_upto_region 2 with (fail)
  obtain ⟨w1, hw1⟩ : ∃ x, x = wz.alloc (.cells #[.int .i64 (f 0), .int .i64 (f 1), .int .i64 (f 2), .int .i64 (f 3), .int .i64 (f 4), .int .i64 (f 5), .int .i64 (f 6), .int .i64 (f 7), .int .i64 c, .slice Av ps.length cv, .int .i64 (m : Int)] 108) := ⟨_, rfl⟩
  have hX1 : Cl w1 (w.heap.size + 1) 108 #[.int .i64 (f 0), .int .i64 (f 1), .int .i64 (f 2), .int .i64 (f 3), .int .i64 (f 4), .int .i64 (f 5), .int .i64 (f 6), .int .i64 (f 7), .int .i64 c, .slice Av ps.length cv, .int .i64 (m : Int)] := by rw [hw1, ← hsz]; exact Cl.new _ _ _
  have hA1 : Below wz.heap.size wz w1 := by rw [hw1]; (repeat (first | with_reducible exact Below.refl _ _ | with_reducible assumption | with_reducible refine below_drewN ?_ _ | with_reducible refine Below.drew ?_ | with_reducible refine Below.alloc ?_ (by first | omega | (simp; omega) | simp) _ | with_reducible refine Below.setCell ?_ (by first | omega | (simp; omega) | simp) _))
  rw [← hw1]
  clear hw1
  have hZ1 := HZZ.out.below hA1 HZZ.out.lt
  have HX1 := Lib.hid hX1
  have HZ1 := Lib.hid hZ1
  have HH1 := Lib.hid (HAZ.out.trans (hA1.mono HAZ.out.size))
  have hx1 := hX1.lt
  have x0 := hX1.cell 0
  have x1 := hX1.cell 1
  have x2 := hX1.cell 2
  have x3 := hX1.cell 3
  have x4 := hX1.cell 4
  have x5 := hX1.cell 5
  have x6 := hX1.cell 6
  have x7 := hX1.cell 7
  have x8 := hX1.cell 8
  simp only [List.getElem?_toArray, List.getElem?_cons_succ, List.getElem?_cons_zero] at x0 x1 x2 x3 x4 x5 x6 x7 x8
  clear hX1 hA1 hZ1 l0 l1 l2 l3 l4 l5 l6 l7 l8 l9 l10 m0
  go_wp2_with fail
  refine (sfix_calls _ f c).mono ?_
  rintro ee w2 ⟨⟨g, c2, er, rfl⟩, hb2⟩
  have HB2 := Lib.hid (HH1.out.trans (hb2.mono HH1.out.size))
  have HX2 := Lib.hid (HX1.out.below hb2 hx1)
  have HZ2 := Lib.hid (HZ1.out.below hb2 HZ1.out.lt)
  clear hb2 x0 x1 x2 x3 x4 x5 x6 x7 x8
  go_upto_region 3 with (fail)
  obtain ⟨w3, hw3⟩ : ∃ x, x = w2.alloc (.cells #[.int .i64 (g 0), .int .i64 (g 1), .int .i64 (g 2), .int .i64 (g 3), .int .i64 (g 4), .int .i64 (g 5), .int .i64 (g 6), .int .i64 (g 7)] 67) := ⟨_, rfl⟩
  have hW3 : Cl w3 w2.heap.size 67 #[.int .i64 (g 0), .int .i64 (g 1), .int .i64 (g 2), .int .i64 (g 3), .int .i64 (g 4), .int .i64 (g 5), .int .i64 (g 6), .int .i64 (g 7)] := by rw [hw3]; exact Cl.new _ _ _
  have hA3 : Below w2.heap.size w2 w3 := by rw [hw3]; (repeat (first | with_reducible exact Below.refl _ _ | with_reducible assumption | with_reducible refine below_drewN ?_ _ | with_reducible refine Below.drew ?_ | with_reducible refine Below.alloc ?_ (by first | omega | (simp; omega) | simp) _ | with_reducible refine Below.setCell ?_ (by first | omega | (simp; omega) | simp) _))
  rw [← hw3]
  clear hw3
  have hs2 := HB2.out.size
  have hs2' : w.heap.size + 1 < w2.heap.size := HX2.out.lt
  have hZ3 := HZ2.out.below hA3 HZ2.out.lt
  have hz3 := hZ3.lt
  have HH3 := Lib.hid (HB2.out.trans (hA3.mono hs2))
  have HREL0 : Hid (ShRelS w _ w2.heap.size ps.length (.int .i64 0) w3) := ⟨0, g, Nat.zero_le _, rfl, HX2.out.below hA3 HX2.out.lt, hW3, hZ3, HH3.out⟩
  by_cases her : er = 0
  · have ber : (er != 0) = false := by simp [her]
    clear hW3 hA3 hZ3 her
    go_wp2_with fail
    go_loopw [9] (fun v wr => ShRelS w #[.int .i64 (f 0), .int .i64 (f 1), .int .i64 (f 2), .int .i64 (f 3), .int .i64 (f 4), .int .i64 (f 5), .int .i64 (f 6), .int .i64 (f 7), .int .i64 c, .slice Av ps.length cv, .int .i64 (m : Int)] w2.heap.size ps.length v wr) (fun v _ => ps.length - (intOf v).toNat)
    case atStart => exact HREL0.out
    case round =>
      clear HREL0
      obtain ⟨i, h, hi, rfl, hX, hW, hZ, hb⟩ := hrel
      have hxl := hX.lt
      have hwl := hW.lt
      have hzl := hZ.lt
      have x9 := hX.cell 9
      simp only [List.getElem?_toArray, List.getElem?_cons_succ, List.getElem?_cons_zero] at x9
      by_cases hlt : i < ps.length
      · obtain ⟨⟨wd, vl⟩, hp⟩ : ∃ x, ps[i]? = some x := ⟨_, List.getElem?_eq_getElem hlt⟩
        have hw8 : wd < 8 := (HE4.out _ (List.mem_of_getElem? hp)).1
        obtain ⟨c0, c1⟩ := stCells_get ps i _ hp
        obtain ⟨_, A', c', hv', _, _, _, hcell⟩ := HR.out
        obtain ⟨pb, po, pc, pfr, hA', hph, hpc⟩ := hcell (by omega)
        injection hv' with hA _ hcc
        rw [hA'] at hA
        subst hA
        have hpb := lt_of_heap hph
        have d0 : wr.cell? ⟨pb, po + i * 2, none⟩ = some (.int .i64 (wd : Int)) := (hb.cell (p := ⟨pb, po + i * 2, none⟩) hpb).trans (by rw [cell_of_row w pb _ pc _ pfr hph]; exact hpc _ _ c0)
        have d1 : wr.cell? ⟨pb, po + i * 2 + 1, none⟩ = some (.int .i64 vl) := (hb.cell (p := ⟨pb, po + i * 2 + 1, none⟩) hpb).trans (by rw [Nat.add_assoc, cell_of_row w pb _ pc _ pfr hph]; exact hpc _ _ c1)
        have y0 := (hW.cell wd).trans (w8_get h wd hw8)
        have y1 := hW.free wd
        have wi1 : (wd : Int) < 8 := by omega
        have wi0 : (0 : Int) ≤ (wd : Int) := by omega
        have ii0 : (0 : Int) ≤ (i : Int) := by omega
        have ii1 : (i : Int) < (ps.length : Int) := by omega
        have hset := hW.set_ wd (.int .i64 vl)
        rw [w8_set h wd vl hw8] at hset
        have HN : Hid (ShRelS w #[.int .i64 (f 0), .int .i64 (f 1), .int .i64 (f 2), .int .i64 (f 3), .int .i64 (f 4), .int .i64 (f 5), .int .i64 (f 6), .int .i64 (f 7), .int .i64 c, .slice (some ⟨pb, po, none⟩) ps.length cv, .int .i64 (m : Int)] w2.heap.size ps.length (.int .i64 (((i + 1 : Nat) : Int))) (wr.setCell ⟨w2.heap.size, wd, none⟩ (.int .i64 vl)).drew) := ⟨i + 1, setW h wd vl, by omega, rfl, hX.far (p := ⟨w2.heap.size, wd, none⟩) (by show ¬ w.heap.size + 1 = w2.heap.size; omega) _, hset, hZ.far (p := ⟨w2.heap.size, wd, none⟩) (by show ¬ w.heap.size = w2.heap.size; omega) _, by (repeat (first | with_reducible exact Below.refl _ _ | with_reducible assumption | with_reducible refine below_drewN ?_ _ | with_reducible refine Below.drew ?_ | with_reducible refine Below.alloc ?_ (by first | omega | (simp; omega) | simp) _ | with_reducible refine Below.setCell ?_ (by first | omega | (simp; omega) | simp) _))⟩
        clear c0 c1 hset hp hcell hA' hph hpc hcc
        go_wp2_with fail
        go_region
        go_wp2_with fail
        go_roundw
        case rel =>
          obtain ⟨i2, h', r0, r1, r2, r3, r4, r5⟩ := HN.out
          exact ⟨i2, h', r0, by rw [← r1]; go_num, r2, r3, r4, r5⟩
        case measure => simp [intOf]; omega
      · have hn9 : ¬ (i : Int) < (ps.length : Int) := by omega
        obtain ⟨x0, x1, x2, x3, x4, x5, x6, x7⟩ := hW.has8'
        obtain ⟨y0, y1, y2, y3, y4, y5, y6, y7⟩ := hZ.free8'
        obtain ⟨z0, z1, z2, z3, z4, z5, z6, z7⟩ := hZ.has8'
        go_wp2_with fail
        refine bodyPost_ret (v := .agg #[.int .i64 (h 0), .int .i64 (h 1), .int .i64 (h 2), .int .i64 (h 3), .int .i64 (h 4), .int .i64 (h 5), .int .i64 (h 6), .int .i64 (h 7)]) ?_ rfl ⟨⟨h, rfl⟩, ?_⟩
        · simp [results, Tryz.results91, go_sem, *]
        · (repeat (first | with_reducible exact Below.refl _ _ | with_reducible assumption | with_reducible refine below_drewN ?_ _ | with_reducible refine Below.drew ?_ | with_reducible refine Below.alloc ?_ (by first | omega | (simp; omega) | simp) _ | with_reducible refine Below.setCell ?_ (by first | omega | (simp; omega) | simp) _))
  · have ber : (er != 0) = true := by simp [her]
    obtain ⟨y0, y1, y2, y3, y4, y5, y6, y7⟩ := hZ3.free8'
    obtain ⟨z0, z1, z2, z3, z4, z5, z6, z7⟩ := hZ3.has8'
    clear hW3 hA3 hZ3 her HREL0
    go_wp2_with fail
    refine bodyPost_ret (v := .agg #[.int .i64 0, .int .i64 0, .int .i64 0, .int .i64 0, .int .i64 0, .int .i64 0, .int .i64 0, .int .i64 0]) ?_ rfl ⟨⟨fun _ => 0, rfl⟩, ?_⟩
    · simp [results, Tryz.results91, go_sem, *]
    · have hh := HH3.out
      (repeat (first | with_reducible exact Below.refl _ _ | with_reducible assumption | with_reducible refine below_drewN ?_ _ | with_reducible refine Below.drew ?_ | with_reducible refine Below.alloc ?_ (by first | omega | (simp; omega) | simp) _ | with_reducible refine Below.setCell ?_ (by first | omega | (simp; omega) | simp) _))
end Go.Proofs.YtckamjbdogpacaaGreatDoor

namespace Go.Proofs.YtckamjbdogpacaaGreatDoor
open Go.RowKit
set_option linter.unusedSimpArgs false
set_option linter.unusedVariables false

def SlPost (w : World) (e : Ending) (w' : World) : Prop := (∃ x er : Int, e = .returned (.tuple #[.int .i64 x, .int .i64 er])) ∧ Below w.heap.size w w'
set_option maxRecDepth 100000 in
set_option maxHeartbeats 1000000 in
theorem sload_calls (G : Nat → Prop) (w : World) (gm L E : Nat) (at' : Int) (hM : MemS G w gm L E) (hE : E ≤ 1000) (h64 : at' ≤ 9223372036854775807) :
    Calls Tryz.prog 62 #[.pointer (some ⟨gm, 0, none⟩), .int .i64 at'] w (SlPost w) := by
  obtain ⟨gl0, cap0, m0, hL0⟩ := hM.head
  by_cases h0 : at' < 0
  · clear hM
    go_enter Tryz.func62, Tryz.ntmps62
    go_wp2_with fail
    go_ret2
    exact ⟨⟨_, _, rfl⟩, by (repeat (first | with_reducible exact Below.refl _ _ | with_reducible assumption | with_reducible refine below_drewN ?_ _ | with_reducible refine Below.drew ?_ | with_reducible refine Below.alloc ?_ (by first | omega | (simp; omega) | simp) _ | with_reducible refine Below.setCell ?_ (by first | omega | (simp; omega) | simp) _))⟩
  obtain ⟨n, hn8⟩ : ∃ n : Nat, at' / 8 = n := ⟨(at' / 8).toNat, by omega⟩
  obtain ⟨r, hr⟩ : ∃ r : Nat, at' % 8 = r := ⟨(at' % 8).toNat, by omega⟩
  have hr8 : r < 8 := by omega
  have tq : at'.tdiv 8 = (n : Int) := by rw [Int.tdiv_eq_ediv_of_nonneg (by omega)]; exact hn8
  have tm : at'.tmod 8 = (r : Int) := by rw [Int.tmod_eq_emod_of_nonneg (by omega)]; exact hr
  have h0' : 0 ≤ at' := by omega
  have hn64 : (n : Int) ≤ 1152921504606846975 := by omega
  clear h0
  by_cases hn : n < L
  · have hhas : hasB (n : Int) L = true := by simp [hasB]; omega
    have HM := Lib.hid hM
    clear hM
    go_enter Tryz.func62, Tryz.ntmps62
    go_wp2_with fail
    refine (shas_calls _ gm L (n : Int) _ _ m0 hL0).mono ?_
    rintro e w1 ⟨rfl, rfl⟩
    rw [hhas]
    go_wp2_with fail
    refine (sstate_calls G _ gm L E (n : Int) HM.out).mono ?_
    rintro e w2 ⟨⟨st, rfl⟩, hb2⟩
    have HB2 := Lib.hid hb2
    clear m0 hb2
    by_cases hst : st = 2
    · have bst : (st == 2) = true := by simp [hst]
      clear hst
      go_wp2_with fail
      go_ret2
      exact ⟨⟨_, _, rfl⟩, HB2.out⟩
    · have bst : (st == 2) = false := by simp [hst]
      clear hst
      go_wp2_with fail
      refine (sshows_calls G _ gm L E n (HM.out.below HB2.out) hE hn).mono ?_
      rintro e w3 ⟨⟨g, rfl⟩, hb3⟩
      have HB3 := Lib.hid (HB2.out.trans (hb3.mono HB2.out.size))
      have gw := ((Cl.new w3 67 #[.int .i64 (g 0), .int .i64 (g 1), .int .i64 (g 2), .int .i64 (g 3), .int .i64 (g 4), .int .i64 (g 5), .int .i64 (g 6), .int .i64 (g 7)]).cell r).trans (w8_get _ _ hr8)
      have ri0 : (0 : Int) ≤ (r : Int) := by omega
      have ri1 : (r : Int) < 8 := by omega
      clear hb3
      go_wp2_with fail
      go_ret2
      exact ⟨⟨_, _, rfl⟩, HB3.out.trans ((Below.alloc (Below.refl w3.heap.size w3) (Nat.le_refl _) _).mono HB3.out.size)⟩
  · have hhas : hasB (n : Int) L = false := by simp [hasB]; omega
    clear hM hn hn8
    go_enter Tryz.func62, Tryz.ntmps62
    go_wp2_with fail
    refine (shas_calls _ gm L (n : Int) _ _ m0 hL0).mono ?_
    rintro e w1 ⟨rfl, rfl⟩
    rw [hhas]
    go_wp2_with fail
    go_ret2
    exact ⟨⟨_, _, rfl⟩, by (repeat (first | with_reducible exact Below.refl _ _ | with_reducible assumption | with_reducible refine below_drewN ?_ _ | with_reducible refine Below.drew ?_ | with_reducible refine Below.alloc ?_ (by first | omega | (simp; omega) | simp) _ | with_reducible refine Below.setCell ?_ (by first | omega | (simp; omega) | simp) _))⟩
end Go.Proofs.YtckamjbdogpacaaGreatDoor
