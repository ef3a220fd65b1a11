/-
  wear.After: the way on which the move is made.
-/
import Derived.Test.YtidiapfmjalaiaaDoorAfterA
import Derived.Test.YtidiapfmjalaiaaDoorSmall
import Derived.Test.YtidiapfmjalaiaaDoorRow
import Derived.Deep.RegionHeld3
import Derived.Deep.DeepCutAuto
namespace Go.Proofs.YtidiapfmjalaiaaDoor
open Go.RowKit

theorem own_below {w w' : World} {base : Nat} {e : TypeId} {size n : Nat} {v : Value} {xs : List Value} (h : w.ownsRow base e size v n xs) (hb : Below w.heap.size w w') : w'.ownsRow base e size v n xs := by
  refine ⟨h.1, ?_⟩
  rcases h.2 with hn | ⟨g, cap, cur, rfl, hbg, hg, rest⟩
  · exact .inl hn
  · exact .inr ⟨g, cap, cur, rfl, hbg, (hb.block g (Array.getElem?_eq_some_iff.1 hg).1).trans hg, rest⟩

theorem own_base {w : World} {base base' : Nat} {e : TypeId} {size n : Nat} {v : Value} {xs : List Value} (h : w.ownsRow base e size v n xs) (hb : base' ≤ base) : w.ownsRow base' e size v n xs := by
  refine ⟨h.1, ?_⟩
  rcases h.2 with hn | ⟨g, cap, cur, rfl, hbg, hg, rest⟩
  · exact .inl hn
  · exact .inr ⟨g, cap, cur, rfl, Nat.le_trans hb hbg, hg, rest⟩

/-- A store into a block of another element type leaves what is owned as it was. -/
theorem own_far {w : World} {base g : Nat} {e t : TypeId} {size n : Nat} {v : Value} {xs : List Value} {cs : Array Value} (h : w.ownsRow base e size v n xs) (hg : Cl w g t cs) (hne : e ≠ t) (i : Nat) (u : Value) :
    (w.setCell ⟨g, i, none⟩ u).ownsRow base e size v n xs := by
  refine ⟨h.1, ?_⟩
  rcases h.2 with hn | ⟨g', cap, cur, rfl, hbg, hg', rest⟩
  · exact .inl hn
  · refine .inr ⟨g', cap, cur, rfl, hbg, ?_, rest⟩
    rw [Below.heap_setCell _ _ _ _ (by
      rintro rfl
      unfold Cl at hg
      rw [hg'] at hg
      injection hg with hg
      injection hg with _ ht
      exact hne ht)]
    exact hg'
theorem own_far3 {w : World} {base g : Nat} {e t : TypeId} {size n : Nat} {v : Value} {xs : List Value} {v0 v1 v2 : Value} (h : w.ownsRow base e size v n xs) (hg : Cl w g t #[v0, v1, v2]) (hne : e ≠ t) (u0 u1 u2 : Value) :
    (((w.setCell ⟨g, 0, none⟩ u0).setCell ⟨g, 1, none⟩ u1).setCell ⟨g, 2, none⟩ u2).ownsRow base e size v n xs :=
  own_far (own_far (own_far h hg hne 0 u0) (hg.set_ 0 u0) hne 1 u1) ((hg.set_ 0 u0).set_ 1 u1) hne 2 u2
theorem Cl.set3 {w : World} {g : Nat} {t : TypeId} {v0 v1 v2 : Value} (h : Cl w g t #[v0, v1, v2]) (u0 u1 u2 : Value) :
    Cl (((w.setCell ⟨g, 0, none⟩ u0).setCell ⟨g, 1, none⟩ u1).setCell ⟨g, 2, none⟩ u2) g t #[u0, u1, u2] := ((h.set_ 0 u0).set_ 1 u1).set_ 2 u2

theorem below_of_drew {B : Nat} {w w' : World} (h : Below B w.drew w') : Below B w w' := ⟨h.os, h.tape, h.output, h.size, h.block⟩

set_option maxRecDepth 100000 in
set_option maxHeartbeats 4000000 in
theorem after_yes_calls (w : World) (ch bl bd : Value) (cs : List Int) (bs : List Bk) (ds : List Int) (f t : Bk) (hC : RdI w ch cs) (hR : RdB w bl bs) (hD : RdI w bd ds)
    (hcn : cs.length ≤ 1000) (hn : bs.length ≤ 1000) (hdn : ds.length ≤ 1000) (h1 : f.cls = t.cls) (h2 : f.kind ≠ 0) (h3 : t.kind = 0) (hf : f ∈ bs) (ht : t ∈ bs) :
    Calls Tryd.prog 11 #[.agg #[ch, bl, bd], .agg (#[.int .i64 (Bk.line f), .int .i64 (Bk.cls f), .int .i64 (Bk.kind f), .int .i64 (Bk.gen f)] ++ #[.int .i64 (Bk.line t), .int .i64 (Bk.cls t), .int .i64 (Bk.kind t), .int .i64 (Bk.gen t)])] w (PicPost w cs (afterB bs f t) ds 0) := by
  simp only [List.append_toArray, List.cons_append, List.nil_append]
  have b1 : (f.cls != t.cls) = false := by simp [h1]
  have b2 : (f.kind == 0) = false := by simp [h2]
  have b3 : (t.kind != 0) = false := by simp [h3]
  clear h1 h2 h3
  go_enter Tryd.func11, Tryd.ntmps11
  go_wp2_with fail
  refine (contains_calls _ _ bs f (hR.below (by (repeat (first | with_reducible exact Below.refl _ _ | with_reducible assumption | with_reducible refine below_drewN ?_ _ | with_reducible refine Below.drew ?_ | with_reducible refine Below.alloc ?_ (by first | omega | (simp; omega) | simp) _ | with_reducible refine Below.setCell ?_ (by first | omega | (simp; omega) | simp) _)))) hn).mono ?_
  rintro e w1 ⟨rfl, hb1⟩
  have hb : Below w.heap.size w w1 := Below.trans (by (repeat (first | with_reducible exact Below.refl _ _ | with_reducible assumption | with_reducible refine below_drewN ?_ _ | with_reducible refine Below.drew ?_ | with_reducible refine Below.alloc ?_ (by first | omega | (simp; omega) | simp) _ | with_reducible refine Below.setCell ?_ (by first | omega | (simp; omega) | simp) _))) (hb1.mono (by (first | omega | (simp; omega) | simp)))
  have hP : Cl w1 w.heap.size 27 #[ch, bl, bd] := (((Cl.new_ _ _ _ _ rfl).alloc _).alloc _).below hb1 (by (first | omega | (simp; omega) | simp))
  have hM : Cl w1 (w.heap.size + 1) 46 (#[.int .i64 (Bk.line f), .int .i64 (Bk.cls f), .int .i64 (Bk.kind f), .int .i64 (Bk.gen f)] ++ #[.int .i64 (Bk.line t), .int .i64 (Bk.cls t), .int .i64 (Bk.kind t), .int .i64 (Bk.gen t)]) := ((Cl.new_ _ _ _ _ (by simp)).alloc _).below hb1 (by simp)
  have hZ : Cl w1 (w.heap.size + 2) 27 #[.slice none 0 0, .slice none 0 0, .slice none 0 0] := (Cl.new_ _ _ _ _ (by simp)).below hb1 (by simp)
  clear hb1
  simp only [decide_eq_true hf]
  obtain ⟨⟨p0, p1, p2⟩, -⟩ := hP.has3
  obtain ⟨m0, m1, m2, m3, m4, m5, m6, m7⟩ := hM.has8
  go_wp2_with fail
  refine (contains_calls _ _ bs t (hR.below (by (repeat (first | with_reducible exact Below.refl _ _ | with_reducible assumption | with_reducible refine below_drewN ?_ _ | with_reducible refine Below.drew ?_ | with_reducible refine Below.alloc ?_ (by first | omega | (simp; omega) | simp) _ | with_reducible refine Below.setCell ?_ (by first | omega | (simp; omega) | simp) _)))) hn).mono ?_
  rintro e w2 ⟨rfl, hb2⟩
  simp only [decide_eq_true ht]
  have hbb : Below w.heap.size w w2 := hb.trans (hb2.mono hb.size)
  have hZ2 := hZ.below hb2 hZ.lt
  have hP2 := hP.below hb2 hP.lt
  have hM2 := hM.below hb2 hM.lt
  clear hb hb2 hZ hP hM p0 p1 p2 m0 m1 m2 m3 m4 m5 m6 m7
  have hs := hZ2.lt
  obtain ⟨⟨p0, p1, p2⟩, -⟩ := hP2.has3
  have hC2 := hC.below hbb
  have hR2 := hR.below hbb
  have hD2 := hD.below hbb
  have n0 : ¬ w.heap.size = w2.heap.size := by omega
  have m0 : ¬ w2.heap.size = w.heap.size := by omega
  go_wp2_with fail
  go_cut [6] (fun s wx => ∃ (g : Nat) (ch' bl' bd' : Value), s = .pointer (some ⟨g, 0, none⟩) ∧ w.heap.size + 3 ≤ g ∧ Cl wx g 27 #[ch', bl', bd'] ∧ wx.ownsRow w.heap.size 3 1 ch' cs.length (cs.map (Value.int .i64)) ∧
     wx.ownsRow w.heap.size 40 4 bl' bs.length (bksCells bs) ∧ wx.ownsRow w.heap.size 3 1 bd' ds.length (ds.map (Value.int .i64)) ∧ Below w2.heap.size w2 wx)
  case first =>
    go_region_held3 (fun w' => w'.cell? ⟨w.heap.size, 0, none⟩ = some ch ∧ w'.cell? ⟨w.heap.size, 1, none⟩ = some bl ∧ w'.cell? ⟨w.heap.size, 2, none⟩ = some bd) (go_keep)
      (first
        | (go_at_call_of 26 ch; refine (cloneI_calls _ ch cs (by first | exact hC2 | exact hC2.below (by (repeat (first | with_reducible exact Below.refl _ _ | with_reducible assumption | with_reducible refine below_drewN ?_ _ | with_reducible refine Below.drew ?_ | with_reducible refine Below.alloc ?_ (by first | omega | (simp; omega) | simp) _ | with_reducible refine Below.setCell ?_ (by first | omega | (simp; omega) | simp) _)))) (by omega)).mono ?_; rintro e wa ⟨Aa, ca, rfl, oa, ba0⟩; have ba : Below w2.heap.size w2 wa := (by first | exact below_of_drew ba0 | exact Below.trans (by (repeat (first | with_reducible exact Below.refl _ _ | with_reducible assumption | with_reducible refine below_drewN ?_ _ | with_reducible refine Below.drew ?_ | with_reducible refine Below.alloc ?_ (by first | omega | (simp; omega) | simp) _ | with_reducible refine Below.setCell ?_ (by first | omega | (simp; omega) | simp) _))) (ba0.mono (by simp))); have sa := ba.size; have qa := (hP2.below ba hP2.lt).has3.1; have n1 : ¬ w.heap.size = wa.heap.size := (by omega); have m1 : ¬ wa.heap.size = w.heap.size := (by omega); (first | (have g1 := (Cl.new w2 27 #[.slice none 0 0, .slice none 0 0, .slice none 0 0]).drew.below ba0 (by simp); obtain ⟨⟨k10, k11, k12⟩, k13, k14, k15⟩ := g1.has3) | skip))
        | (go_at_call_of 27 bl; refine (cloneB_calls _ bl bs (by exact hR2.below (by (repeat (first | with_reducible exact Below.refl _ _ | with_reducible assumption | with_reducible refine below_drewN ?_ _ | with_reducible refine Below.drew ?_ | with_reducible refine Below.alloc ?_ (by first | omega | (simp; omega) | simp) _ | with_reducible refine Below.setCell ?_ (by first | omega | (simp; omega) | simp) _)))) (by omega)).mono ?_; rintro e wb ⟨Ab, cb, rfl, ob, bb0⟩; have bab : Below wa.heap.size wa wb := (by first | exact bb0 | exact Below.trans (by (repeat (first | with_reducible exact Below.refl _ _ | with_reducible assumption | with_reducible refine below_drewN ?_ _ | with_reducible refine Below.drew ?_ | with_reducible refine Below.alloc ?_ (by first | omega | (simp; omega) | simp) _ | with_reducible refine Below.setCell ?_ (by first | omega | (simp; omega) | simp) _))) (bb0.mono (by simp))); have sb := bab.size; have bb := ba.trans (bab.mono sa); have qb := (hP2.below bb hP2.lt).has3.1; have oa2 := own_below oa bab; have n2 : ¬ w.heap.size = wb.heap.size := (by omega); have m2 : ¬ wb.heap.size = w.heap.size := (by omega); (first | (have g2 := g1.below bab g1.lt; obtain ⟨⟨k20, k21, k22⟩, k23, k24, k25⟩ := g2.has3) | (have g2 := (Cl.new wa 27 #[.slice none 0 0, .slice none 0 0, .slice none 0 0]).below bb0 (by simp); obtain ⟨⟨k20, k21, k22⟩, k23, k24, k25⟩ := g2.has3) | skip))
        | (go_at_call_of 26 bd; refine (cloneI_calls _ bd ds (by exact hD2.below (by (repeat (first | with_reducible exact Below.refl _ _ | with_reducible assumption | with_reducible refine below_drewN ?_ _ | with_reducible refine Below.drew ?_ | with_reducible refine Below.alloc ?_ (by first | omega | (simp; omega) | simp) _ | with_reducible refine Below.setCell ?_ (by first | omega | (simp; omega) | simp) _)))) (by omega)).mono ?_; rintro e wc ⟨Ac, cc, rfl, oc, bc0⟩; have bbc : Below wb.heap.size wb wc := (by first | exact bc0 | exact Below.trans (by (repeat (first | with_reducible exact Below.refl _ _ | with_reducible assumption | with_reducible refine below_drewN ?_ _ | with_reducible refine Below.drew ?_ | with_reducible refine Below.alloc ?_ (by first | omega | (simp; omega) | simp) _ | with_reducible refine Below.setCell ?_ (by first | omega | (simp; omega) | simp) _))) (bc0.mono (by simp))); have sc := bbc.size; have bc := bb.trans (bbc.mono (by omega)); have qc := (hP2.below bc hP2.lt).has3.1; have oa3 := own_below oa2 bbc; have ob3 := own_below ob bbc; have lc := (hP2.below bc hP2.lt).lt; (first | (have g3 := g2.below bbc g2.lt; obtain ⟨⟨k30, k31, k32⟩, k33, k34, k35⟩ := g3.has3) | (have g3 := (Cl.new wb 27 #[.slice none 0 0, .slice none 0 0, .slice none 0 0]).below bc0 (by simp); obtain ⟨⟨k30, k31, k32⟩, k33, k34, k35⟩ := g3.has3) | skip)))
    all_goals (go_wp2_with fail; go_meet)
    · refine ⟨wc.heap.size, .slice Aa cs.length ca, .slice Ab bs.length cb, .slice Ac ds.length cc, rfl, by omega, Cl.new_ _ _ _ _ rfl, own_base (oa3.alloc _) (by (first | omega | (simp; omega) | simp)), own_base (ob3.alloc _) (by (first | omega | (simp; omega) | simp)), own_base (oc.alloc _) (by (first | omega | (simp; omega) | simp)), by (repeat (first | with_reducible exact Below.refl _ _ | with_reducible assumption | with_reducible refine below_drewN ?_ _ | with_reducible refine Below.drew ?_ | with_reducible refine Below.alloc ?_ (by first | omega | (simp; omega) | simp) _ | with_reducible refine Below.setCell ?_ (by first | omega | (simp; omega) | simp) _))⟩
    · refine ⟨wb.heap.size, .slice Aa cs.length ca, .slice Ab bs.length cb, .slice Ac ds.length cc, rfl, by omega, g3.set3 _ _ _, own_base (own_far3 oa3 g3 (by decide) _ _ _) (by (first | omega | (simp; omega) | simp)), own_base (own_far3 ob3 g3 (by decide) _ _ _) (by (first | omega | (simp; omega) | simp)), own_base (own_far3 oc g3 (by decide) _ _ _) (by (first | omega | (simp; omega) | simp)), by (repeat (first | with_reducible exact Below.refl _ _ | with_reducible assumption | with_reducible refine below_drewN ?_ _ | with_reducible refine Below.drew ?_ | with_reducible refine Below.alloc ?_ (by first | omega | (simp; omega) | simp) _ | with_reducible refine Below.setCell ?_ (by first | omega | (simp; omega) | simp) _))⟩
    · refine ⟨wa.heap.size, .slice Aa cs.length ca, .slice Ab bs.length cb, .slice Ac ds.length cc, rfl, by omega, g3.set3 _ _ _, own_base (own_far3 oa3 g3 (by decide) _ _ _) (by (first | omega | (simp; omega) | simp)), own_base (own_far3 ob3 g3 (by decide) _ _ _) (by (first | omega | (simp; omega) | simp)), own_base (own_far3 oc g3 (by decide) _ _ _) (by (first | omega | (simp; omega) | simp)), by (repeat (first | with_reducible exact Below.refl _ _ | with_reducible assumption | with_reducible refine below_drewN ?_ _ | with_reducible refine Below.drew ?_ | with_reducible refine Below.alloc ?_ (by first | omega | (simp; omega) | simp) _ | with_reducible refine Below.setCell ?_ (by first | omega | (simp; omega) | simp) _))⟩
    · refine ⟨w2.heap.size, .slice Aa cs.length ca, .slice Ab bs.length cb, .slice Ac ds.length cc, rfl, by omega, g3.set3 _ _ _, own_base (own_far3 oa3 g3 (by decide) _ _ _) (by (first | omega | (simp; omega) | simp)), own_base (own_far3 ob3 g3 (by decide) _ _ _) (by (first | omega | (simp; omega) | simp)), own_base (own_far3 oc g3 (by decide) _ _ _) (by (first | omega | (simp; omega) | simp)), by (repeat (first | with_reducible exact Below.refl _ _ | with_reducible assumption | with_reducible refine below_drewN ?_ _ | with_reducible refine Below.drew ?_ | with_reducible refine Below.alloc ?_ (by first | omega | (simp; omega) | simp) _ | with_reducible refine Below.setCell ?_ (by first | omega | (simp; omega) | simp) _))⟩
  case rest =>
    obtain ⟨g, ch', bl', bd', rfl, hg, hO, oC, oB, oD, hbx⟩ := hcut
    have hZx := hZ2.below hbx hZ2.lt
    have hMx := hM2.below hbx hM2.lt
    have hBx := hbb.trans (hbx.mono hbb.size)
    have hlen : 0 < bs.length := List.length_pos_of_mem hf
    obtain ⟨gb, cap, rfl, hgb, hcap, hmx, hRow⟩ := RowB.own oB hlen
    clear hbx hbb hZ2 hP2 hM2 p0 p1 p2 hC2 hR2 hD2 hR hC hD oB hf ht n0 m0
    have o1 := hO.cell 1
    simp only [List.getElem?_toArray, List.getElem?_cons_succ, List.getElem?_cons_zero] at o1
    go_wp2_with fail
    clear o1
    go_loopw [7, 8, 58] (fun _ _ i wr => ∃ k : Nat, k ≤ bs.length ∧ i = .int .i64 k ∧ RowB wr gb (part (afterF f t) bs k) ∧ Cl wr g 27 #[ch', .slice (some ⟨gb, 0, none⟩) bs.length cap, bd'] ∧
        Cl wr (w.heap.size + 2) 27 #[.slice none 0 0, .slice none 0 0, .slice none 0 0] ∧ Cl wr (w.heap.size + 1) 46 (#[.int .i64 (Bk.line f), .int .i64 (Bk.cls f), .int .i64 (Bk.kind f), .int .i64 (Bk.gen f)] ++ #[.int .i64 (Bk.line t), .int .i64 (Bk.cls t), .int .i64 (Bk.kind t), .int .i64 (Bk.gen t)]) ∧
        wr.ownsRow w.heap.size 3 1 ch' cs.length (cs.map (Value.int .i64)) ∧ wr.ownsRow w.heap.size 3 1 bd' ds.length (ds.map (Value.int .i64)) ∧ Below w.heap.size w wr)
      (fun _ _ i _ => bs.length - (intOf i).toNat)
    case atStart => exact ⟨0, Nat.zero_le _, rfl, by rw [part_zero]; exact hRow, hO, hZx, hMx, oC, oD, hBx⟩
    case round =>
      clear hRow hO hZx hMx oC oD hBx
      obtain ⟨k, hk, rfl, hRow, hO, hZ, hM, oC, oD, hb⟩ := hrel
      by_cases hlt : k < bs.length
      · obtain ⟨x, hx⟩ : ∃ x, bs[k]? = some x := ⟨_, List.getElem?_eq_getElem hlt⟩
        have hx' : (part (afterF f t) bs k)[k]? = some x := by rw [part_at]; exact hx
        have hS := Lib.hid (part_succ (afterF f t) bs k x hx)
        have HX := Lib.hid hx'
        obtain ⟨d0, d1, d2, d3⟩ := hRow.cells hx'
        have fr2 := hRow.free (k * 4 + 2)
        have fr3 := hRow.free (k * 4 + 3)
        have hgl := hRow.lt
        have hol := hO.lt
        have hml := hM.lt
        have ng := hRow.ne hO (by decide)
        have nm := hRow.ne hM (by decide)
        obtain ⟨m0, m1, m2, m3, m4, m5, m6, m7⟩ := hM.has8
        have o1 := hO.cell 1
        simp only [List.getElem?_toArray, List.getElem?_cons_succ, List.getElem?_cons_zero] at o1
        clear hx hx'
        cases hq : bkEq x.line x.cls x.kind x.gen f.line f.cls f.kind f.gen
        · cases hq2 : bkEq x.line x.cls x.kind x.gen t.line t.cls t.kind t.gen
          · have hE := Lib.hid (hS.out.trans ((congrArg ((part (afterF f t) bs k).set k) (afterF_none hq hq2)).trans (set_same HX.out)))
            clear hS
            go_wp2_with fail
            go_roundw
            case rel => exact ⟨k + 1, by omega, by go_num, by rw [hE.out]; exact hRow.alloc _, hO.alloc _, hZ.alloc _, hM.alloc _, oC.alloc _, oD.alloc _, by (repeat (first | with_reducible exact Below.refl _ _ | with_reducible assumption | with_reducible refine below_drewN ?_ _ | with_reducible refine Below.drew ?_ | with_reducible refine Below.alloc ?_ (by first | omega | (simp; omega) | simp) _ | with_reducible refine Below.setCell ?_ (by first | omega | (simp; omega) | simp) _))⟩
            case measure => simp [intOf]; omega
          · have hE := Lib.hid (hS.out.trans (congrArg ((part (afterF f t) bs k).set k) (afterF_to hq hq2)))
            clear hS
            have q1 : ¬ gb = g := ng
            have q2 : ¬ g = gb := fun h => ng h.symm
            have q3 : ¬ gb = w.heap.size + 1 := nm
            have q4 : ¬ w.heap.size + 1 = gb := fun h => nm h.symm
            go_wp2_with fail
            generalize hwn : wr.alloc (.cells #[.int .i64 (Bk.line x), .int .i64 (Bk.cls x), .int .i64 (Bk.kind x), .int .i64 (Bk.gen x)] 40) = wn
            have hRn : RowB wn gb (part (afterF f t) bs k) := by rw [← hwn]; exact hRow.alloc _
            have hOn : Cl wn g 27 #[ch', .slice (some ⟨gb, 0, none⟩) bs.length cap, bd'] := by rw [← hwn]; exact hO.alloc _
            have hZn : Cl wn (w.heap.size + 2) 27 #[.slice none 0 0, .slice none 0 0, .slice none 0 0] := by rw [← hwn]; exact hZ.alloc _
            have hMn : Cl wn (w.heap.size + 1) 46 (#[.int .i64 (Bk.line f), .int .i64 (Bk.cls f), .int .i64 (Bk.kind f), .int .i64 (Bk.gen f)] ++ #[.int .i64 (Bk.line t), .int .i64 (Bk.cls t), .int .i64 (Bk.kind t), .int .i64 (Bk.gen t)]) := by rw [← hwn]; exact hM.alloc _
            have hXn : Cl wn wr.heap.size 40 #[.int .i64 (Bk.line x), .int .i64 (Bk.cls x), .int .i64 (Bk.kind x), .int .i64 (Bk.gen x)] := by rw [← hwn]; exact Cl.new _ _ _
            have oCn : wn.ownsRow w.heap.size 3 1 ch' cs.length (cs.map (Value.int .i64)) := by rw [← hwn]; exact oC.alloc _
            have oDn : wn.ownsRow w.heap.size 3 1 bd' ds.length (ds.map (Value.int .i64)) := by rw [← hwn]; exact oD.alloc _
            have hbn : Below w.heap.size w wn := by rw [← hwn]; exact hb.alloc hb.size _
            have q5 : ¬ gb = wr.heap.size := by omega
            have q6 : ¬ wr.heap.size = gb := by omega
            have q7 : ¬ gb = w.heap.size + 2 := hRn.ne hZn (by decide)
            have q8 : ¬ w.heap.size + 2 = gb := fun h => q7 h.symm
            clear hwn hRow hO hZ hM oC oD hb d0 d1 d2 d3 fr2 fr3 m0 m1 m2 m3 m4 m5 m6 m7 o1 hgl hol hml
            have hgl := hRn.lt
            obtain ⟨d0, d1, d2, d3⟩ := hRn.cells HX.out
            have fr2 := hRn.free (k * 4 + 2)
            have fr3 := hRn.free (k * 4 + 3)
            have m2 := hMn.has8.2.2.1
            have o1 := hOn.has3.1.2.1
            have x3 := hXn.has4.1.2.2.2
            go_region_held3 (fun w' => w'.cell? ⟨g, 1, none⟩ = some (.slice (some ⟨gb, 0, none⟩) bs.length cap) ∧ w'.cell? ⟨w.heap.size + 1, 2, none⟩ = some (.int .i64 f.kind) ∧ w'.cell? ⟨wr.heap.size, 3, none⟩ = some (.int .i64 x.gen)) (go_keep)
              (first | (go_at_call 28; refine (pnext_calls _ _).mono ?_; rintro e w' ⟨rfl, rfl⟩))
            have hq1 : g ≠ gb := q2
            have hq2' : w.heap.size + 1 ≠ gb := q4
            have hq3 : w.heap.size + 2 ≠ gb := q8
            go_wp2_with fail
            go_roundw
            case rel => exact ⟨k + 1, by omega, by go_num, by rw [hE.out]; exact hRn.setBoth HX.out f.kind (nextGen x.gen), by (repeat (first | with_reducible assumption | with_reducible refine Cl.drewN ?_ _ | with_reducible refine Cl.drew ?_ | with_reducible refine Cl.alloc ?_ _ | with_reducible refine Cl.far ?_ (by first | with_reducible assumption | omega | (simp; omega) | simp) _)), by (repeat (first | with_reducible assumption | with_reducible refine Cl.drewN ?_ _ | with_reducible refine Cl.drew ?_ | with_reducible refine Cl.alloc ?_ _ | with_reducible refine Cl.far ?_ (by first | with_reducible assumption | omega | (simp; omega) | simp) _)), by (repeat (first | with_reducible assumption | with_reducible refine Cl.drewN ?_ _ | with_reducible refine Cl.drew ?_ | with_reducible refine Cl.alloc ?_ _ | with_reducible refine Cl.far ?_ (by first | with_reducible assumption | omega | (simp; omega) | simp) _)), own_row (own_row oCn hRn (by decide) _ _) (hRn.setKind HX.out f.kind) (by decide) _ _, own_row (own_row oDn hRn (by decide) _ _) (hRn.setKind HX.out f.kind) (by decide) _ _, by (repeat (first | with_reducible exact Below.refl _ _ | with_reducible assumption | with_reducible refine below_drewN ?_ _ | with_reducible refine Below.drew ?_ | with_reducible refine Below.alloc ?_ (by first | omega | (simp; omega) | simp) _ | with_reducible refine Below.setCell ?_ (by first | omega | (simp; omega) | simp) _))⟩
            case measure => simp [intOf]; omega
        · have hE := Lib.hid (hS.out.trans (congrArg ((part (afterF f t) bs k).set k) (afterF_from hq)))
          clear hS
          have q1 : g ≠ gb := Ne.symm ng
          have q2 : w.heap.size + 1 ≠ gb := Ne.symm nm
          have q3 : w.heap.size + 2 ≠ gb := Ne.symm (hRow.ne hZ (by decide))
          go_wp2_with fail
          go_roundw
          case rel => exact ⟨k + 1, by omega, by go_num, by rw [hE.out]; exact (hRow.setKind HX.out 0).alloc _, by (repeat (first | with_reducible assumption | with_reducible refine Cl.drewN ?_ _ | with_reducible refine Cl.drew ?_ | with_reducible refine Cl.alloc ?_ _ | with_reducible refine Cl.far ?_ (by first | with_reducible assumption | omega | (simp; omega) | simp) _)), by (repeat (first | with_reducible assumption | with_reducible refine Cl.drewN ?_ _ | with_reducible refine Cl.drew ?_ | with_reducible refine Cl.alloc ?_ _ | with_reducible refine Cl.far ?_ (by first | with_reducible assumption | omega | (simp; omega) | simp) _)), by (repeat (first | with_reducible assumption | with_reducible refine Cl.drewN ?_ _ | with_reducible refine Cl.drew ?_ | with_reducible refine Cl.alloc ?_ _ | with_reducible refine Cl.far ?_ (by first | with_reducible assumption | omega | (simp; omega) | simp) _)), (own_row oC hRow (by decide) _ _).alloc _, (own_row oD hRow (by decide) _ _).alloc _, by (repeat (first | with_reducible exact Below.refl _ _ | with_reducible assumption | with_reducible refine below_drewN ?_ _ | with_reducible refine Below.drew ?_ | with_reducible refine Below.alloc ?_ (by first | omega | (simp; omega) | simp) _ | with_reducible refine Below.setCell ?_ (by first | omega | (simp; omega) | simp) _))⟩
          case measure => simp [intOf]; omega
      · rw [part_all _ _ _ (by omega)] at hRow
        obtain ⟨⟨z0, z1, z2⟩, u0, u1, u2⟩ := hZ.has3
        obtain ⟨⟨o0, o1, o2⟩, -⟩ := hO.has3
        obtain ⟨_, Aa, ca, rfl, _⟩ := Rd.own oC
        obtain ⟨_, Ac, cc, rfl, _⟩ := Rd.own oD
        have q1 : ¬ g = w.heap.size + 2 := by omega
        have q2 : ¬ w.heap.size + 2 = g := by omega
        have q3 : gb ≠ w.heap.size + 2 := hRow.ne hZ (by decide)
        have hlen' : (bs.map (afterF f t)).length = bs.length := List.length_map _
        go_wp2_with fail
        refine bodyPost_ret (v := .tuple #[.agg #[.slice Aa cs.length ca, .slice (some ⟨gb, 0, none⟩) bs.length cap, .slice Ac ds.length cc], .int .i64 0]) ?_ rfl
          ⟨_, _, _, rfl, Rd.own (own_far3 oC hZ (by decide) _ _ _), ?_, Rd.own (own_far3 oD hZ (by decide) _ _ _), ?_⟩
        · simp [results, Tryd.results11, go_sem, *]
        · have := (((hRow.far (p := ⟨w.heap.size + 2, 0, none⟩) q3 (.slice Aa cs.length ca)).far (p := ⟨w.heap.size + 2, 1, none⟩) q3 (.slice (some ⟨gb, 0, none⟩) bs.length cap)).far (p := ⟨w.heap.size + 2, 2, none⟩) q3 (.slice Ac ds.length cc)).read (c := cap) (by omega) hmx
          rw [hlen'] at this
          exact this
        · (repeat (first | with_reducible exact Below.refl _ _ | with_reducible assumption | with_reducible refine below_drewN ?_ _ | with_reducible refine Below.drew ?_ | with_reducible refine Below.alloc ?_ (by first | omega | (simp; omega) | simp) _ | with_reducible refine Below.setCell ?_ (by first | omega | (simp; omega) | simp) _))

theorem after_calls_no (w : World) (ch bl bd : Value) (bs : List Bk) (f t : Bk) (hR : RdB w bl bs) (hn : bs.length ≤ 1000) (h : ¬ okMove bs f t) :
    Calls Tryd.prog 11 #[.agg #[ch, bl, bd], .agg (#[.int .i64 (Bk.line f), .int .i64 (Bk.cls f), .int .i64 (Bk.kind f), .int .i64 (Bk.gen f)] ++ #[.int .i64 (Bk.line t), .int .i64 (Bk.cls t), .int .i64 (Bk.kind t), .int .i64 (Bk.gen t)])] w (PicPost w [] [] [] 1) := by
  by_cases h1 : f.cls = t.cls
  · by_cases h2 : f.kind = 0
    · exact after_no_calls w ch bl bd f t (.inr (.inl h2))
    · by_cases h3 : t.kind = 0
      · exact after_out_calls w ch bl bd bs f t hR hn h1 h2 h3 (fun hh => h ⟨h1, h2, h3, hh.1, hh.2⟩)
      · exact after_no_calls w ch bl bd f t (.inr (.inr h3))
  · exact after_no_calls w ch bl bd f t (.inl h1)
theorem after_calls_ok (w : World) (ch bl bd : Value) (cs : List Int) (bs : List Bk) (ds : List Int) (f t : Bk) (hC : RdI w ch cs) (hR : RdB w bl bs) (hD : RdI w bd ds)
    (hcn : cs.length ≤ 1000) (hn : bs.length ≤ 1000) (hdn : ds.length ≤ 1000) (h : okMove bs f t) :
    Calls Tryd.prog 11 #[.agg #[ch, bl, bd], .agg (#[.int .i64 (Bk.line f), .int .i64 (Bk.cls f), .int .i64 (Bk.kind f), .int .i64 (Bk.gen f)] ++ #[.int .i64 (Bk.line t), .int .i64 (Bk.cls t), .int .i64 (Bk.kind t), .int .i64 (Bk.gen t)])] w (PicPost w cs (afterB bs f t) ds 0) :=
  after_yes_calls w ch bl bd cs bs ds f t hC hR hD hcn hn hdn h.1 h.2.1 h.2.2.1 h.2.2.2.1 h.2.2.2.2
end Go.Proofs.YtidiapfmjalaiaaDoor
