/-
  WearMovesTakeNext returns true, whatever its arguments.
-/
import Derived.Test.YtidiapfmjalaiaaDoorCheck
import Derived.Test.YtidiapfmjalaiaaDoorCount
import Derived.Test.YtidiapfmjalaiaaDoorMade
import Derived.Test.YtidiapfmjalaiaaDoorMvAt
import Derived.Test.YtidiapfmjalaiaaDoorSanity
import Derived.Deep.RegionHeld3
import Derived.Deep.DeepCutAuto
namespace Go.Proofs.YtidiapfmjalaiaaDoor
open Go.RowKit

def TnRel (w : World) (gx gl : Nat) (lay : Array Value) (cs : List Int) (cls : List Nat) (m : Nat) (c : Int) (mv : Value) (ms : List (Bk × Bk)) (i : Value) (wr : World) : Prop :=
  ∃ (j : Nat) (bs : List Bk), j ≤ ms.length ∧ i = .int .i64 j ∧ Pic wr gx cs bs [] ∧ Cl wr gl 32 lay ∧ RdM wr mv ms ∧ movesB (30 - j) bs c = ms.drop j ∧ bs.map spot = spots 16 cls m ∧ (∀ b ∈ bs, CanB b) ∧ bs.length ≤ 1000 ∧ Below w.heap.size w wr
def KindRel (wq : World) (i : Value) (wr : World) : Prop := ∃ k : Nat, k ≤ 7 ∧ i = .int .i64 k ∧ Below wq.heap.size wq wr
theorem can_gen {bs : List Bk} (h : ∀ b ∈ bs, CanB b) : GenOk 2000000 bs := fun b hb => by have := h b hb; unfold CanB at this; omega

set_option maxHeartbeats 1000000 in
theorem takeNext_out (w : World) (n : Nat) (cv rv : Value) (cls : List Nat) (rs : List (Nat × Nat)) (more c : Int) (hn : n < 256) (hc : RdN w 1 cv cls.length (u8s cls)) (hr : RdN w 2 rv rs.length (rawCells rs))
    (h : 10 < cls.length ∨ 40 < rs.length ∨ more < 0 ∨ 1048575 < more) :
    Calls Tryd.prog 3 #[.int .u8 (n : Int), cv, rv, .int .i64 more, .int .i64 c] w (SanePost w) := by
  go_enter Tryd.func3, Tryd.ntmps3
  go_wp2_with fail
  refine (made_no _ n _ _ cls rs more hn hc hr h).mono ?_
  rintro e w1 h1
  obtain ⟨a1, k1, a2, k2, a3, k3, rfl, -, -, -, hB⟩ := h1.forms
  clear h1
  have hs1 := hB.size
  go_wp2_with fail
  refine (sanity_calls _).mono ?_
  rintro e w2 ⟨rfl, hb2⟩
  have hB2 : Below w.heap.size w w2 := Below.trans (show Below w.heap.size w (w1.alloc _) by (repeat (first | with_reducible exact Below.refl _ _ | with_reducible assumption | with_reducible refine below_drewN ?_ _ | with_reducible refine Below.drew ?_ | with_reducible refine Below.alloc ?_ (by first | omega | (simp; omega) | simp) _ | with_reducible refine Below.setCell ?_ (by first | omega | (simp; omega) | simp) _))) (hb2.mono (by simp; omega))
  go_wp2_with fail
  go_ret
  exact ⟨rfl, hB2⟩

set_option maxRecDepth 100000 in
set_option maxHeartbeats 8000000 in
theorem takeNext_yes (w : World) (n : Nat) (cv rv : Value) (cls : List Nat) (rs : List (Nat × Nat)) (more : Nat) (c : Int) (hn : n < 256) (hc : RdN w 1 cv cls.length (u8s cls)) (hr : RdN w 2 rv rs.length (rawCells rs))
    (hc8 : ∀ c ∈ cls, c < 256) (hr8 : ∀ r ∈ rs, r.1 < 256 ∧ r.2 < 65536) (h1 : cls.length ≤ 10) (h2 : rs.length ≤ 40) (h3 : more ≤ 1048575) (hd : Hd w) :
    Calls Tryd.prog 3 #[.int .u8 (n : Int), cv, rv, .int .i64 (more : Int), .int .i64 c] w (SanePost w) := by
  have hN := madeN_le n
  have hcan : ∀ b ∈ picB 16 cls rs more (madeN n), CanB b := picB_can 16 cls rs more (madeN n)
  have hsp : (picB 16 cls rs more (madeN n)).map spot = spots 16 cls (madeN n) := picB_spots 16 cls rs more (madeN n)
  have hcl : (picC cls (madeN n)).length ≤ 1000 := by rw [picC_length]; omega
  have hbl : (picB 16 cls rs more (madeN n)).length ≤ 1000 := by have := picB_length 16 cls rs more (madeN n); omega
  obtain ⟨cs, hcs⟩ : ∃ cs, cs = picC cls (madeN n) := ⟨_, rfl⟩
  have HCS := Lib.hid hcs
  have HCAN := Lib.hid hcan
  have HSP := Lib.hid hsp
  clear hcan hsp
  go_enter Tryd.func3, Tryd.ntmps3
  go_wp2_with fail
  refine (made_yes _ n _ _ cls rs more hn hc hr hc8 hr8 h1 h2 h3).mono ?_
  rintro e w1 h1
  obtain ⟨a1, k1, a2, k2, a3, k3, rfl, x1, x2, x3, hB⟩ := h1.forms
  rw [← hcs] at x1 hcl ⊢
  clear h1 hc hr hc8 hr8 hcs
  generalize picB 16 cls rs more (madeN n) = bs at *
  have hs1 := hB.size
  go_wp2_with fail
  refine (lines_calls _ n hn).mono ?_
  rintro e w0 ⟨rfl, rfl⟩
  go_wp2_with fail
  refine (plan_made _ n).mono ?_
  rintro e w2 ⟨rfl, hb2⟩
  have hX := (Cl.new w1 27 #[.slice a1 cs.length k1, .slice a2 bs.length k2, .slice a3 0 k3]).below hb2 (by simp)
  have hA2 : Below w1.heap.size w1 w2 := Below.trans (by (repeat (first | with_reducible exact Below.refl _ _ | with_reducible assumption | with_reducible refine below_drewN ?_ _ | with_reducible refine Below.drew ?_ | with_reducible refine Below.alloc ?_ (by first | omega | (simp; omega) | simp) _ | with_reducible refine Below.setCell ?_ (by first | omega | (simp; omega) | simp) _))) (hb2.mono (by simp))
  replace hB := hB.trans (hA2.mono hB.size)
  replace x1 := x1.below hA2
  replace x2 := x2.below hA2
  replace x3 := x3.below hA2
  clear hb2 hA2
  obtain ⟨⟨y0, y1, y2⟩, -⟩ := hX.has3
  have hlx := hX.lt
  have hg := can_gen HCAN.out
  go_wp2_with fail
  refine (wear_moves_calls _ _ _ _ cs bs [] c 30 (x1.below (by (repeat (first | with_reducible exact Below.refl _ _ | with_reducible assumption | with_reducible refine below_drewN ?_ _ | with_reducible refine Below.drew ?_ | with_reducible refine Below.alloc ?_ (by first | omega | (simp; omega) | simp) _ | with_reducible refine Below.setCell ?_ (by first | omega | (simp; omega) | simp) _)))) (x2.below (by (repeat (first | with_reducible exact Below.refl _ _ | with_reducible assumption | with_reducible refine below_drewN ?_ _ | with_reducible refine Below.drew ?_ | with_reducible refine Below.alloc ?_ (by first | omega | (simp; omega) | simp) _ | with_reducible refine Below.setCell ?_ (by first | omega | (simp; omega) | simp) _)))) (x3.below (by (repeat (first | with_reducible exact Below.refl _ _ | with_reducible assumption | with_reducible refine below_drewN ?_ _ | with_reducible refine Below.drew ?_ | with_reducible refine Below.alloc ?_ (by first | omega | (simp; omega) | simp) _ | with_reducible refine Below.setCell ?_ (by first | omega | (simp; omega) | simp) _)))) hcl hbl (by simp) hg (by omega)).mono ?_
  rintro e w3 ⟨Am, cm, rfl, hM, hb3⟩
  have hL := (Cl.new w2 32 (madeLay n)).below hb3 (by simp)
  have hA3 : Below w2.heap.size w2 w3 := Below.trans (by (repeat (first | with_reducible exact Below.refl _ _ | with_reducible assumption | with_reducible refine below_drewN ?_ _ | with_reducible refine Below.drew ?_ | with_reducible refine Below.alloc ?_ (by first | omega | (simp; omega) | simp) _ | with_reducible refine Below.setCell ?_ (by first | omega | (simp; omega) | simp) _))) (hb3.mono (by simp))
  have hP : Pic w3 w1.heap.size cs bs [] := ⟨a1, k1, a2, k2, a3, k3, hX.below hA3 hX.lt, x1.below hA3, x2.below hA3, x3.below hA3⟩
  replace hB := hB.trans (hA3.mono hB.size)
  have hml := movesB_length 30 bs c
  rw [show Int.toNat 30 = 30 from rfl] at hM ⊢
  obtain ⟨ms, hms⟩ : ∃ ms, ms = movesB 30 bs c := ⟨_, rfl⟩
  rw [← hms] at hM hml ⊢
  have HDR : Hid (movesB (30 - 0) bs c = ms.drop 0) := Lib.hid (by rw [hms]; rfl)
  clear hms hb3 hA3 hX x1 x2 x3 y0 y1 y2 hg
  have hs3 : w2.heap.size < w3.heap.size := hL.lt
  go_wp2_with fail
  go_loopw [16, 17, 18, 19, 20, 21, 22, 23] (fun i _ _ _ _ _ _ _ wr => TnRel w w1.heap.size w2.heap.size (madeLay n) cs cls (madeN n) c (.slice Am ms.length cm) ms i wr) (fun i _ _ _ _ _ _ _ _ => ms.length - (intOf i).toNat)
  case atStart => exact ⟨0, bs, Nat.zero_le _, rfl, hP, hL, hM, HDR.out, HSP.out, HCAN.out, hbl, hB⟩
  case round =>
    clear hP hL hM HDR HSP HCAN hbl hB hs3
    obtain ⟨j, bs2, hj, rfl, hP, hL, hM, hmv, hsp, hcan, hbl, hB⟩ := hrel
    obtain ⟨F1, k1, F2, k3, F3, k4, hC, p1, p2, p3⟩ := hP
    obtain ⟨w4, hw4⟩ : ∃ x : World, x = wr := ⟨_, rfl⟩
    subst hw4
    have hl4 := hC.lt
    have hl5 := hL.lt
    by_cases hlt : j < ms.length
    · obtain ⟨f, t, hft, hlv, hnx, hnext⟩ := moves_dropC hmv hlt (by omega)
      have hok := okMove_of hlv hnx
      have hg := can_gen hcan
      have hnd : bs2.Nodup := nodup_of_asc (by rw [hsp]; exact spots_asc 16 cls (madeN n))
      have hcnt := after_count hnd hok
      have hcan2 := after_can (t := t) hcan hok.2.2.2.1
      have hsp2 : (afterB bs2 f t).map spot = spots 16 cls (madeN n) := (after_spots bs2 f t).trans hsp
      have hbl2 : (afterB bs2 f t).length ≤ 1000 := by rw [afterB_length]; exact hbl
      obtain ⟨Am', cm', he, hmc, hmcell⟩ := hM.at_
      obtain ⟨bm, om, hAm, mlt, hcm⟩ := hmcell j hlt
      obtain ⟨m0, m1, m2, m3, m4, m5, m6, m7⟩ := hcm f t hft
      injection he with he1 he2 he3
      subst he3
      subst hAm
      subst he1
      have HOK := Lib.hid hok
      have HNX := Lib.hid hnext
      have HCNT := Lib.hid hcnt
      have HCAN2 := Lib.hid hcan2
      have HSP2 := Lib.hid hsp2
      have HLV := Lib.hid hlv
      have HNB := Lib.hid hnx
      clear he2 hmcell hcm hft hmv hok hnext hcnt hcan2 hsp2 hlv hnx hnd hcan hsp
      obtain ⟨⟨y0, y1, y2⟩, -⟩ := hC.has3
      go_wp2_with fail
      refine (next_calls _ _ _ _ bs2 c p2 hbl).mono ?_
      rintro e w5 ⟨rfl, hb5⟩
      rw [HNB.out]
      have ho1 : outBk (some t) = t := rfl
      rw [ho1]
      replace hC := hC.below hb5 hC.lt
      replace hL := hL.below hb5 hL.lt
      replace hM := hM.below hb5
      replace p1 := p1.below hb5
      replace p2 := p2.below hb5
      replace p3 := p3.below hb5
      replace hB := hB.trans (hb5.mono hB.size)
      have cm5 : ∀ o, w5.cell? ⟨bm, o, none⟩ = w4.cell? ⟨bm, o, none⟩ := fun o => hb5.cell (p := ⟨bm, o, none⟩) mlt
      replace m0 := (cm5 _).trans m0
      replace m1 := (cm5 _).trans m1
      replace m2 := (cm5 _).trans m2
      replace m3 := (cm5 _).trans m3
      replace m4 := (cm5 _).trans m4
      replace m5 := (cm5 _).trans m5
      replace m6 := (cm5 _).trans m6
      replace m7 := (cm5 _).trans m7
      have mlt5 : bm < w5.heap.size := Nat.lt_of_lt_of_le mlt hb5.size
      clear hb5 y0 y1 y2 HNB ho1 cm5 mlt hl4 hl5
      obtain ⟨⟨y0, y1, y2⟩, -⟩ := hC.has3
      have hl4 := hC.lt
      have hl5 := hL.lt
      go_wp2_with fail
      refine (level_calls _ _ _ _ bs2 c (p2.below (by (repeat (first | with_reducible exact Below.refl _ _ | with_reducible assumption | with_reducible refine below_drewN ?_ _ | with_reducible refine Below.drew ?_ | with_reducible refine Below.alloc ?_ (by first | omega | (simp; omega) | simp) _ | with_reducible refine Below.setCell ?_ (by first | omega | (simp; omega) | simp) _)))) hbl hg).mono ?_
      rintro e w6 ⟨rfl, hb6⟩
      rw [HLV.out]
      have ho2 : outBk (some f) = f := rfl
      rw [ho2]
      have hNx := (Cl.new w5 40 #[.int .i64 (Bk.line t), .int .i64 (Bk.cls t), .int .i64 (Bk.kind t), .int .i64 (Bk.gen t)]).below hb6 (by simp)
      have hA6 : Below w5.heap.size w5 w6 := Below.trans (by (repeat (first | with_reducible exact Below.refl _ _ | with_reducible assumption | with_reducible refine below_drewN ?_ _ | with_reducible refine Below.drew ?_ | with_reducible refine Below.alloc ?_ (by first | omega | (simp; omega) | simp) _ | with_reducible refine Below.setCell ?_ (by first | omega | (simp; omega) | simp) _))) (hb6.mono (by simp))
      replace hC := hC.below hA6 hC.lt
      replace hL := hL.below hA6 hL.lt
      replace hM := hM.below hA6
      replace p1 := p1.below hA6
      replace p2 := p2.below hA6
      replace p3 := p3.below hA6
      replace hB := hB.trans (hA6.mono hB.size)
      have cm6 : ∀ o, w6.cell? ⟨bm, o, none⟩ = w5.cell? ⟨bm, o, none⟩ := fun o => hA6.cell (p := ⟨bm, o, none⟩) mlt5
      replace m0 := (cm6 _).trans m0
      replace m1 := (cm6 _).trans m1
      replace m2 := (cm6 _).trans m2
      replace m3 := (cm6 _).trans m3
      replace m4 := (cm6 _).trans m4
      replace m5 := (cm6 _).trans m5
      replace m6 := (cm6 _).trans m6
      replace m7 := (cm6 _).trans m7
      have mlt6 : bm < w6.heap.size := Nat.lt_of_lt_of_le mlt5 hA6.size
      clear hb6 hA6 y0 y1 y2 HLV ho2 cm6 hl4 hl5 mlt5 hg
      -- the block of the level is new: name the world behind it
      go_upto_region 13 with (fail)
      generalize hwn : w6.alloc (.cells #[.int .i64 (Bk.line f), .int .i64 (Bk.cls f), .int .i64 (Bk.kind f), .int .i64 (Bk.gen f)] 40) = wn
      have hLv : Cl wn w6.heap.size 40 #[.int .i64 (Bk.line f), .int .i64 (Bk.cls f), .int .i64 (Bk.kind f), .int .i64 (Bk.gen f)] := by rw [← hwn]; exact Cl.new _ _ _
      have hA7 : Below w6.heap.size w6 wn := by rw [← hwn]; (repeat (first | with_reducible exact Below.refl _ _ | with_reducible assumption | with_reducible refine below_drewN ?_ _ | with_reducible refine Below.drew ?_ | with_reducible refine Below.alloc ?_ (by first | omega | (simp; omega) | simp) _ | with_reducible refine Below.setCell ?_ (by first | omega | (simp; omega) | simp) _))
      replace hC := hC.below hA7 hC.lt
      replace hL := hL.below hA7 hL.lt
      replace hNx := hNx.below hA7 hNx.lt
      replace hM := hM.below hA7
      replace p1 := p1.below hA7
      replace p2 := p2.below hA7
      replace p3 := p3.below hA7
      replace hB := hB.trans (hA7.mono hB.size)
      have cm7 : ∀ o, wn.cell? ⟨bm, o, none⟩ = w6.cell? ⟨bm, o, none⟩ := fun o => hA7.cell (p := ⟨bm, o, none⟩) mlt6
      replace m0 := (cm7 _).trans m0
      replace m1 := (cm7 _).trans m1
      replace m2 := (cm7 _).trans m2
      replace m3 := (cm7 _).trans m3
      replace m4 := (cm7 _).trans m4
      replace m5 := (cm7 _).trans m5
      replace m6 := (cm7 _).trans m6
      replace m7 := (cm7 _).trans m7
      have mlt7 : bm < wn.heap.size := Nat.lt_of_lt_of_le mlt6 hA7.size
      clear hA7 hwn cm7 mlt6
      obtain ⟨⟨y0, y1, y2⟩, -⟩ := hC.has3
      have hl4 := hC.lt
      have yn : ¬ w1.heap.size = wn.heap.size := by omega
      have yn' : ¬ wn.heap.size = w1.heap.size := by omega
      have zn : ¬ bm = wn.heap.size := by omega
      have zn' : ¬ wn.heap.size = bm := by omega
      go_cut [21, 22] (fun s t' wx => ∃ g A1 c1 A2 c2 A3 c3, s = .pointer (some ⟨g, 0, none⟩) ∧ t' = .int .i64 0 ∧ wn.heap.size ≤ g ∧ Cl wx g 27 #[.slice A1 cs.length c1, .slice A2 (afterB bs2 f t).length c2, .slice A3 0 c3] ∧ RdI wx (.slice A1 cs.length c1) cs ∧ RdB wx (.slice A2 (afterB bs2 f t).length c2) (afterB bs2 f t) ∧ RdI wx (.slice A3 0 c3) [] ∧ Below wn.heap.size wn wx)
      case first =>
        go_region_held3 (fun w' => (w'.cell? ⟨w1.heap.size, 0, none⟩ = some (.slice F1 cs.length k1) ∧ w'.cell? ⟨w1.heap.size, 1, none⟩ = some (.slice F2 bs2.length k3) ∧ w'.cell? ⟨w1.heap.size, 2, none⟩ = some (.slice F3 0 k4)) ∧ (w'.cell? ⟨bm, om + j * 8, none⟩ = some (.int .i64 (Bk.line f)) ∧ w'.cell? ⟨bm, om + j * 8 + 1, none⟩ = some (.int .i64 (Bk.cls f)) ∧ w'.cell? ⟨bm, om + j * 8 + 2, none⟩ = some (.int .i64 (Bk.kind f)) ∧ w'.cell? ⟨bm, om + j * 8 + 3, none⟩ = some (.int .i64 (Bk.gen f)) ∧ w'.cell? ⟨bm, om + j * 8 + 4, none⟩ = some (.int .i64 (Bk.line t)) ∧ w'.cell? ⟨bm, om + j * 8 + 5, none⟩ = some (.int .i64 (Bk.cls t)) ∧ w'.cell? ⟨bm, om + j * 8 + 6, none⟩ = some (.int .i64 (Bk.kind t)) ∧ w'.cell? ⟨bm, om + j * 8 + 7, none⟩ = some (.int .i64 (Bk.gen t)))) (go_keep)
          (first | (go_at_call 11; refine (after_ok8 _ _ _ _ cs bs2 [] f t (by first | exact p1 | exact p1.below (by (repeat (first | with_reducible exact Below.refl _ _ | with_reducible assumption | with_reducible refine below_drewN ?_ _ | with_reducible refine Below.drew ?_ | with_reducible refine Below.alloc ?_ (by first | omega | (simp; omega) | simp) _ | with_reducible refine Below.setCell ?_ (by first | omega | (simp; omega) | simp) _)))) (by first | exact p2 | exact p2.below (by (repeat (first | with_reducible exact Below.refl _ _ | with_reducible assumption | with_reducible refine below_drewN ?_ _ | with_reducible refine Below.drew ?_ | with_reducible refine Below.alloc ?_ (by first | omega | (simp; omega) | simp) _ | with_reducible refine Below.setCell ?_ (by first | omega | (simp; omega) | simp) _)))) (by first | exact p3 | exact p3.below (by (repeat (first | with_reducible exact Below.refl _ _ | with_reducible assumption | with_reducible refine below_drewN ?_ _ | with_reducible refine Below.drew ?_ | with_reducible refine Below.alloc ?_ (by first | omega | (simp; omega) | simp) _ | with_reducible refine Below.setCell ?_ (by first | omega | (simp; omega) | simp) _)))) hcl hbl (by simp) HOK.out).mono ?_; rintro e wa ha; obtain ⟨a4, k5, a5, k6, a6, k7, rfl, v1, v2, v3, ba0⟩ := PicPost.forms ha; clear ha; have ba : Below wn.heap.size wn wa := (by first | exact below_of_drew ba0 | exact Below.trans (by (repeat (first | with_reducible exact Below.refl _ _ | with_reducible assumption | with_reducible refine below_drewN ?_ _ | with_reducible refine Below.drew ?_ | with_reducible refine Below.alloc ?_ (by first | omega | (simp; omega) | simp) _ | with_reducible refine Below.setCell ?_ (by first | omega | (simp; omega) | simp) _))) (ba0.mono (by simp))); have sa := ba.size; have qa := (hC.below ba hC.lt).has3.1; (have ca : ∀ o, wa.cell? ⟨bm, o, none⟩ = wn.cell? ⟨bm, o, none⟩ := fun o => ba.cell (p := ⟨bm, o, none⟩) mlt7); (have c0 := (ca _).trans m0); (have c1 := (ca _).trans m1); (have c2 := (ca _).trans m2); (have c3 := (ca _).trans m3); (have c4 := (ca _).trans m4); (have c5 := (ca _).trans m5); (have c6 := (ca _).trans m6); (have c7 := (ca _).trans m7); clear ca; (have l1 : w1.heap.size < wa.heap.size := (by omega)); (have l2 : bm < wa.heap.size := (by omega)); (first | (have g1 := (Cl.new wn 27 #[.slice none 0 0, .slice none 0 0, .slice none 0 0]).drew.below ba0 (by simp); obtain ⟨⟨k10, k11, k12⟩, k13, k14, k15⟩ := g1.has3) | skip)))
        all_goals (go_wp2_with fail; go_meet)
        · exact ⟨wa.heap.size, a4, k5, a5, k6, a6, k7, rfl, rfl, by omega, Cl.new _ _ _, Rd.alloc v1 _, Rd.alloc v2 _, Rd.alloc v3 _, by (repeat (first | with_reducible exact Below.refl _ _ | with_reducible assumption | with_reducible refine below_drewN ?_ _ | with_reducible refine Below.drew ?_ | with_reducible refine Below.alloc ?_ (by first | omega | (simp; omega) | simp) _ | with_reducible refine Below.setCell ?_ (by first | omega | (simp; omega) | simp) _))⟩
        · exact ⟨wn.heap.size, a4, k5, a5, k6, a6, k7, rfl, rfl, by omega, g1.set3 _ _ _, v1.far3 g1 (by decide) _ _ _, v2.far3 g1 (by decide) _ _ _, v3.far3 g1 (by decide) _ _ _, by (repeat (first | with_reducible exact Below.refl _ _ | with_reducible assumption | with_reducible refine below_drewN ?_ _ | with_reducible refine Below.drew ?_ | with_reducible refine Below.alloc ?_ (by first | omega | (simp; omega) | simp) _ | with_reducible refine Below.setCell ?_ (by first | omega | (simp; omega) | simp) _))⟩
      case rest =>
        obtain ⟨gA, a4, k5, a5, k6, a6, k7, rfl, rfl, hgA, hA, v1, v2, v3, hbx⟩ := hcut
        clear y0 y1 y2 yn yn' zn zn'
        have hx4 : w1.heap.size < gA := by omega
        obtain ⟨w8, hw8⟩ : ∃ x : World, x = wc := ⟨_, rfl⟩
        subst hw8
        replace hC := hC.below hbx hC.lt
        replace hL := hL.below hbx hL.lt
        replace hNx := hNx.below hbx hNx.lt
        replace hLv := hLv.below hbx hLv.lt
        replace hM := hM.below hbx
        replace p1 := p1.below hbx
        replace p2 := p2.below hbx
        replace p3 := p3.below hbx
        replace hB := hB.trans (hbx.mono hB.size)
        have cm8 : ∀ o, w8.cell? ⟨bm, o, none⟩ = wn.cell? ⟨bm, o, none⟩ := fun o => hbx.cell (p := ⟨bm, o, none⟩) mlt7
        replace m0 := (cm8 _).trans m0
        replace m1 := (cm8 _).trans m1
        replace m2 := (cm8 _).trans m2
        replace m3 := (cm8 _).trans m3
        replace m4 := (cm8 _).trans m4
        replace m5 := (cm8 _).trans m5
        replace m6 := (cm8 _).trans m6
        replace m7 := (cm8 _).trans m7
        have mlt8 : bm < w8.heap.size := Nat.lt_of_lt_of_le mlt7 hbx.size
        clear hbx cm8 mlt7 hl4
        have hd8 := hd.below hB
        have v1' : RdI w8 (.slice a4 cs.length k5) (picC cls (madeN n)) := by rw [← HCS.out]; exact v1
        obtain ⟨y0, y1, y2, y3, y4, y5, y6, y7⟩ := Cl.cells8 (show Cl w8 w2.heap.size 32 #[.int .i64 (madeL n : Int), .int .i64 2, .int .i64 8, .int .i64 10, .int .i64 4, .int .i64 14, .int .i64 16, .int .i64 (madeN n : Int)] from hL)
        obtain ⟨⟨z0, z1, z2⟩, -⟩ := hA.has3
        obtain ⟨⟨n0, n1, n2, n3⟩, -⟩ := hNx.has4
        obtain ⟨⟨s0, s1, s2, s3⟩, -⟩ := hLv.has4
        have q1 := hL.lt
        have q2 := hA.lt
        have q3 := hNx.lt
        have q4 := hLv.lt
        have bt := (bkEq_iff t t).2 rfl
        have bf := (bkEq_iff f f).2 rfl
        go_wp2_with fail
        go_cut [107] (fun s wx => s = .bool false ∧ Below w8.heap.size w8 wx)
        case first =>
          go_region_held3 (fun w' => (w'.cell? ⟨bm, om + j * 8, none⟩ = some (.int .i64 (Bk.line f)) ∧ w'.cell? ⟨bm, om + j * 8 + 1, none⟩ = some (.int .i64 (Bk.cls f)) ∧ w'.cell? ⟨bm, om + j * 8 + 2, none⟩ = some (.int .i64 (Bk.kind f)) ∧ w'.cell? ⟨bm, om + j * 8 + 3, none⟩ = some (.int .i64 (Bk.gen f)) ∧ w'.cell? ⟨bm, om + j * 8 + 4, none⟩ = some (.int .i64 (Bk.line t)) ∧ w'.cell? ⟨bm, om + j * 8 + 5, none⟩ = some (.int .i64 (Bk.cls t)) ∧ w'.cell? ⟨bm, om + j * 8 + 6, none⟩ = some (.int .i64 (Bk.kind t)) ∧ w'.cell? ⟨bm, om + j * 8 + 7, none⟩ = some (.int .i64 (Bk.gen t))) ∧ (w'.cell? ⟨w5.heap.size, 0, none⟩ = some (.int .i64 (Bk.line t)) ∧ w'.cell? ⟨w5.heap.size, 1, none⟩ = some (.int .i64 (Bk.cls t)) ∧ w'.cell? ⟨w5.heap.size, 2, none⟩ = some (.int .i64 (Bk.kind t)) ∧ w'.cell? ⟨w5.heap.size, 3, none⟩ = some (.int .i64 (Bk.gen t))) ∧ (w'.cell? ⟨w6.heap.size, 0, none⟩ = some (.int .i64 (Bk.line f)) ∧ w'.cell? ⟨w6.heap.size, 1, none⟩ = some (.int .i64 (Bk.cls f)) ∧ w'.cell? ⟨w6.heap.size, 2, none⟩ = some (.int .i64 (Bk.kind f)) ∧ w'.cell? ⟨w6.heap.size, 3, none⟩ = some (.int .i64 (Bk.gen f))) ∧ (w'.cell? ⟨w2.heap.size, 0, none⟩ = some (.int .i64 (madeL n : Int)) ∧ w'.cell? ⟨w2.heap.size, 1, none⟩ = some (.int .i64 2) ∧ w'.cell? ⟨w2.heap.size, 2, none⟩ = some (.int .i64 8) ∧ w'.cell? ⟨w2.heap.size, 3, none⟩ = some (.int .i64 10) ∧ w'.cell? ⟨w2.heap.size, 4, none⟩ = some (.int .i64 4) ∧ w'.cell? ⟨w2.heap.size, 5, none⟩ = some (.int .i64 14) ∧ w'.cell? ⟨w2.heap.size, 6, none⟩ = some (.int .i64 16) ∧ w'.cell? ⟨w2.heap.size, 7, none⟩ = some (.int .i64 (madeN n : Int))) ∧ (w'.cell? ⟨gA, 0, none⟩ = some (.slice a4 cs.length k5) ∧ w'.cell? ⟨gA, 1, none⟩ = some (.slice a5 (afterB bs2 f t).length k6) ∧ w'.cell? ⟨gA, 2, none⟩ = some (.slice a6 0 k7))) (go_keep)
            (first | (go_at_call 12; refine (check_calls _ _ _ _ _ _ _ 16 (madeN n) _ _ _ cls (afterB bs2 f t) (by first | exact v1' | exact v1'.below (by (repeat (first | with_reducible exact Below.refl _ _ | with_reducible assumption | with_reducible refine below_drewN ?_ _ | with_reducible refine Below.drew ?_ | with_reducible refine Below.alloc ?_ (by first | omega | (simp; omega) | simp) _ | with_reducible refine Below.setCell ?_ (by first | omega | (simp; omega) | simp) _)))) (by first | exact v2 | exact v2.below (by (repeat (first | with_reducible exact Below.refl _ _ | with_reducible assumption | with_reducible refine below_drewN ?_ _ | with_reducible refine Below.drew ?_ | with_reducible refine Below.alloc ?_ (by first | omega | (simp; omega) | simp) _ | with_reducible refine Below.setCell ?_ (by first | omega | (simp; omega) | simp) _)))) (by first | exact v3 | exact v3.below (by (repeat (first | with_reducible exact Below.refl _ _ | with_reducible assumption | with_reducible refine below_drewN ?_ _ | with_reducible refine Below.drew ?_ | with_reducible refine Below.alloc ?_ (by first | omega | (simp; omega) | simp) _ | with_reducible refine Below.setCell ?_ (by first | omega | (simp; omega) | simp) _)))) (by first | exact hd8 | exact hd8.below (by (repeat (first | with_reducible exact Below.refl _ _ | with_reducible assumption | with_reducible refine below_drewN ?_ _ | with_reducible refine Below.drew ?_ | with_reducible refine Below.alloc ?_ (by first | omega | (simp; omega) | simp) _ | with_reducible refine Below.setCell ?_ (by first | omega | (simp; omega) | simp) _)))) (by omega) (by omega) (by omega) hbl2 HSP2.out HCAN2.out).mono ?_; rintro e wa ⟨rfl, ba0⟩; (have ba : Below w8.heap.size w8 wa := (by first | exact below_of_drew ba0 | exact ba0)); have sa := ba.size; (have ca : ∀ o, wa.cell? ⟨bm, o, none⟩ = w8.cell? ⟨bm, o, none⟩ := fun o => ba.cell (p := ⟨bm, o, none⟩) mlt8); (have c0 := (ca _).trans m0); (have c1 := (ca _).trans m1); (have c2 := (ca _).trans m2); (have c3 := (ca _).trans m3); (have c4 := (ca _).trans m4); (have c5 := (ca _).trans m5); (have c6 := (ca _).trans m6); (have c7 := (ca _).trans m7); clear ca; (have qN := (hNx.below ba hNx.lt).has4.1); (have qL := (hLv.below ba hLv.lt).has4.1); (have qA := (hA.below ba hA.lt).has3.1); (have qY := Cl.cells8 (show Cl wa w2.heap.size 32 #[.int .i64 (madeL n : Int), .int .i64 2, .int .i64 8, .int .i64 10, .int .i64 4, .int .i64 14, .int .i64 16, .int .i64 (madeN n : Int)] from hL.below ba hL.lt)); unfold Cells8 at qY))
          go_wp2_with fail
          go_meet
          exact ⟨rfl, ba⟩
        case rest =>
          obtain ⟨rfl, hbx⟩ := hcut
          obtain ⟨w9, hw9⟩ : ∃ x : World, x = wc := ⟨_, rfl⟩
          subst hw9
          replace hC := hC.below hbx hC.lt
          replace hL := hL.below hbx hL.lt
          replace hA := hA.below hbx hA.lt
          replace hM := hM.below hbx
          replace p2 := p2.below hbx
          replace v1 := v1.below hbx
          replace v2 := v2.below hbx
          replace v3 := v3.below hbx
          replace hB := hB.trans (hbx.mono hB.size)
          clear hbx y0 y1 y2 y3 y4 y5 y6 y7 z0 z1 z2 n0 n1 n2 n3 s0 s1 s2 s3 q1 q2 q3 q4 bt bf m0 m1 m2 m3 m4 m5 m6 m7 mlt8 hd8 v1' hNx hLv p1 p3
          have hl9 := hC.lt
          have hg9 := hA.lt
          have yn : ¬ w1.heap.size = gA := by omega
          have yn' : ¬ gA = w1.heap.size := by omega
          go_wp2_with fail
          go_loopw [23] (fun i wr => KindRel w9 i wr) (fun i _ => 7 - (intOf i).toNat)
          case atStart => exact ⟨0, by omega, rfl, Below.refl _ _⟩
          case round =>
            obtain ⟨k, hk, rfl, hb⟩ := hrel
            obtain ⟨w10, hw10⟩ : ∃ x : World, x = wr := ⟨_, rfl⟩
            subst hw10
            have hC2 := hC.below hb hC.lt
            have hA2 := hA.below hb hA.lt
            have p22 := p2.below hb
            have v22 := v2.below hb
            by_cases hlt2 : k < 7
            · obtain ⟨⟨y0, y1, y2⟩, -⟩ := hC2.has3
              obtain ⟨⟨z0, z1, z2⟩, -⟩ := hA2.has3
              have q1 := hC2.lt
              have q2 := hA2.lt
              have p22d : RdB w10.drew (.slice F2 bs2.length k3) bs2 := p22
              have bcn : ((countK bs2 (k : Int) : Int) != (countK bs2 (k : Int) : Int)) = false := by simp
              go_wp2_with fail
              go_cut [118] (fun s wx => s = .bool false ∧ Below w10.heap.size w10 wx)
              case first =>
                go_region_held3 (fun w' => (w'.cell? ⟨w1.heap.size, 0, none⟩ = some (.slice F1 cs.length k1) ∧ w'.cell? ⟨w1.heap.size, 1, none⟩ = some (.slice F2 bs2.length k3) ∧ w'.cell? ⟨w1.heap.size, 2, none⟩ = some (.slice F3 0 k4)) ∧ (w'.cell? ⟨gA, 0, none⟩ = some (.slice a4 cs.length k5) ∧ w'.cell? ⟨gA, 1, none⟩ = some (.slice a5 (afterB bs2 f t).length k6) ∧ w'.cell? ⟨gA, 2, none⟩ = some (.slice a6 0 k7))) (go_keep)
                  (first
                    | (go_at_call 13; (with_reducible refine (count_calls _ (.slice F1 cs.length k1) (.slice F2 bs2.length k3) (.slice F3 0 k4) bs2 (k : Int) p22d hbl).mono ?_); rintro e wa ⟨rfl, ba0⟩; (have ba : Below w10.heap.size w10 wa := (by first | exact below_of_drew ba0 | exact ba0)); have sa := ba.size; (have qa := (hC2.below ba hC2.lt).has3.1); (have qb := (hA2.below ba hA2.lt).has3.1); (have la := (hC2.below ba hC2.lt).lt); (have lb := (hA2.below ba hA2.lt).lt); (have v22a : RdB wa (.slice a5 (afterB bs2 f t).length k6) (afterB bs2 f t) := v22.below ba))
                    | (go_at_call 13; (with_reducible refine (count_calls _ (.slice a4 cs.length k5) (.slice a5 (afterB bs2 f t).length k6) (.slice a6 0 k7) (afterB bs2 f t) (k : Int) v22a hbl2).mono ?_); rintro e wb ⟨rfl, bb0⟩; (rw [HCNT.out]); (have bb : Below w10.heap.size w10 wb := ba.trans (bb0.mono ba.size)); have sb := bb.size; (have qc := (hC2.below bb hC2.lt).has3.1); (have qd := (hA2.below bb hA2.lt).has3.1)))
                go_wp2_with fail
                go_meet
                exact ⟨rfl, bb⟩
              case rest =>
                obtain ⟨rfl, hbx⟩ := hcut
                go_wp2_with fail
                go_roundw
                case rel => exact ⟨k + 1, by omega, by go_num, hb.trans (hbx.mono hb.size)⟩
                case measure => simp [intOf]; omega
            · have hL2 := hL.below hb hL.lt
              have hM2 := hM.below hb
              have v12 := v1.below hb
              have v32 := v3.below hb
              have hB2 := hB.trans (hb.mono hB.size)
              obtain ⟨⟨y0, y1, y2⟩, y3, y4, y5⟩ := hC2.has3
              obtain ⟨⟨z0, z1, z2⟩, -⟩ := hA2.has3
              have q1 := hC2.lt
              have q2 := hA2.lt
              have ngl : w2.heap.size ≠ w1.heap.size := by omega
              go_wp2_with fail
              go_roundw
              case rel =>
                have hfin : ∀ wz, Pic wz w1.heap.size cs (afterB bs2 f t) [] → Cl wz w2.heap.size 32 (madeLay n) → RdM wz (.slice (some ⟨bm, om, none⟩) ms.length cm) ms → Below w.heap.size w wz → TnRel w w1.heap.size w2.heap.size (madeLay n) cs cls (madeN n) c (.slice (some ⟨bm, om, none⟩) ms.length cm) ms (.int .i64 ((j : Int) + 1)) wz :=
                  fun wz g1 g2 g3 g4 => ⟨j + 1, afterB bs2 f t, by omega, by go_num, g1, g2, g3, HNX.out, HSP2.out, HCAN2.out, hbl2, g4⟩
                have hgo := hfin _ ⟨a4, k5, a5, k6, a6, k7, hC2.set3 (.slice a4 cs.length k5) (.slice a5 (afterB bs2 f t).length k6) (.slice a6 0 k7), v12.far3 hC2 (by decide) _ _ _, v22.far3 hC2 (by decide) _ _ _, v32.far3 hC2 (by decide) _ _ _⟩ (by (repeat (first | with_reducible assumption | with_reducible refine Cl.drewN ?_ _ | with_reducible refine Cl.drew ?_ | with_reducible refine Cl.alloc ?_ _ | with_reducible refine Cl.far ?_ (by first | with_reducible assumption | omega | (simp; omega) | simp) _))) (Rd.far3 hM2 hC2 (by decide) _ _ _) (by (repeat (first | with_reducible exact Below.refl _ _ | with_reducible assumption | with_reducible refine below_drewN ?_ _ | with_reducible refine Below.drew ?_ | with_reducible refine Below.alloc ?_ (by first | omega | (simp; omega) | simp) _ | with_reducible refine Below.setCell ?_ (by first | omega | (simp; omega) | simp) _)))
                first
                  | exact hgo
                  | ((repeat apply Exists.intro); exact ⟨hgo, rfl⟩)
              case measure => simp [intOf]; omega
    · go_wp2_with fail
      refine (sanity_calls _).mono ?_
      rintro e w5 ⟨rfl, hb5⟩
      have hB2 := hB.trans (hb5.mono hB.size)
      go_wp2_with fail
      go_ret
      exact ⟨rfl, hB2⟩

theorem takeNext_calls (w : World) (n : Nat) (cv rv : Value) (cls : List Nat) (rs : List (Nat × Nat)) (more c : Int) (hn : n < 256) (hc : RdN w 1 cv cls.length (u8s cls)) (hr : RdN w 2 rv rs.length (rawCells rs))
    (hc8 : ∀ c ∈ cls, c < 256) (hr8 : ∀ r ∈ rs, r.1 < 256 ∧ r.2 < 65536) (hd : Hd w) :
    Calls Tryd.prog 3 #[.int .u8 (n : Int), cv, rv, .int .i64 more, .int .i64 c] w (SanePost w) := by
  by_cases h1 : 10 < cls.length
  · exact takeNext_out w n cv rv cls rs more c hn hc hr (.inl h1)
  · by_cases h2 : 40 < rs.length
    · exact takeNext_out w n cv rv cls rs more c hn hc hr (.inr (.inl h2))
    · by_cases h3 : more < 0
      · exact takeNext_out w n cv rv cls rs more c hn hc hr (.inr (.inr (.inl h3)))
      · by_cases h4 : 1048575 < more
        · exact takeNext_out w n cv rv cls rs more c hn hc hr (.inr (.inr (.inr h4)))
        · obtain ⟨m, rfl⟩ := Int.eq_ofNat_of_zero_le (show 0 ≤ more by omega)
          exact takeNext_yes w n cv rv cls rs m c hn hc hr hc8 hr8 (by omega) (by omega) (by omega) hd
end Go.Proofs.YtidiapfmjalaiaaDoor
