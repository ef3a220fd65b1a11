/-
  The law ClassCheckMatchesSpec returns true.
-/
import Derived.Test.YtcoeoggoaiebeaaDoorSan
import Derived.Test.YtcoeoggoaiebeaaDoorCkC
import Derived.Test.YtcoeoggoaiebeaaDoorCkR
namespace Go.Proofs.YtcoeoggoaiebeaaDoor
open Go.RowKit
set_option linter.unusedSimpArgs false
set_option linter.unusedVariables false

theorem planC (w : World) (L : Nat) (h1 : 64 ≤ L) (h2 : L ≤ 103) :
    Calls Tryd.prog 13 #[.int .i64 (L : Int)] w fun e w' => e = .returned (.tuple #[.agg #[.int .i64 (L : Int), .int .i64 2, .int .i64 8, .int .i64 10, .int .i64 4, .int .i64 14, .int .i64 16, .int .i64 ((L / 16 - 1 : Nat) : Int)], .int .i64 0]) ∧ Below w.heap.size w w' := by
  refine (plan_a w L h1 (by omega) (by omega)).mono ?_
  rintro e w' ⟨rfl, hb⟩
  have e1 : upTo16 (planStart L 8 4) = 16 := by unfold upTo16 planStart; omega
  have e2 : ((L : Int) - 16) / 16 = ((L / 16 - 1 : Nat) : Int) := by omega
  rw [e1, e2]
  exact ⟨rfl, hb⟩

def fewB (a b c : Nat) : Bool := decide (a ≤ 20 ∧ b ≤ 120 ∧ c ≤ 120)
set_option maxHeartbeats 1000000 in
theorem few_calls (w : World) (A1 A2 A3 : Option Addr) (n1 n2 n3 c1 c2 c3 : Nat) :
    Calls Tryd.prog 20 #[.agg #[.slice A1 n1 c1, .slice A2 n2 c2, .slice A3 n3 c3]] w fun e w' => e = .returned (.bool (fewB n1 n2 n3)) ∧ Below w.heap.size w w' := by
  by_cases h1 : n1 ≤ 20
  · by_cases h2 : n2 ≤ 120
    · by_cases h3 : n3 ≤ 120
      · have HF : Hid (fewB n1 n2 n3 = true) := by show fewB n1 n2 n3 = true; simp [fewB, *]
        have b3 : decide ((n3 : Int) ≤ 120) = true := by simp; omega
        go_enter Tryd.func20, Tryd.ntmps20
        go_wp2_with fail
        go_ret
        exact ⟨by rw [HF.out, ← b3]; rfl, by (repeat (first | with_reducible exact Below.refl _ _ | with_reducible assumption | with_reducible refine below_drewN ?_ _ | with_reducible refine Below.drew ?_ | with_reducible refine Below.alloc ?_ (by first | omega | (simp; omega) | simp) _ | with_reducible refine Below.setCell ?_ (by first | omega | (simp; omega) | simp) _))⟩
      · have HF : Hid (fewB n1 n2 n3 = false) := by show fewB n1 n2 n3 = false; simp [fewB, *]
        have b3 : decide ((n3 : Int) ≤ 120) = false := by simp; omega
        go_enter Tryd.func20, Tryd.ntmps20
        go_wp2_with fail
        go_ret
        exact ⟨by rw [HF.out, ← b3]; rfl, by (repeat (first | with_reducible exact Below.refl _ _ | with_reducible assumption | with_reducible refine below_drewN ?_ _ | with_reducible refine Below.drew ?_ | with_reducible refine Below.alloc ?_ (by first | omega | (simp; omega) | simp) _ | with_reducible refine Below.setCell ?_ (by first | omega | (simp; omega) | simp) _))⟩
    · have HF : Hid (fewB n1 n2 n3 = false) := by show fewB n1 n2 n3 = false; simp [fewB, *]
      go_enter Tryd.func20, Tryd.ntmps20
      go_wp2_with fail
      go_ret
      exact ⟨by rw [HF.out]; rfl, by (repeat (first | with_reducible exact Below.refl _ _ | with_reducible assumption | with_reducible refine below_drewN ?_ _ | with_reducible refine Below.drew ?_ | with_reducible refine Below.alloc ?_ (by first | omega | (simp; omega) | simp) _ | with_reducible refine Below.setCell ?_ (by first | omega | (simp; omega) | simp) _))⟩
  · have HF : Hid (fewB n1 n2 n3 = false) := by show fewB n1 n2 n3 = false; simp [fewB, *]
    go_enter Tryd.func20, Tryd.ntmps20
    go_wp2_with fail
    go_ret
    exact ⟨by rw [HF.out]; rfl, by (repeat (first | with_reducible exact Below.refl _ _ | with_reducible assumption | with_reducible refine below_drewN ?_ _ | with_reducible refine Below.drew ?_ | with_reducible refine Below.alloc ?_ (by first | omega | (simp; omega) | simp) _ | with_reducible refine Below.setCell ?_ (by first | omega | (simp; omega) | simp) _))⟩

/-- What Check answers. -/
def ckV (heap : Int) (m : Nat) (cs : List Int) (bs : List Bk) (ds : List Int) : Int := if cs.length = m then ckE (ckChunks heap 0 cs bs ds) else 3
theorem ckc_any (w : World) (l0 l1 l2 l3 l4 l5 heap : Int) (m : Nat) (ch bl bd : Value) (cs : List Int) (bs : List Bk) (ds : List Int) {t1 t2 t3 : TypeId} (hC : RI w t1 ch cs) (hR : RB w t2 bl bs) (hD : RI w t3 bd ds) (hd : Hd w)
    (hm : m ≤ 200) (hh0 : 0 ≤ heap) (hh1 : heap ≤ 5000) (hc : cs.length ≤ 1000) (hn : bs.length ≤ 1000) (hn3 : ds.length ≤ 1000) :
    Calls Tryd.prog 21 #[.agg #[.int .i64 l0, .int .i64 l1, .int .i64 l2, .int .i64 l3, .int .i64 l4, .int .i64 l5, .int .i64 heap, .int .i64 (m : Int)], .agg #[ch, bl, bd]] w fun e w' => e = .returned (.int .i64 (ckV heap m cs bs ds)) ∧ Below w.heap.size w w' := by
  by_cases h : cs.length = m
  · rw [ckV, if_pos h]
    exact ckc_calls w l0 l1 l2 l3 l4 l5 heap m ch bl bd cs bs ds hC hR hD hd hm hh0 hh1 hn hn3 h
  · rw [ckV, if_neg h]
    exact ckc_other w l0 l1 l2 l3 l4 l5 heap m ch bl bd cs hC h hc hm
theorem ckr_any (w : World) (l0 l1 l2 l3 l4 l5 heap : Int) (m : Nat) (ch bl bd : Value) (cs : List Int) (bs : List Bk) (ds : List Int) {t1 t2 t3 : TypeId} (hC : RI w t1 ch cs) (hR : RB w t2 bl bs) (hD : RI w t3 bd ds)
    (hm : m ≤ 200) (hh0 : 0 ≤ heap) (hh1 : heap ≤ 5000) (hc : cs.length ≤ 1000) (hn : bs.length ≤ 1000) (hn3 : ds.length ≤ 1000) :
    Calls Tryd.prog 22 #[.agg #[.int .i64 l0, .int .i64 l1, .int .i64 l2, .int .i64 l3, .int .i64 l4, .int .i64 l5, .int .i64 heap, .int .i64 (m : Int)], .agg #[ch, bl, bd]] w fun e w' => e = .returned (.int .i64 (ckV heap m cs bs ds)) ∧ Below w.heap.size w w' := by
  by_cases h : cs.length = m
  · rw [ckV, if_pos h]
    exact ckr_calls w l0 l1 l2 l3 l4 l5 heap m ch bl bd cs bs ds hC hR hD hm hh0 hh1 hn hn3 h
  · rw [ckV, if_neg h]
    exact ckr_other w l0 l1 l2 l3 l4 l5 heap m ch bl bd cs hC h hc hm

theorem free_same {bs M1 M2 : List Bk} {c : Int} (p1 : Hid (M1.Perm (bs.filter (frB c)))) (s1 : Hid (M1.Pairwise (fun x y => ltB y x = false))) (p2 : Hid (M2.Perm (bs.filter (frB c)))) (s2 : Hid (M2.Pairwise (fun x y => ltB y x = false))) : decide (M1 = M2) = true :=
  decide_eq_true (free_unique p1.out s1.out p2.out s2.out)
theorem free_len {bs M : List Bk} {c : Int} (p : Hid (M.Perm (bs.filter (frB c)))) (h : Hid (bs.length ≤ 120)) : M.length ≤ 100000 := by
  have h1 := p.out.length_eq
  have h2 := List.length_filter_le (frB c) bs
  have h3 := h.out
  omega

set_option maxRecDepth 100000 in
set_option maxHeartbeats 1000000 in
theorem check_law (w : World) (n : Nat) (c : Int) (ch bl bd : Value) (cs : List Int) (bs : List Bk) (ds : List Int) {t1 t2 t3 : TypeId} (hn : n < 256) (hC : RI w t1 ch cs) (hR : RB w t2 bl bs) (hD : RI w t3 bd ds) (hd : Hd w) (hp : Pt w) :
    Calls Tryd.prog 7 #[.int .u8 (n : Int), .agg #[ch, bl, bd], .int .i64 c] w fun e w' => e = .returned (.bool true) ∧ Below w.heap.size w w' := by
  obtain ⟨L, hL⟩ : ∃ L : Nat, 64 + n % 40 = L := ⟨_, rfl⟩
  have hLe : 64 + (n : Int) % 40 = (L : Int) := by omega
  have hL1 : 64 ≤ L := by omega
  have hL2 : L ≤ 103 := by omega
  clear hL
  obtain ⟨A1, c1, rfl⟩ := Rd.form hC
  obtain ⟨A2, c2, rfl⟩ := Rd.form hR
  obtain ⟨A3, c3, rfl⟩ := Rd.form hD
  have hlw := hd.lt
  go_enter Tryd.func7, Tryd.ntmps7
  go_wp2_with fail
  refine (sanity_calls _ (hd.below (by (repeat (first | with_reducible exact Below.refl _ _ | with_reducible assumption | with_reducible refine below_drewN ?_ _ | with_reducible refine Below.drew ?_ | with_reducible refine Below.alloc ?_ (by first | omega | (simp; omega) | simp) _ | with_reducible refine Below.setCell ?_ (by first | omega | (simp; omega) | simp) _)))) (hp.below (by (repeat (first | with_reducible exact Below.refl _ _ | with_reducible assumption | with_reducible refine below_drewN ?_ _ | with_reducible refine Below.drew ?_ | with_reducible refine Below.alloc ?_ (by first | omega | (simp; omega) | simp) _ | with_reducible refine Below.setCell ?_ (by first | omega | (simp; omega) | simp) _))))).mono ?_
  rintro e w1 ⟨rfl, hb1⟩
  have hP := (Cl.new w 45 #[.slice A1 cs.length c1, .slice A2 bs.length c2, .slice A3 ds.length c3]).below hb1 (by simp)
  have hB : Below w.heap.size w w1 := Below.trans (by (repeat (first | with_reducible exact Below.refl _ _ | with_reducible assumption | with_reducible refine below_drewN ?_ _ | with_reducible refine Below.drew ?_ | with_reducible refine Below.alloc ?_ (by first | omega | (simp; omega) | simp) _ | with_reducible refine Below.setCell ?_ (by first | omega | (simp; omega) | simp) _))) (hb1.mono (by simp))
  clear hb1
  obtain ⟨⟨q0, q1, q2⟩, -⟩ := hP.has3
  have hlP := hP.lt
  go_wp2_with fail
  refine (few_calls _ A1 A2 A3 cs.length bs.length ds.length c1 c2 c3).mono ?_
  rintro e w2 ⟨rfl, hb⟩
  replace hP := hP.below hb hP.lt
  replace hB := hB.trans (hb.mono hB.size)
  clear hb q0 q1 q2 hlP
  cases hf : fewB cs.length bs.length ds.length
  · clear hf hLe
    go_wp2_with fail
    go_ret
    exact ⟨rfl, hB⟩
  · obtain ⟨f1, f2, f3⟩ : cs.length ≤ 20 ∧ bs.length ≤ 120 ∧ ds.length ≤ 120 := by simpa [fewB] using hf
    clear hf
    go_upto_region 4 with (fail)
    go_wp2_with fail
    refine (planC _ L hL1 hL2).mono ?_
    rintro e w3 ⟨rfl, hb⟩
    replace hP := hP.below hb hP.lt
    replace hB := hB.trans (hb.mono hB.size)
    clear hb hLe
    obtain ⟨chunks, hK⟩ : ∃ chunks, L / 16 - 1 = chunks := ⟨_, rfl⟩
    rw [hK]
    have hK5 : chunks ≤ 5 := by omega
    clear hK
    go_upto_region 5 with (fail)
    generalize hwn : w3.alloc (.cells #[.int .i64 (L : Int), .int .i64 2, .int .i64 8, .int .i64 10, .int .i64 4, .int .i64 14, .int .i64 16, .int .i64 (chunks : Int)] 31) = w4
    have hY : Cl w4 w3.heap.size 31 #[.int .i64 (L : Int), .int .i64 2, .int .i64 8, .int .i64 10, .int .i64 4, .int .i64 14, .int .i64 16, .int .i64 (chunks : Int)] := by rw [← hwn]; exact Cl.new _ _ _
    replace hP : Cl w4 w.heap.size 45 #[.slice A1 cs.length c1, .slice A2 bs.length c2, .slice A3 ds.length c3] := by rw [← hwn]; exact hP.alloc _
    replace hB : Below w.heap.size w w4 := hB.trans (Below.mono (by rw [← hwn]; (repeat (first | with_reducible exact Below.refl _ _ | with_reducible assumption | with_reducible refine below_drewN ?_ _ | with_reducible refine Below.drew ?_ | with_reducible refine Below.alloc ?_ (by first | omega | (simp; omega) | simp) _ | with_reducible refine Below.setCell ?_ (by first | omega | (simp; omega) | simp) _))) hB.size)
    clear hwn
    generalize w3.heap.size = gL at *
    obtain ⟨V, hV⟩ : ∃ V, ckV 16 chunks cs bs ds = V := ⟨_, rfl⟩
    have HV := Lib.hid hV
    have HC := Lib.hid (RI.below hC hB)
    have HR := Lib.hid (RB.below hR hB)
    have HD := Lib.hid (RI.below hD hB)
    have HH := Lib.hid (hd.below hB)
    have HF : Hid (bs.length ≤ 120) := f2
    have HK : Hid (chunks ≤ 200) := by show chunks ≤ 200; omega
    have H1 : Hid (cs.length ≤ 1000) := by show cs.length ≤ 1000; omega
    have H2 : Hid (bs.length ≤ 1000) := by show bs.length ≤ 1000; omega
    have H3 : Hid (ds.length ≤ 1000) := by show ds.length ≤ 1000; omega
    have H5 : Hid (bs.length ≤ 150) := by show bs.length ≤ 150; omega
    have hge : (0 : Int) ≤ 16 := by omega
    have hle : (16 : Int) ≤ 5000 := by omega
    clear hV hC hR hD hd hp hn hL1 hL2 hlw
    have hlP := hP.lt
    have hlY := hY.lt
    obtain ⟨⟨q0, q1, q2⟩, -⟩ := hP.has3
    obtain ⟨y0, y1, y2, y3, y4, y5, y6, y7⟩ := hY.cells8
    go_region_held3 (fun w' => (w'.cell? ⟨gL, 0, none⟩ = some (.int .i64 (L : Int)) ∧ w'.cell? ⟨gL, 1, none⟩ = some (.int .i64 2) ∧ w'.cell? ⟨gL, 2, none⟩ = some (.int .i64 8) ∧ w'.cell? ⟨gL, 3, none⟩ = some (.int .i64 10) ∧ w'.cell? ⟨gL, 4, none⟩ = some (.int .i64 4) ∧ w'.cell? ⟨gL, 5, none⟩ = some (.int .i64 14) ∧ w'.cell? ⟨gL, 6, none⟩ = some (.int .i64 16) ∧ w'.cell? ⟨gL, 7, none⟩ = some (.int .i64 (chunks : Int))) ∧ (w'.cell? ⟨w.heap.size, 0, none⟩ = some (.slice A1 cs.length c1) ∧ w'.cell? ⟨w.heap.size, 1, none⟩ = some (.slice A2 bs.length c2) ∧ w'.cell? ⟨w.heap.size, 2, none⟩ = some (.slice A3 ds.length c3))) (go_keep)
      (first
        | (go_at_call 21; refine (ckc_any _ (L : Int) 2 8 10 4 14 16 chunks (.slice A1 cs.length c1) (.slice A2 bs.length c2) (.slice A3 ds.length c3) cs bs ds (RI.below HC.out (by (repeat (first | with_reducible exact Below.refl _ _ | with_reducible assumption | with_reducible refine below_drewN ?_ _ | with_reducible refine Below.drew ?_ | with_reducible refine Below.alloc ?_ (by first | omega | (simp; omega) | simp) _ | with_reducible refine Below.setCell ?_ (by first | omega | (simp; omega) | simp) _)))) (RB.below HR.out (by (repeat (first | with_reducible exact Below.refl _ _ | with_reducible assumption | with_reducible refine below_drewN ?_ _ | with_reducible refine Below.drew ?_ | with_reducible refine Below.alloc ?_ (by first | omega | (simp; omega) | simp) _ | with_reducible refine Below.setCell ?_ (by first | omega | (simp; omega) | simp) _)))) (RI.below HD.out (by (repeat (first | with_reducible exact Below.refl _ _ | with_reducible assumption | with_reducible refine below_drewN ?_ _ | with_reducible refine Below.drew ?_ | with_reducible refine Below.alloc ?_ (by first | omega | (simp; omega) | simp) _ | with_reducible refine Below.setCell ?_ (by first | omega | (simp; omega) | simp) _)))) (HH.out.below (by (repeat (first | with_reducible exact Below.refl _ _ | with_reducible assumption | with_reducible refine below_drewN ?_ _ | with_reducible refine Below.drew ?_ | with_reducible refine Below.alloc ?_ (by first | omega | (simp; omega) | simp) _ | with_reducible refine Below.setCell ?_ (by first | omega | (simp; omega) | simp) _)))) HK.out hge hle H1.out H2.out H3.out).mono ?_; rintro e wa ⟨rfl, ba0⟩; rw [HV.out]; (have ba : Below w4.heap.size w4 wa := (by first | exact below_of_drew ba0 | exact Below.trans (by (repeat (first | with_reducible exact Below.refl _ _ | with_reducible assumption | with_reducible refine below_drewN ?_ _ | with_reducible refine Below.drew ?_ | with_reducible refine Below.alloc ?_ (by first | omega | (simp; omega) | simp) _ | with_reducible refine Below.setCell ?_ (by first | omega | (simp; omega) | simp) _))) ba0)); (have sa := ba.size); (have qa := (Cl.has3 (Cl.below hP ba hP.lt)).1); (have la := Cl.lt (Cl.below hP ba hP.lt)); (have ra := Cl.cells8 (Cl.below hY ba hY.lt)); (have lb := Cl.lt (Cl.below hY ba hY.lt)); unfold Cells8 at ra)
        | (go_at_call 22; refine (ckr_any _ (L : Int) 2 8 10 4 14 16 chunks (.slice A1 cs.length c1) (.slice A2 bs.length c2) (.slice A3 ds.length c3) cs bs ds (RI.below HC.out ba) (RB.below HR.out ba) (RI.below HD.out ba) HK.out hge hle H1.out H2.out H3.out).mono ?_; rintro e wb ⟨rfl, bb0⟩; rw [HV.out]; (have bb : Below w4.heap.size w4 wb := ba.trans (bb0.mono ba.size)); (have sb := bb.size); (have qb := (Cl.has3 (Cl.below hP bb hP.lt)).1); (have lc := Cl.lt (Cl.below hP bb hP.lt)); (have rb := Cl.cells8 (Cl.below hY bb hY.lt)); (have ld := Cl.lt (Cl.below hY bb hY.lt)); unfold Cells8 at rb)
        | (go_at_call 24; refine (free_calls _ (.slice A1 cs.length c1) (.slice A2 bs.length c2) (.slice A3 ds.length c3) bs c (RB.below HR.out bb) H5.out).mono ?_; rintro e wd ⟨Af, cf, M1, rfl, hf1, p1, s1, bd0⟩; (have P1 := Lib.hid p1); (have S1 := Lib.hid s1); clear p1 s1; (have bd : Below w4.heap.size w4 wd := bb.trans (bd0.mono bb.size)); (have sd := bd.size); (have qd := (Cl.has3 (Cl.below hP bd hP.lt)).1); (have le := Cl.lt (Cl.below hP bd hP.lt)); (have rd := Cl.cells8 (Cl.below hY bd hY.lt)); (have lf := Cl.lt (Cl.below hY bd hY.lt)); unfold Cells8 at rd)
        | (go_at_call 25; refine (rfree_calls _ (.slice A1 cs.length c1) (.slice A2 bs.length c2) (.slice A3 ds.length c3) bs c (RB.below HR.out bd) H5.out).mono ?_; rintro e we ⟨Ag, cg, M2, rfl, hf2, p2, s2, be0⟩; (have P2 := Lib.hid p2); (have S2 := Lib.hid s2); clear p2 s2; (have be : Below w4.heap.size w4 we := bd.trans (be0.mono bd.size)); (have se := be.size); (have qe := (Cl.has3 (Cl.below hP be hP.lt)).1); (have lg := Cl.lt (Cl.below hP be hP.lt)); (have re := Cl.cells8 (Cl.below hY be hY.lt)); (have lh := Cl.lt (Cl.below hY be hY.lt)); unfold Cells8 at re)
        | (go_at_call 23; refine (sameBlocks_calls _ _ _ M1 M2 (Rd.below hf1 be0) hf2 (free_len P1 HF) (free_len P2 HF)).mono ?_; rintro e wg ⟨rfl, bg0⟩; rw [free_same P1 S1 P2 S2]; (have bg : Below w4.heap.size w4 wg := be.trans (bg0.mono be.size)); (have sg := bg.size); (have qg := (Cl.has3 (Cl.below hP bg hP.lt)).1); (have lm := Cl.lt (Cl.below hP bg hP.lt)); (have rg := Cl.cells8 (Cl.below hY bg hY.lt)); (have ln := Cl.lt (Cl.below hY bg hY.lt)); unfold Cells8 at rg))
    go_wp2_with fail
    go_ret
    exact ⟨rfl, hB.trans (bg.mono hB.size)⟩
end Go.Proofs.YtcoeoggoaiebeaaDoor
