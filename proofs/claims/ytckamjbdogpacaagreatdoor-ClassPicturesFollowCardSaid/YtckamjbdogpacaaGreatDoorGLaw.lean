/-
  What Follow answers over the memory that was played; played of too long a script.
  ClassPicturesFollow returns true.
-/
import Derived.Test.YtckamjbdogpacaaGreatDoorGPl
import Derived.Test.YtckamjbdogpacaaGreatDoorGFol
import Derived.Test.YtckamjbdogpacaaGreatDoorGScn
import Derived.Test.YtckamjbdogpacaaGreatDoorSan
namespace Go.Proofs.YtckamjbdogpacaaGreatDoor
open Go.RowKit
set_option linter.unusedSimpArgs false
set_option linter.unusedVariables false

theorem followR (w : World) (gm gv L C : Nat) (lL : Int) (R : Int → Int × Int) (hC : C ≤ 5) (hLC : 16 + 16 * C ≤ L) (hR : AllR w gm L R) (hV : Cl w gv 100 #[.pointer (some ⟨gm, 0, none⟩), .slice none 0 0]) (hd : Hd w) (hp : Pt w)
    (ln c gn : Int) (hat : AtR R C ln c) (g0 : 1 ≤ gn) (g1 : gn ≤ 1048575) :
    Calls Tryz.prog 7 #[.pointer (some ⟨gv, 0, none⟩), .agg #[.int .i64 lL, .int .i64 2, .int .i64 8, .int .i64 10, .int .i64 4, .int .i64 14, .int .i64 16, .int .i64 (C : Int)], .int .i64 (ptrZ ln gn)] w
      fun e w' => e = .returned (.tuple #[.agg #[.int .i64 (Bk.line (folZ (blkR R ln c) gn).1), .int .i64 (Bk.cls (folZ (blkR R ln c) gn).1), .int .i64 (Bk.kind (folZ (blkR R ln c) gn).1), .int .i64 (Bk.gen (folZ (blkR R ln c) gn).1)], .int .i64 (folZ (blkR R ln c) gn).2]) ∧ Below w.heap.size w w' := by
  obtain ⟨h1, h2, h3, h4, h5, h6⟩ := hat
  refine follow_calls w gv lL (C : Int) ln gn _ (blkR R ln c) rfl (by omega) (by omega) g0 g1 hp (fun w' hb => ?_)
  have hR' := hR.below hb
  obtain ⟨a1, -⟩ := hR' (112 + (ln - 16) / 16) (by omega) (by omega)
  rw [h6] at a1
  obtain ⟨b1, b2⟩ := hR' (8 * ln) (by omega) (by omega)
  have hV' := hV.below hb hV.lt
  exact blockV_calls w' gv lL (C : Int) ln ((ln - 16) / 16) c _ _ _ (by omega) (by omega) h1 h2 rfl h3 h4 rfl h5 (LdV.of hV' a1) (LdV.of hV' b1) (hd.below hb) (by rcases b2 with h | h <;> omega) (by rcases b2 with h | h <;> omega)

/-- The block is stale for this pointer. -/
theorem folZ_stale {R : Int → Int × Int} {C : Nat} {bl bc bk bg gn : Int} (h : GoodB R C (bl, bc, bk, bg)) (hs : bk = 0 ∨ bg ≠ gn) : folZ (blkR R bl bc) gn = ((0, 0, 0, 0), 70) := by
  have := h.2
  simp only [Bk.line, Bk.cls] at this
  rw [this]
  unfold folZ
  rw [if_pos rfl, if_pos (show Bk.kind (bl, bc, bk, bg) = 0 ∨ Bk.gen (bl, bc, bk, bg) ≠ gn from hs)]
theorem folZ_same {R : Int → Int × Int} {C : Nat} {bl bc bk bg gn : Int} (h : GoodB R C (bl, bc, bk, bg)) (h0 : bk ≠ 0) (h1 : bg = gn) : folZ (blkR R bl bc) gn = ((bl, bc, bk, bg), 0) := by
  have := h.2
  simp only [Bk.line, Bk.cls] at this
  rw [this]
  unfold folZ
  rw [if_pos rfl, if_neg (show ¬ (Bk.kind (bl, bc, bk, bg) = 0 ∨ Bk.gen (bl, bc, bk, bg) ≠ gn) from by rintro (h | h); exact h0 h; exact h h1)]
theorem folZ_bad {R : Int → Int × Int} {ln c gn : Int} (hok : OkR (R (8 * ln))) (h : (blkR R ln c).2 ≠ 0) : (folZ (blkR R ln c) gn).1 = (0, 0, 0, 0) ∧ ((folZ (blkR R ln c) gn).2 = 3 ∨ (folZ (blkR R ln c) gn).2 = 9) := by
  unfold folZ
  rw [if_neg h]
  exact ⟨rfl, BadL.err hok h⟩

def PlayedOver (w : World) (e : Ending) (w' : World) : Prop := e = .returned (.tuple #[.agg #[.int .i64 0, .int .i64 0, .int .i64 0, .int .i64 0, .int .i64 0, .int .i64 0, .int .i64 0, .int .i64 0, .pointer none, .pointer none, .pointer none], .bool false]) ∧ Below w.heap.size w w'
set_option maxRecDepth 100000 in
set_option maxHeartbeats 2000000 in
theorem played_over (w : World) (n : Nat) (A : Option Addr) (m cc : Nat) (hm : 80 < m) :
    Calls Tryz.prog 5 #[.agg #[.int .u8 (n : Int), .slice A m cc, .slice none 0 0]] w (PlayedOver w) := by
  have m80 : (80 : Int) < (m : Int) := by omega
  go_enter Tryz.func5, Tryz.ntmps5
  go_wp2_with fail
  refine bodyPost_ret (v := .tuple #[.agg #[.int .i64 0, .int .i64 0, .int .i64 0, .int .i64 0, .int .i64 0, .int .i64 0, .int .i64 0, .int .i64 0, .pointer none, .pointer none, .pointer none], .bool false]) ?_ rfl ⟨rfl, by (repeat (first | with_reducible exact Below.refl _ _ | with_reducible assumption | with_reducible refine below_drewN ?_ _ | with_reducible refine Below.drew ?_ | with_reducible refine Below.alloc ?_ (by first | omega | (simp; omega) | simp) _ | with_reducible refine Below.setCell ?_ (by first | omega | (simp; omega) | simp) _))⟩
  simp [results, Tryz.results5, go_sem, *]
end Go.Proofs.YtckamjbdogpacaaGreatDoor

namespace Go.Proofs.YtckamjbdogpacaaGreatDoor
open Go.RowKit
set_option linter.unusedSimpArgs false
set_option linter.unusedVariables false

def LwRel (W0 : World) (n : Nat) (v : Value) (wr : World) : Prop := ∃ i : Nat, i ≤ n ∧ v = .int .i64 (i : Int) ∧ Below W0.heap.size W0 wr
def LawPost (w : World) (e : Ending) (w' : World) : Prop := e = .returned (.bool true) ∧ Below w.heap.size w w'

set_option maxRecDepth 100000 in
set_option maxHeartbeats 2000000 in
theorem law_over (w : World) (n g m cc : Nat) (A Ae : Option Addr) (ne ce : Nat) (hm : 80 < m) (hd : Hd w) (hp : Pt w) :
    Calls Tryz.prog 3 #[.agg #[.int .u8 (n : Int), .slice A m cc, .slice Ae ne ce], .int .u32 (g : Int)] w (LawPost w) := by
  have hX0 := Cl.new w 25 #[.int .u8 (n : Int), .slice A m cc, .slice Ae ne ce]
  have hA0 : Below w.heap.size w (w.alloc (.cells #[.int .u8 (n : Int), .slice A m cc, .slice Ae ne ce] 25)) := by (repeat (first | with_reducible exact Below.refl _ _ | with_reducible assumption | with_reducible refine below_drewN ?_ _ | with_reducible refine Below.drew ?_ | with_reducible refine Below.alloc ?_ (by first | omega | (simp; omega) | simp) _ | with_reducible refine Below.setCell ?_ (by first | omega | (simp; omega) | simp) _))
  go_enter Tryz.func3, Tryz.ntmps3
  go_wp2_with fail
  refine (sanity_calls _ (hd.below hA0) (hp.below hA0)).mono ?_
  rintro e w1 ⟨rfl, hb⟩
  have hX1 := hX0.below hb hX0.lt
  have hB1 := hA0.trans (hb.mono hA0.size)
  clear hb hX0 hA0 hd hp
  obtain ⟨⟨x0, x1, x2⟩, ⟨x3, x4, x5⟩⟩ := hX1.has3
  have lx := hX1.lt
  go_wp2_with fail
  refine (played_over _ n A m cc hm).mono ?_
  rintro e w3 ⟨rfl, hb⟩
  have hB3 : Below w.heap.size w w3 := by
    refine Below.trans (Below.setCell hB1 (Nat.le_refl _) _) (hb.mono ?_)
    simp
    exact hB1.size
  clear hX1 hB1 x0 x1 x2 x3 x4 x5 lx hb
  have hs3 := hB3.size
  go_wp2_with fail
  go_ret
  exact ⟨rfl, by (repeat (first | with_reducible exact Below.refl _ _ | with_reducible assumption | with_reducible refine below_drewN ?_ _ | with_reducible refine Below.drew ?_ | with_reducible refine Below.alloc ?_ (by first | omega | (simp; omega) | simp) _ | with_reducible refine Below.setCell ?_ (by first | omega | (simp; omega) | simp) _))⟩

set_option maxRecDepth 100000 in
set_option maxHeartbeats 16000000 in
theorem law_in (w : World) (n g : Nat) (bl : Value) {te : TypeId} (os : List OpD) (T : Nat → Int) (Ae : Option Addr) (ne ce : Nat) (hn : n < 256) (hg : g < 4294967296) (hR : RdO w te bl os) (hos : os.length ≤ 80) (ha64 : ∀ x ∈ os, x.2.1 ≤ 9223372036854775807) (hcu : ∀ x ∈ os, ∃ A n c, x.2.2.2.2 = .slice A n c)
    (hT : Tb w T) (hdb : Db w) (hd : Hd w) (hp : Pt w) :
    Calls Tryz.prog 3 #[.agg #[.int .u8 (n : Int), bl, .slice Ae ne ce], .int .u32 (g : Int)] w (LawPost w) := by
  obtain ⟨A, cc, rfl⟩ := Rd.form hR
  have hX0 := Cl.new w 25 #[.int .u8 (n : Int), .slice A os.length cc, .slice Ae ne ce]
  have hA0 : Below w.heap.size w (w.alloc (.cells #[.int .u8 (n : Int), .slice A os.length cc, .slice Ae ne ce] 25)) := by (repeat (first | with_reducible exact Below.refl _ _ | with_reducible assumption | with_reducible refine below_drewN ?_ _ | with_reducible refine Below.drew ?_ | with_reducible refine Below.alloc ?_ (by first | omega | (simp; omega) | simp) _ | with_reducible refine Below.setCell ?_ (by first | omega | (simp; omega) | simp) _))
  obtain ⟨gn, hgn⟩ : ∃ gn : Int, 1 + (g : Int) % 1048575 = gn := ⟨_, rfl⟩
  have gn0 : 1 ≤ gn := by omega
  have gn1 : gn ≤ 1048575 := by omega
  have HT := Lib.hid hT
  have HDB := Lib.hid hdb
  have HD := Lib.hid hd
  have HP := Lib.hid hp
  have HR := Lib.hid hR
  have HO := Lib.hid (And.intro ha64 hcu)
  clear ha64 hcu hR hT hdb
  go_enter Tryz.func3, Tryz.ntmps3
  go_wp2_with fail
  refine (sanity_calls _ (hd.below hA0) (hp.below hA0)).mono ?_
  rintro e w1 ⟨rfl, hb⟩
  have hX1 := hX0.below hb hX0.lt
  have hB1 := hA0.trans (hb.mono hA0.size)
  clear hb hX0 hA0 hd hp
  obtain ⟨⟨x0, x1, x2⟩, ⟨x3, x4, x5⟩⟩ := hX1.has3
  have lx := hX1.lt
  have hB2 : Below w.heap.size w (w1.setCell ⟨w.heap.size, 2, none⟩ (.slice none 0 0)) := Below.setCell hB1 (Nat.le_refl _) _
  have HB2 := Lib.hid hB2
  clear hB2
  go_wp2_with fail
  obtain ⟨w2, hw2⟩ : ∃ x, x = w1.setCell ⟨w.heap.size, 2, none⟩ (.slice none 0 0) := ⟨_, rfl⟩
  rw [← hw2] at HB2 ⊢
  clear hw2 hX1 x0 x1 x2 x3 x4 x5 lx hB1
  refine (played_calls _ n _ os T hn (show RdO w2 te (.slice A os.length cc) os from Rd.below HR.out (HB2.out.mono (Nat.le_refl _))) hos HO.out.1 HO.out.2 (HT.out.below HB2.out) (HDB.out.below HB2.out)).mono ?_
  rintro e w3 ⟨gm, gv, gs, B, F, rfl, hM, hV, hb3⟩
  obtain ⟨L, hL⟩ : ∃ L : Nat, 64 + n % 40 = L := ⟨_, rfl⟩
  obtain ⟨C, hC⟩ : ∃ C : Nat, (48 + n % 40) / 16 = C := ⟨_, rfl⟩
  have hC5 : C ≤ 5 := by omega
  have hLC : 16 + 16 * C ≤ L := by omega
  rw [hL] at hM
  simp only [hL, hC]
  clear hL hC
  have hB3 := HB2.out.trans (hb3.mono HB2.out.size)
  obtain ⟨R, hAR⟩ := AllR.of hM (by omega) (HT.out.below hB3) (HDB.out.below hB3)
  have HAR := Lib.hid hAR
  have HV := Lib.hid hV
  have HB3 := Lib.hid hB3
  have HD3 := Lib.hid (HD.out.below hB3)
  have HP3 := Lib.hid (HP.out.below hB3)
  clear hM hV hb3 hB3 hAR
  go_upto_region 4 with (fail)
  obtain ⟨w4, hw4⟩ : ∃ x, x = w3.alloc (.cells #[.int .i64 (L : Int), .int .i64 2, .int .i64 8, .int .i64 10, .int .i64 4, .int .i64 14, .int .i64 16, .int .i64 (C : Int), .pointer (some ⟨gm, 0, none⟩), .pointer (some ⟨gv, 0, none⟩), .pointer (some ⟨gs, 0, none⟩)] 34) := ⟨_, rfl⟩
  have hb34 : Below w3.heap.size w3 w4 := by rw [hw4]; (repeat (first | with_reducible exact Below.refl _ _ | with_reducible assumption | with_reducible refine below_drewN ?_ _ | with_reducible refine Below.drew ?_ | with_reducible refine Below.alloc ?_ (by first | omega | (simp; omega) | simp) _ | with_reducible refine Below.setCell ?_ (by first | omega | (simp; omega) | simp) _))
  have hH4 : Cl w4 w3.heap.size 34 #[.int .i64 (L : Int), .int .i64 2, .int .i64 8, .int .i64 10, .int .i64 4, .int .i64 14, .int .i64 16, .int .i64 (C : Int), .pointer (some ⟨gm, 0, none⟩), .pointer (some ⟨gv, 0, none⟩), .pointer (some ⟨gs, 0, none⟩)] := by rw [hw4]; exact Cl.new _ _ _
  rw [← hw4]
  clear hw4
  have h0 := hH4.cell 0
  have h1 := hH4.cell 1
  have h2 := hH4.cell 2
  have h3 := hH4.cell 3
  have h4 := hH4.cell 4
  have h5 := hH4.cell 5
  have h6 := hH4.cell 6
  have h7 := hH4.cell 7
  have h8 := hH4.cell 8
  have h9 := hH4.cell 9
  have h10 := hH4.cell 10
  simp only [List.getElem?_toArray, List.getElem?_cons_succ, List.getElem?_cons_zero] at h0 h1 h2 h3 h4 h5 h6 h7 h8 h9 h10
  have lh := hH4.lt
  go_wp2_with fail
  refine (scanG_calls _ gm L C (L : Int) R hC5 hLC (HAR.out.below hb34) (HD3.out.below hb34)).mono ?_
  rintro e w5 ⟨cs, bs, bd, ⟨ch, bl', bd', rfl, hr1, hr2, hr3, hb5⟩, hbl, hdl, hgb, hgl⟩
  obtain ⟨A1, c1, rfl⟩ := Rd.form hr1
  obtain ⟨A2, c2, rfl⟩ := Rd.form hr2
  obtain ⟨A3, c3, rfl⟩ := Rd.form hr3
  have hH5 := hH4.below hb5 hH4.lt
  have hb35 := hb34.trans (hb5.mono hb34.size)
  have HGB := Lib.hid hgb
  have HGL := Lib.hid hgl
  clear hH4 hb34 hb5 hr1 hgb hgl h0 h1 h2 h3 h4 h5 h6 h7 h8 h9 h10 lh
  go_upto_region 8 with (fail)
  obtain ⟨w6, hw6⟩ : ∃ x, x = w5.alloc (.cells #[.slice A1 cs.length c1, .slice A2 bs.length c2, .slice A3 bd.length c3] 40) := ⟨_, rfl⟩
  have hb56 : Below w5.heap.size w5 w6 := by rw [hw6]; (repeat (first | with_reducible exact Below.refl _ _ | with_reducible assumption | with_reducible refine below_drewN ?_ _ | with_reducible refine Below.drew ?_ | with_reducible refine Below.alloc ?_ (by first | omega | (simp; omega) | simp) _ | with_reducible refine Below.setCell ?_ (by first | omega | (simp; omega) | simp) _))
  have hP6 : Cl w6 w5.heap.size 40 #[.slice A1 cs.length c1, .slice A2 bs.length c2, .slice A3 bd.length c3] := by rw [hw6]; exact Cl.new _ _ _
  rw [← hw6]
  clear hw6
  have hb36 := hb35.trans (hb56.mono hb35.size)
  have HH6 := Lib.hid (hH5.below hb56 hH5.lt)
  have HP6 := Lib.hid hP6
  have HR2 := Lib.hid (show RdB w6 (.slice A2 bs.length c2) bs from Rd.below hr2 hb56)
  have HR3 := Lib.hid (show RdI w6 (.slice A3 bd.length c3) bd from Rd.below hr3 hb56)
  have HB6 := Lib.hid (HB3.out.trans (hb36.mono HB3.out.size))
  have HFOL := Lib.hid (fun w' (hb : Below w6.heap.size w6 w') ln c gn hat g0 g1 => followR w' gm gv L C (L : Int) R hC5 hLC (HAR.out.below (hb36.trans (hb.mono hb36.size))) ((HV.out.below hb36 HV.out.lt).below hb (Nat.lt_of_lt_of_le HV.out.lt hb36.size)) (HD3.out.below (hb36.trans (hb.mono hb36.size))) (HP3.out.below (hb36.trans (hb.mono hb36.size))) ln c gn hat g0 g1)
  have HOK := Lib.hid (fun a h0 h1 => (HAR.out a h0 h1).2)
  have h36s := hb36.size
  have h56s := hb56.size
  have h35s := hb35.size
  have hp6 := hP6.lt
  have hh6 := HH6.out.lt
  clear hH5 hb35 hb56 hP6 hr2 hr3 hb36 HAR HV HD3 HP3 HB3 HT HDB HD HP HR HO HB2
  have HGN := Lib.hid hgn
  clear hgn
  go_wp2_with fail
  go_loopw [10, 11, 12, 13, 14, 15] (fun v _ _ _ _ _ wr => LwRel w6 bs.length v wr) (fun v _ _ _ _ _ _ => bs.length - (intOf v).toNat)
  case atStart => exact ⟨0, Nat.zero_le _, rfl, Below.refl _ _⟩
  case round =>
    obtain ⟨i, hi, rfl, hW⟩ := hrel
    have hHr := HH6.out.below hW HH6.out.lt
    have hPr := HP6.out.below hW HP6.out.lt
    have hws := hW.size
    by_cases hlt : i < bs.length
    · obtain ⟨⟨bl, bc, bk, bg⟩, hib⟩ : ∃ x, bs[i]? = some x := ⟨_, List.getElem?_eq_getElem hlt⟩
      have hgood := HGB.out _ (List.mem_of_getElem? hib)
      obtain ⟨A2', c2', hv2, hcl, hcell⟩ := (show RdB wr (.slice A2 bs.length c2) bs from Rd.below HR2.out hW).at_
      injection hv2 with e1 _ e3
      subst e1 e3
      obtain ⟨bb, ob, rfl, hbb, hcx⟩ := hcell i hlt
      obtain ⟨d0, d1, d2, d3⟩ := hcx _ hib
      simp only [Bk.line, Bk.cls, Bk.kind, Bk.gen] at d0 d1 d2 d3
      have ii0 : (0 : Int) ≤ (i : Int) := by omega
      have ii1 : (i : Int) < (bs.length : Int) := by omega
      have ii2 : (i : Int) < (c2 : Int) := by omega
      have hat := hgood.1
      simp only [Bk.line, Bk.cls] at hat
      obtain ⟨p1, p2, p3, p4, p5⟩ := hgood.parts (HOK.out _ (by have := hgood.1.1; omega) (by have := hgood.1.2.1; omega))
      simp only [Bk.line, Bk.kind, Bk.gen] at p1 p2 p3 p4 p5
      have HGD := Lib.hid hgood
      have HAT := Lib.hid hat
      have HP5 := Lib.hid p5
      have l1 : 1 ≤ bl := by omega
      have l2 : bl ≤ 4095 := by omega
      have f0 := hPr.cell 0
      have f1 := hPr.cell 1
      simp only [List.getElem?_toArray, List.getElem?_cons_succ, List.getElem?_cons_zero] at f0 f1
      have lp := hPr.lt
      clear hgood hat p1 p2 p3 p4 p5 hib hcell hcx
      go_upto_region 12 with (fail)
      obtain ⟨wb, hwb⟩ : ∃ x, x = wr.alloc (.cells #[.int .i64 bl, .int .i64 bc, .int .i64 bk, .int .i64 bg] 43) := ⟨_, rfl⟩
      have hrb : Below wr.heap.size wr wb := by rw [hwb]; (repeat (first | with_reducible exact Below.refl _ _ | with_reducible assumption | with_reducible refine below_drewN ?_ _ | with_reducible refine Below.drew ?_ | with_reducible refine Below.alloc ?_ (by first | omega | (simp; omega) | simp) _ | with_reducible refine Below.setCell ?_ (by first | omega | (simp; omega) | simp) _))
      have hBx : Cl wb wr.heap.size 43 #[.int .i64 bl, .int .i64 bc, .int .i64 bk, .int .i64 bg] := by rw [hwb]; exact Cl.new _ _ _
      rw [← hwb]
      clear hwb d0 d1 d2 d3 f0 f1 lp
      have hWb := hW.trans (hrb.mono hws)
      have hHb := hHr.below hrb hHr.lt
      have hPb := hPr.below hrb hPr.lt
      have HPB := Lib.hid hPb
      have hsb := hrb.size
      have lb := hBx.lt
      obtain ⟨⟨x0, x1, x2, x3⟩, -⟩ := hBx.has4
      have nhb : ¬ w3.heap.size = wb.heap.size := by have := hHb.lt; omega
      have nhb' : ¬ wb.heap.size = w3.heap.size := by have := hHb.lt; omega
      have nxb : ¬ wr.heap.size = wb.heap.size := by omega
      have nxb' : ¬ wb.heap.size = wr.heap.size := by omega
      have h0 := hHb.cell 0
      have h1 := hHb.cell 1
      have h2 := hHb.cell 2
      have h3 := hHb.cell 3
      have h4 := hHb.cell 4
      have h5 := hHb.cell 5
      have h6 := hHb.cell 6
      have h7 := hHb.cell 7
      have h8 := hHb.cell 8
      have h9 := hHb.cell 9
      have h10 := hHb.cell 10
      simp only [List.getElem?_toArray, List.getElem?_cons_succ, List.getElem?_cons_zero] at h0 h1 h2 h3 h4 h5 h6 h7 h8 h9 h10
      have lh := hHb.lt
      clear hHr hPr hW hrb hPb
      obtain ⟨r, hr⟩ : ∃ r, r = folZ (blkR R bl bc) gn := ⟨_, rfl⟩
      have FOL := Lib.hid (fun w' hb => HFOL.out w' hb bl bc gn HAT.out gn0 gn1)
      rw [← hr] at FOL
      have HRr := Lib.hid hr
      clear hr
      obtain ⟨⟨r1, r2, r3, r4⟩, re⟩ := r
      simp only [Bk.line, Bk.cls, Bk.kind, Bk.gen] at FOL
      go_cut [12, 13] (fun s t wx => ∃ gq, s = .pointer (some ⟨gq, 0, none⟩) ∧ t = .int .i64 re ∧ wb.heap.size ≤ gq ∧ Cl wx gq 43 #[.int .i64 r1, .int .i64 r2, .int .i64 r3, .int .i64 r4] ∧ Below wb.heap.size wb wx)
      case first =>
        go_region_held3 (fun w' => w'.cell? ⟨w3.heap.size, 0, none⟩ = some (.int .i64 (L : Int)) ∧ w'.cell? ⟨w3.heap.size, 1, none⟩ = some (.int .i64 2) ∧ w'.cell? ⟨w3.heap.size, 2, none⟩ = some (.int .i64 8) ∧ w'.cell? ⟨w3.heap.size, 3, none⟩ = some (.int .i64 10) ∧ w'.cell? ⟨w3.heap.size, 4, none⟩ = some (.int .i64 4) ∧ w'.cell? ⟨w3.heap.size, 5, none⟩ = some (.int .i64 14) ∧ w'.cell? ⟨w3.heap.size, 6, none⟩ = some (.int .i64 16) ∧ w'.cell? ⟨w3.heap.size, 7, none⟩ = some (.int .i64 (C : Int)) ∧ w'.cell? ⟨w3.heap.size, 9, none⟩ = some (.pointer (some ⟨gv, 0, none⟩)) ∧ w'.cell? ⟨wr.heap.size, 0, none⟩ = some (.int .i64 bl)) (go_keep)
          (first
            | (go_at_call 8; refine (rmake_calls _ bl gn l1 l2 gn0 gn1).mono ?_; rintro e w' ⟨rfl, rfl⟩)
            | (go_at_call 7; refine (FOL.out _ (hWb.trans (Below.mono (by (repeat (first | with_reducible exact Below.refl _ _ | with_reducible assumption | with_reducible refine below_drewN ?_ _ | with_reducible refine Below.drew ?_ | with_reducible refine Below.alloc ?_ (by first | omega | (simp; omega) | simp) _ | with_reducible refine Below.setCell ?_ (by first | omega | (simp; omega) | simp) _))) hWb.size))).mono ?_; rintro e wq ⟨rfl, bq0⟩; (have bq : Below wb.heap.size wb wq := Below.trans (by (repeat (first | with_reducible exact Below.refl _ _ | with_reducible assumption | with_reducible refine below_drewN ?_ _ | with_reducible refine Below.drew ?_ | with_reducible refine Below.alloc ?_ (by first | omega | (simp; omega) | simp) _ | with_reducible refine Below.setCell ?_ (by first | omega | (simp; omega) | simp) _))) (bq0.mono (by first | omega | (simp; omega) | simp))); (have hHq := hHb.below bq hHb.lt); (have q0 := hHq.cell 0); (have q1 := hHq.cell 1); (have q2 := hHq.cell 2); (have q3 := hHq.cell 3); (have q4 := hHq.cell 4); (have q5 := hHq.cell 5); (have q6 := hHq.cell 6); (have q7 := hHq.cell 7); (have q9 := hHq.cell 9); simp only [List.getElem?_toArray, List.getElem?_cons_succ, List.getElem?_cons_zero] at q0 q1 q2 q3 q4 q5 q6 q7 q9; (have hBq := hBx.below bq hBx.lt); obtain ⟨⟨m0, m1, m2, m3⟩, -⟩ := hBq.has4; (have mq := hBq.lt); (have sq := bq.size); (first | (have g2 := (Cl.new wb 43 #[.int .i64 0, .int .i64 0, .int .i64 0, .int .i64 0]).drew.below bq0 (by simp); obtain ⟨⟨k0, k1, k2, k3⟩, ⟨k4, k5, k6, k7⟩⟩ := g2.has4; (have gl2 := g2.lt)) | skip)))
        all_goals (go_wp2_with fail; go_meet)
        all_goals first
          | (refine ⟨wq.heap.size, ?_, ?_⟩; (· with_reducible rfl); refine ⟨rfl, by omega, Cl.new _ _ _, ?_⟩; (repeat (first | with_reducible exact Below.refl _ _ | with_reducible assumption | with_reducible refine below_drewN ?_ _ | with_reducible refine Below.drew ?_ | with_reducible refine Below.alloc ?_ (by first | omega | (simp; omega) | simp) _ | with_reducible refine Below.setCell ?_ (by first | omega | (simp; omega) | simp) _)))
          | (refine ⟨wb.heap.size, ?_, ?_⟩; (· with_reducible rfl); refine ⟨rfl, by omega, g2.set4 _ _ _ _, ?_⟩; (repeat (first | with_reducible exact Below.refl _ _ | with_reducible assumption | with_reducible refine below_drewN ?_ _ | with_reducible refine Below.drew ?_ | with_reducible refine Below.alloc ?_ (by first | omega | (simp; omega) | simp) _ | with_reducible refine Below.setCell ?_ (by first | omega | (simp; omega) | simp) _)))
      case rest =>
        obtain ⟨gq, rfl, rfl, hgq, hG, hbx⟩ := hcut
        obtain ⟨w7, hw7⟩ : ∃ x : World, x = wc := ⟨_, rfl⟩
        subst hw7
        have hB7 := hBx.below hbx hBx.lt
        have hW7 := hWb.trans (hbx.mono hWb.size)
        have hH7 := hHb.below hbx hHb.lt
        have HP7 := Lib.hid (HPB.out.below hbx HPB.out.lt)
        have hs7 := hbx.size
        clear x0 x1 x2 x3 h0 h1 h2 h3 h4 h5 h6 h7 h8 h9 h10 lh lb hBx hWb hHb hbx FOL nhb nhb' nxb nxb' HPB
        obtain ⟨⟨x0, x1, x2, x3⟩, -⟩ := hB7.has4
        obtain ⟨⟨y0, y1, y2, y3⟩, -⟩ := hG.has4
        have lb := hB7.lt
        have lg := hG.lt
        by_cases hk : bk = 0
        · have hrr := HRr.out
          rw [folZ_stale HGD.out (.inl hk)] at hrr
          simp only [Prod.mk.injEq] at hrr
          obtain ⟨⟨rfl, rfl, rfl, rfl⟩, rfl⟩ := hrr
          have bk0 : (bk == 0) = true := by simp [hk]
          have bk1 : (bk != 0) = false := by simp [hk]
          clear hk HRr
          go_wp2_with fail
          go_roundw
          case rel => exact ⟨i + 1, by omega, by go_num, hW7.trans (Below.mono (by (repeat (first | with_reducible exact Below.refl _ _ | with_reducible assumption | with_reducible refine below_drewN ?_ _ | with_reducible refine Below.drew ?_ | with_reducible refine Below.alloc ?_ (by first | omega | (simp; omega) | simp) _ | with_reducible refine Below.setCell ?_ (by first | omega | (simp; omega) | simp) _))) hW7.size)⟩
          case measure => simp [intOf]; omega
        · have bk0 : (bk == 0) = false := by simp [hk]
          have bk1 : (bk != 0) = true := by simp [hk]
          have HK := Lib.hid hk
          have bg1 : 1 ≤ bg := HP5.out hk
          have bg2 : bg ≤ 1048575 := by
            have := (GoodB.parts HGD.out (HOK.out _ (by have := HGD.out.1.1; omega) (by have := HGD.out.1.2.1; omega))).2.2.2.1
            simpa [Bk.gen] using this
          clear hk
          by_cases hgg : bg = gn
          · have hrr := HRr.out
            rw [folZ_same HGD.out HK.out hgg] at hrr
            simp only [Prod.mk.injEq] at hrr
            obtain ⟨⟨rfl, rfl, rfl, rfl⟩, rfl⟩ := hrr
            have bgb : (gn != r4) = false := by simp [hgg]
            have beq : bkEq r1 r2 r3 r4 r1 r2 r3 r4 = true := by simp [bkEq]
            have FOL := Lib.hid (fun w' hb => HFOL.out w' hb r1 r2 r4 HAT.out bg1 bg2)
            rw [folZ_same HGD.out HK.out rfl] at FOL
            simp only [Bk.line, Bk.cls, Bk.kind, Bk.gen] at FOL
            clear hgg HRr
            go_upto_region 19 with (fail)
            have hHb := hH7
            have h0 := hHb.cell 0
            have h1 := hHb.cell 1
            have h2 := hHb.cell 2
            have h3 := hHb.cell 3
            have h4 := hHb.cell 4
            have h5 := hHb.cell 5
            have h6 := hHb.cell 6
            have h7 := hHb.cell 7
            have h8 := hHb.cell 8
            have h9 := hHb.cell 9
            have h10 := hHb.cell 10
            simp only [List.getElem?_toArray, List.getElem?_cons_succ, List.getElem?_cons_zero] at h0 h1 h2 h3 h4 h5 h6 h7 h8 h9 h10
            have lh := hHb.lt
            have nhb : ¬ w3.heap.size = w7.heap.size := by omega
            have nhb' : ¬ w7.heap.size = w3.heap.size := by omega
            have nxb : ¬ wr.heap.size = w7.heap.size := by omega
            have nxb' : ¬ w7.heap.size = wr.heap.size := by omega
            go_cut [14, 15] (fun s t wx => ∃ gq, s = .pointer (some ⟨gq, 0, none⟩) ∧ t = .int .i64 0 ∧ w7.heap.size ≤ gq ∧ Cl wx gq 43 #[.int .i64 r1, .int .i64 r2, .int .i64 r3, .int .i64 r4] ∧ Below w7.heap.size w7 wx)
            case first =>
              go_region_held3 (fun w' => w'.cell? ⟨w3.heap.size, 0, none⟩ = some (.int .i64 (L : Int)) ∧ w'.cell? ⟨w3.heap.size, 1, none⟩ = some (.int .i64 2) ∧ w'.cell? ⟨w3.heap.size, 2, none⟩ = some (.int .i64 8) ∧ w'.cell? ⟨w3.heap.size, 3, none⟩ = some (.int .i64 10) ∧ w'.cell? ⟨w3.heap.size, 4, none⟩ = some (.int .i64 4) ∧ w'.cell? ⟨w3.heap.size, 5, none⟩ = some (.int .i64 14) ∧ w'.cell? ⟨w3.heap.size, 6, none⟩ = some (.int .i64 16) ∧ w'.cell? ⟨w3.heap.size, 7, none⟩ = some (.int .i64 (C : Int)) ∧ w'.cell? ⟨w3.heap.size, 9, none⟩ = some (.pointer (some ⟨gv, 0, none⟩)) ∧ w'.cell? ⟨wr.heap.size, 0, none⟩ = some (.int .i64 r1) ∧ w'.cell? ⟨wr.heap.size, 3, none⟩ = some (.int .i64 r4)) (go_keep)
                (first
                  | (go_at_call 8; refine (rmake_calls _ r1 r4 l1 l2 bg1 bg2).mono ?_; rintro e w' ⟨rfl, rfl⟩)
                  | (go_at_call 7; refine (FOL.out _ (hW7.trans (Below.mono (by (repeat (first | with_reducible exact Below.refl _ _ | with_reducible assumption | with_reducible refine below_drewN ?_ _ | with_reducible refine Below.drew ?_ | with_reducible refine Below.alloc ?_ (by first | omega | (simp; omega) | simp) _ | with_reducible refine Below.setCell ?_ (by first | omega | (simp; omega) | simp) _))) hW7.size))).mono ?_; rintro e wq ⟨rfl, bq0⟩; (have bq : Below w7.heap.size w7 wq := Below.trans (by (repeat (first | with_reducible exact Below.refl _ _ | with_reducible assumption | with_reducible refine below_drewN ?_ _ | with_reducible refine Below.drew ?_ | with_reducible refine Below.alloc ?_ (by first | omega | (simp; omega) | simp) _ | with_reducible refine Below.setCell ?_ (by first | omega | (simp; omega) | simp) _))) (bq0.mono (by first | omega | (simp; omega) | simp))); (have hHq := hHb.below bq hHb.lt); (have q0 := hHq.cell 0); (have q1 := hHq.cell 1); (have q2 := hHq.cell 2); (have q3 := hHq.cell 3); (have q4 := hHq.cell 4); (have q5 := hHq.cell 5); (have q6 := hHq.cell 6); (have q7 := hHq.cell 7); (have q9 := hHq.cell 9); simp only [List.getElem?_toArray, List.getElem?_cons_succ, List.getElem?_cons_zero] at q0 q1 q2 q3 q4 q5 q6 q7 q9; (have hBq := hB7.below bq hB7.lt); obtain ⟨⟨m0, m1, m2, m3⟩, -⟩ := hBq.has4; (have mq := hBq.lt); (have sq := bq.size); (first | (have g2 := (Cl.new w7 43 #[.int .i64 0, .int .i64 0, .int .i64 0, .int .i64 0]).drew.below bq0 (by simp); obtain ⟨⟨k0, k1, k2, k3⟩, ⟨k4, k5, k6, k7⟩⟩ := g2.has4; (have gl2 := g2.lt)) | skip)))
              all_goals (go_wp2_with fail; go_meet)
              all_goals first
                | (refine ⟨wq.heap.size, ?_, ?_⟩; (· with_reducible rfl); refine ⟨rfl, by omega, Cl.new _ _ _, ?_⟩; (repeat (first | with_reducible exact Below.refl _ _ | with_reducible assumption | with_reducible refine below_drewN ?_ _ | with_reducible refine Below.drew ?_ | with_reducible refine Below.alloc ?_ (by first | omega | (simp; omega) | simp) _ | with_reducible refine Below.setCell ?_ (by first | omega | (simp; omega) | simp) _)))
                | (refine ⟨w7.heap.size, ?_, ?_⟩; (· with_reducible rfl); refine ⟨rfl, by omega, g2.set4 _ _ _ _, ?_⟩; (repeat (first | with_reducible exact Below.refl _ _ | with_reducible assumption | with_reducible refine below_drewN ?_ _ | with_reducible refine Below.drew ?_ | with_reducible refine Below.alloc ?_ (by first | omega | (simp; omega) | simp) _ | with_reducible refine Below.setCell ?_ (by first | omega | (simp; omega) | simp) _)))
            case rest =>
              obtain ⟨gz, rfl, rfl, hgz, hGz, hbx⟩ := hcut
              obtain ⟨w8, hw8⟩ : ∃ x : World, x = wc := ⟨_, rfl⟩
              subst hw8
              have hB8 := hB7.below hbx hB7.lt
              have hW8 := hW7.trans (hbx.mono hW7.size)
              clear x0 x1 x2 x3 y0 y1 y2 y3 h0 h1 h2 h3 h4 h5 h6 h7 h8 h9 h10 lh lb lg hB7 hG hH7 hHb hbx FOL nhb nhb' nxb nxb' hW7
              obtain ⟨⟨x0, x1, x2, x3⟩, -⟩ := hB8.has4
              obtain ⟨⟨y0, y1, y2, y3⟩, -⟩ := hGz.has4
              have lb := hB8.lt
              have lg := hGz.lt
              go_wp2_with fail
              go_roundw
              case rel => exact ⟨i + 1, by omega, by go_num, hW8.trans (Below.mono (by (repeat (first | with_reducible exact Below.refl _ _ | with_reducible assumption | with_reducible refine below_drewN ?_ _ | with_reducible refine Below.drew ?_ | with_reducible refine Below.alloc ?_ (by first | omega | (simp; omega) | simp) _ | with_reducible refine Below.setCell ?_ (by first | omega | (simp; omega) | simp) _))) hW8.size)⟩
              case measure => simp [intOf]; omega
          · have hrr := HRr.out
            rw [folZ_stale HGD.out (.inr hgg)] at hrr
            simp only [Prod.mk.injEq] at hrr
            obtain ⟨⟨rfl, rfl, rfl, rfl⟩, rfl⟩ := hrr
            have bgb : (gn != bg) = true := by simp; exact fun h => hgg h.symm
            have beq : bkEq bl bc bk bg bl bc bk bg = true := by simp [bkEq]
            have FOL := Lib.hid (fun w' hb => HFOL.out w' hb bl bc bg HAT.out bg1 bg2)
            rw [folZ_same HGD.out HK.out rfl] at FOL
            simp only [Bk.line, Bk.cls, Bk.kind, Bk.gen] at FOL
            clear hgg HRr
            go_upto_region 19 with (fail)
            have hHb := hH7
            have h0 := hHb.cell 0
            have h1 := hHb.cell 1
            have h2 := hHb.cell 2
            have h3 := hHb.cell 3
            have h4 := hHb.cell 4
            have h5 := hHb.cell 5
            have h6 := hHb.cell 6
            have h7 := hHb.cell 7
            have h8 := hHb.cell 8
            have h9 := hHb.cell 9
            have h10 := hHb.cell 10
            simp only [List.getElem?_toArray, List.getElem?_cons_succ, List.getElem?_cons_zero] at h0 h1 h2 h3 h4 h5 h6 h7 h8 h9 h10
            have lh := hHb.lt
            have nhb : ¬ w3.heap.size = w7.heap.size := by omega
            have nhb' : ¬ w7.heap.size = w3.heap.size := by omega
            have nxb : ¬ wr.heap.size = w7.heap.size := by omega
            have nxb' : ¬ w7.heap.size = wr.heap.size := by omega
            go_cut [14, 15] (fun s t wx => ∃ gq, s = .pointer (some ⟨gq, 0, none⟩) ∧ t = .int .i64 0 ∧ w7.heap.size ≤ gq ∧ Cl wx gq 43 #[.int .i64 bl, .int .i64 bc, .int .i64 bk, .int .i64 bg] ∧ Below w7.heap.size w7 wx)
            case first =>
              go_region_held3 (fun w' => w'.cell? ⟨w3.heap.size, 0, none⟩ = some (.int .i64 (L : Int)) ∧ w'.cell? ⟨w3.heap.size, 1, none⟩ = some (.int .i64 2) ∧ w'.cell? ⟨w3.heap.size, 2, none⟩ = some (.int .i64 8) ∧ w'.cell? ⟨w3.heap.size, 3, none⟩ = some (.int .i64 10) ∧ w'.cell? ⟨w3.heap.size, 4, none⟩ = some (.int .i64 4) ∧ w'.cell? ⟨w3.heap.size, 5, none⟩ = some (.int .i64 14) ∧ w'.cell? ⟨w3.heap.size, 6, none⟩ = some (.int .i64 16) ∧ w'.cell? ⟨w3.heap.size, 7, none⟩ = some (.int .i64 (C : Int)) ∧ w'.cell? ⟨w3.heap.size, 9, none⟩ = some (.pointer (some ⟨gv, 0, none⟩)) ∧ w'.cell? ⟨wr.heap.size, 0, none⟩ = some (.int .i64 bl) ∧ w'.cell? ⟨wr.heap.size, 3, none⟩ = some (.int .i64 bg)) (go_keep)
                (first
                  | (go_at_call 8; refine (rmake_calls _ bl bg l1 l2 bg1 bg2).mono ?_; rintro e w' ⟨rfl, rfl⟩)
                  | (go_at_call 7; refine (FOL.out _ (hW7.trans (Below.mono (by (repeat (first | with_reducible exact Below.refl _ _ | with_reducible assumption | with_reducible refine below_drewN ?_ _ | with_reducible refine Below.drew ?_ | with_reducible refine Below.alloc ?_ (by first | omega | (simp; omega) | simp) _ | with_reducible refine Below.setCell ?_ (by first | omega | (simp; omega) | simp) _))) hW7.size))).mono ?_; rintro e wq ⟨rfl, bq0⟩; (have bq : Below w7.heap.size w7 wq := Below.trans (by (repeat (first | with_reducible exact Below.refl _ _ | with_reducible assumption | with_reducible refine below_drewN ?_ _ | with_reducible refine Below.drew ?_ | with_reducible refine Below.alloc ?_ (by first | omega | (simp; omega) | simp) _ | with_reducible refine Below.setCell ?_ (by first | omega | (simp; omega) | simp) _))) (bq0.mono (by first | omega | (simp; omega) | simp))); (have hHq := hHb.below bq hHb.lt); (have q0 := hHq.cell 0); (have q1 := hHq.cell 1); (have q2 := hHq.cell 2); (have q3 := hHq.cell 3); (have q4 := hHq.cell 4); (have q5 := hHq.cell 5); (have q6 := hHq.cell 6); (have q7 := hHq.cell 7); (have q9 := hHq.cell 9); simp only [List.getElem?_toArray, List.getElem?_cons_succ, List.getElem?_cons_zero] at q0 q1 q2 q3 q4 q5 q6 q7 q9; (have hBq := hB7.below bq hB7.lt); obtain ⟨⟨m0, m1, m2, m3⟩, -⟩ := hBq.has4; (have mq := hBq.lt); (have sq := bq.size); (first | (have g2 := (Cl.new w7 43 #[.int .i64 0, .int .i64 0, .int .i64 0, .int .i64 0]).drew.below bq0 (by simp); obtain ⟨⟨k0, k1, k2, k3⟩, ⟨k4, k5, k6, k7⟩⟩ := g2.has4; (have gl2 := g2.lt)) | skip)))
              all_goals (go_wp2_with fail; go_meet)
              all_goals first
                | (refine ⟨wq.heap.size, ?_, ?_⟩; (· with_reducible rfl); refine ⟨rfl, by omega, Cl.new _ _ _, ?_⟩; (repeat (first | with_reducible exact Below.refl _ _ | with_reducible assumption | with_reducible refine below_drewN ?_ _ | with_reducible refine Below.drew ?_ | with_reducible refine Below.alloc ?_ (by first | omega | (simp; omega) | simp) _ | with_reducible refine Below.setCell ?_ (by first | omega | (simp; omega) | simp) _)))
                | (refine ⟨w7.heap.size, ?_, ?_⟩; (· with_reducible rfl); refine ⟨rfl, by omega, g2.set4 _ _ _ _, ?_⟩; (repeat (first | with_reducible exact Below.refl _ _ | with_reducible assumption | with_reducible refine below_drewN ?_ _ | with_reducible refine Below.drew ?_ | with_reducible refine Below.alloc ?_ (by first | omega | (simp; omega) | simp) _ | with_reducible refine Below.setCell ?_ (by first | omega | (simp; omega) | simp) _)))
            case rest =>
              obtain ⟨gz, rfl, rfl, hgz, hGz, hbx⟩ := hcut
              obtain ⟨w8, hw8⟩ : ∃ x : World, x = wc := ⟨_, rfl⟩
              subst hw8
              have hB8 := hB7.below hbx hB7.lt
              have hW8 := hW7.trans (hbx.mono hW7.size)
              clear x0 x1 x2 x3 y0 y1 y2 y3 h0 h1 h2 h3 h4 h5 h6 h7 h8 h9 h10 lh lb lg hB7 hG hH7 hHb hbx FOL nhb nhb' nxb nxb' hW7
              obtain ⟨⟨x0, x1, x2, x3⟩, -⟩ := hB8.has4
              obtain ⟨⟨y0, y1, y2, y3⟩, -⟩ := hGz.has4
              have lb := hB8.lt
              have lg := hGz.lt
              go_wp2_with fail
              go_roundw
              case rel => exact ⟨i + 1, by omega, by go_num, hW8.trans (Below.mono (by (repeat (first | with_reducible exact Below.refl _ _ | with_reducible assumption | with_reducible refine below_drewN ?_ _ | with_reducible refine Below.drew ?_ | with_reducible refine Below.alloc ?_ (by first | omega | (simp; omega) | simp) _ | with_reducible refine Below.setCell ?_ (by first | omega | (simp; omega) | simp) _))) hW8.size)⟩
              case measure => simp [intOf]; omega
    · have hin : ¬ (i : Int) < (bs.length : Int) := by omega
      have f1 := hPr.cell 1
      simp only [List.getElem?_toArray, List.getElem?_cons_succ, List.getElem?_cons_zero] at f1
      have lp := hPr.lt
      have HW := Lib.hid hW
      clear hHr hPr hW
      go_wp2_with fail
      go_loopw [16, 17, 18] (fun v _ _ wr => LwRel w6 bd.length v wr) (fun v _ _ _ => bd.length - (intOf v).toNat)
      case atStart => exact ⟨0, Nat.zero_le _, rfl, HW.out⟩
      case round =>
        clear HW hin hi f1 lp hws
        obtain ⟨i, hi, rfl, hW⟩ := hrel
        have hHr := HH6.out.below hW HH6.out.lt
        have hPr := HP6.out.below hW HP6.out.lt
        have hws := hW.size
        have f2 := hPr.cell 2
        simp only [List.getElem?_toArray, List.getElem?_cons_succ, List.getElem?_cons_zero] at f2
        have lp := hPr.lt
        by_cases hlt : i < bd.length
        · obtain ⟨ln, hil⟩ : ∃ x, bd[i]? = some x := ⟨_, List.getElem?_eq_getElem hlt⟩
          obtain ⟨c, hat, hne⟩ := HGL.out _ (List.mem_of_getElem? hil)
          obtain ⟨A3', c3', hv3, hcl, hcell⟩ := (show RdI wr (.slice A3 bd.length c3) bd from Rd.below HR3.out hW).at_
          injection hv3 with e1 _ e3
          subst e1 e3
          obtain ⟨bb, ob, rfl, hbb, hcx⟩ := hcell i hlt
          have d0 := hcx _ hil
          have ii0 : (0 : Int) ≤ (i : Int) := by omega
          have ii1 : (i : Int) < (bd.length : Int) := by omega
          have ii2 : (i : Int) < (c3 : Int) := by omega
          have l1 : 1 ≤ ln := by have := hat.1; omega
          have l2 : ln ≤ 4095 := by have := hat.2.1; omega
          have hbad := folZ_bad (gn := gn) (HOK.out (8 * ln) (by have := hat.1; omega) (by have := hat.2.1; omega)) hne
          obtain ⟨r, hr⟩ : ∃ r, r = folZ (blkR R ln c) gn := ⟨_, rfl⟩
          have FOL := Lib.hid (fun w' hb => HFOL.out w' hb ln c gn hat gn0 gn1)
          rw [← hr] at FOL hbad
          clear hr hat hne hil hcell hcx
          obtain ⟨r, re⟩ := r
          obtain ⟨rfl, hre⟩ := hbad
          simp only at hre
          simp only [Bk.line, Bk.cls, Bk.kind, Bk.gen] at FOL
          go_upto_region 25 with (fail)
          have hWr := hW
          have hHb := hHr
          have nhb : ¬ w3.heap.size = wr.heap.size := by have := hHb.lt; omega
          have nhb' : ¬ wr.heap.size = w3.heap.size := by have := hHb.lt; omega
          have npb : ¬ w5.heap.size = wr.heap.size := by omega
          have npb' : ¬ wr.heap.size = w5.heap.size := by omega
          have nbb : ¬ bb = wr.heap.size := by omega
          have nbb' : ¬ wr.heap.size = bb := by omega
          have h0 := hHb.cell 0
          have h1 := hHb.cell 1
          have h2 := hHb.cell 2
          have h3 := hHb.cell 3
          have h4 := hHb.cell 4
          have h5 := hHb.cell 5
          have h6 := hHb.cell 6
          have h7 := hHb.cell 7
          have h8 := hHb.cell 8
          have h9 := hHb.cell 9
          have h10 := hHb.cell 10
          simp only [List.getElem?_toArray, List.getElem?_cons_succ, List.getElem?_cons_zero] at h0 h1 h2 h3 h4 h5 h6 h7 h8 h9 h10
          have lh := hHb.lt
          clear hHr hW
          go_cut [17, 18] (fun s t wx => ∃ gq, s = .pointer (some ⟨gq, 0, none⟩) ∧ t = .int .i64 re ∧ wr.heap.size ≤ gq ∧ Cl wx gq 43 #[.int .i64 0, .int .i64 0, .int .i64 0, .int .i64 0] ∧ Below wr.heap.size wr wx)
          case first =>
            go_region_held3 (fun w' => w'.cell? ⟨w3.heap.size, 0, none⟩ = some (.int .i64 (L : Int)) ∧ w'.cell? ⟨w3.heap.size, 1, none⟩ = some (.int .i64 2) ∧ w'.cell? ⟨w3.heap.size, 2, none⟩ = some (.int .i64 8) ∧ w'.cell? ⟨w3.heap.size, 3, none⟩ = some (.int .i64 10) ∧ w'.cell? ⟨w3.heap.size, 4, none⟩ = some (.int .i64 4) ∧ w'.cell? ⟨w3.heap.size, 5, none⟩ = some (.int .i64 14) ∧ w'.cell? ⟨w3.heap.size, 6, none⟩ = some (.int .i64 16) ∧ w'.cell? ⟨w3.heap.size, 7, none⟩ = some (.int .i64 (C : Int)) ∧ w'.cell? ⟨w3.heap.size, 9, none⟩ = some (.pointer (some ⟨gv, 0, none⟩)) ∧ w'.cell? ⟨w5.heap.size, 2, none⟩ = some (.slice (some ⟨bb, ob, none⟩) bd.length c3) ∧ w'.cell? ⟨bb, ob + i, none⟩ = some (.int .i64 ln)) (go_keep)
              (first
                | (go_at_call 8; refine (rmake_calls _ ln gn l1 l2 gn0 gn1).mono ?_; rintro e w' ⟨rfl, rfl⟩)
                | (go_at_call 7; refine (FOL.out _ (hWr.trans (Below.mono (by (repeat (first | with_reducible exact Below.refl _ _ | with_reducible assumption | with_reducible refine below_drewN ?_ _ | with_reducible refine Below.drew ?_ | with_reducible refine Below.alloc ?_ (by first | omega | (simp; omega) | simp) _ | with_reducible refine Below.setCell ?_ (by first | omega | (simp; omega) | simp) _))) hWr.size))).mono ?_; rintro e wq ⟨rfl, bq0⟩; (have bq : Below wr.heap.size wr wq := Below.trans (by (repeat (first | with_reducible exact Below.refl _ _ | with_reducible assumption | with_reducible refine below_drewN ?_ _ | with_reducible refine Below.drew ?_ | with_reducible refine Below.alloc ?_ (by first | omega | (simp; omega) | simp) _ | with_reducible refine Below.setCell ?_ (by first | omega | (simp; omega) | simp) _))) (bq0.mono (by first | omega | (simp; omega) | simp))); (have hHq := hHb.below bq hHb.lt); (have q0 := hHq.cell 0); (have q1 := hHq.cell 1); (have q2 := hHq.cell 2); (have q3 := hHq.cell 3); (have q4 := hHq.cell 4); (have q5 := hHq.cell 5); (have q6 := hHq.cell 6); (have q7 := hHq.cell 7); (have q9 := hHq.cell 9); simp only [List.getElem?_toArray, List.getElem?_cons_succ, List.getElem?_cons_zero] at q0 q1 q2 q3 q4 q5 q6 q7 q9; (have hPq := hPr.below bq hPr.lt); (have m2 := hPq.cell 2); simp only [List.getElem?_toArray, List.getElem?_cons_succ, List.getElem?_cons_zero] at m2; (have mq := hPq.lt); (have md := (bq.cell (p := ⟨bb, ob + i, none⟩) hbb).trans d0); (have sq := bq.size); (first | (have g2 := (Cl.new wr 43 #[.int .i64 0, .int .i64 0, .int .i64 0, .int .i64 0]).drew.below bq0 (by simp); obtain ⟨⟨k0, k1, k2, k3⟩, ⟨k4, k5, k6, k7⟩⟩ := g2.has4; (have gl2 := g2.lt)) | skip)))
            all_goals (go_wp2_with fail; go_meet)
            all_goals first
              | (refine ⟨wq.heap.size, ?_, ?_⟩; (· with_reducible rfl); refine ⟨rfl, by omega, Cl.new _ _ _, ?_⟩; (repeat (first | with_reducible exact Below.refl _ _ | with_reducible assumption | with_reducible refine below_drewN ?_ _ | with_reducible refine Below.drew ?_ | with_reducible refine Below.alloc ?_ (by first | omega | (simp; omega) | simp) _ | with_reducible refine Below.setCell ?_ (by first | omega | (simp; omega) | simp) _)))
              | (refine ⟨wr.heap.size, ?_, ?_⟩; (· with_reducible rfl); refine ⟨rfl, by omega, g2.set4 _ _ _ _, ?_⟩; (repeat (first | with_reducible exact Below.refl _ _ | with_reducible assumption | with_reducible refine below_drewN ?_ _ | with_reducible refine Below.drew ?_ | with_reducible refine Below.alloc ?_ (by first | omega | (simp; omega) | simp) _ | with_reducible refine Below.setCell ?_ (by first | omega | (simp; omega) | simp) _)))
          case rest =>
            obtain ⟨gq, rfl, rfl, hgq, hG, hbx⟩ := hcut
            obtain ⟨w7, hw7⟩ : ∃ x : World, x = wc := ⟨_, rfl⟩
            subst hw7
            have hW7 := hWr.trans (hbx.mono hWr.size)
            clear h0 h1 h2 h3 h4 h5 h6 h7 h8 h9 h10 lh hWr hHb hbx FOL nhb nhb' npb npb' nbb nbb' d0 f2 lp hPr hG
            rcases hre with rfl | rfl
            all_goals
              go_wp2_with fail
              go_roundw
              case rel => exact ⟨i + 1, by omega, by go_num, hW7.trans (Below.mono (by (repeat (first | with_reducible exact Below.refl _ _ | with_reducible assumption | with_reducible refine below_drewN ?_ _ | with_reducible refine Below.drew ?_ | with_reducible refine Below.alloc ?_ (by first | omega | (simp; omega) | simp) _ | with_reducible refine Below.setCell ?_ (by first | omega | (simp; omega) | simp) _))) hW7.size)⟩
              case measure => simp [intOf]; omega
        · have hin : ¬ (i : Int) < (bd.length : Int) := by omega
          go_wp2_with fail
          go_ret
          exact ⟨rfl, HB6.out.trans (hW.mono HB6.out.size)⟩

theorem law_calls (w : World) (n g : Nat) (bl : Value) {te : TypeId} (os : List OpD) (T : Nat → Int) (Ae : Option Addr) (ne ce : Nat) (hn : n < 256) (hg : g < 4294967296) (hR : RdO w te bl os) (ha64 : ∀ x ∈ os, x.2.1 ≤ 9223372036854775807) (hcu : ∀ x ∈ os, ∃ A n c, x.2.2.2.2 = .slice A n c)
    (hT : Tb w T) (hdb : Db w) (hd : Hd w) (hp : Pt w) :
    Calls Tryz.prog 3 #[.agg #[.int .u8 (n : Int), bl, .slice Ae ne ce], .int .u32 (g : Int)] w (LawPost w) := by
  by_cases hos : os.length ≤ 80
  · exact law_in w n g bl os T Ae ne ce hn hg hR hos ha64 hcu hT hdb hd hp
  · obtain ⟨A, cc, rfl⟩ := Rd.form hR
    exact law_over w n g os.length cc A Ae ne ce (by omega) hd hp
end Go.Proofs.YtckamjbdogpacaaGreatDoor
