/-
  put, Store and Publish over a memory of any content.
-/
import Derived.Test.YtckamjbdogpacaaGreatDoorGRest
namespace Go.Proofs.YtckamjbdogpacaaGreatDoor
open Go.RowKit
set_option linter.unusedSimpArgs false
set_option linter.unusedVariables false

set_option maxRecDepth 100000 in
set_option maxHeartbeats 1000000 in
theorem putG_neg (base : Nat) (F : Nat → Prop) (w : World) (gm L : Nat) (kd at' val : Int) (T : Nat → Int) (D : Nat → Nat → Int) (C : Nat → Int) (P : Nat → List (Nat × Int)) (E : Nat) (hM : MemG base F w gm L D C P E) (hT : Gx base w T) (hE : E ≤ 900) (hU : Up F w.heap.size) (hbase : base ≤ w.heap.size) (h64 : at' ≤ 9223372036854775807) (h0 : at' < 0) :
    Calls Tryz.prog 44 #[.pointer (some ⟨gm, 0, none⟩), .int .i64 kd, .int .i64 at', .int .i64 val, .func (.func 45) #[.pointer (some ⟨gm, 0, none⟩)] #[]] w (CallW base F w gm L (E + 2)) := by
  obtain ⟨gl0, A0, c0, m0, hL200⟩ : ∃ (gl0 : Nat) (A0 : Option Addr) (c0 : Nat), w.cell? ⟨gm, 0, none⟩ = some (.slice (some ⟨gl0, 0, none⟩) L L) ∧ L ≤ 200 := by
    obtain ⟨gl, gb, cur, sp, Ae, ne, ce, xs, es, ck, _, _, _, hL200, hG, -⟩ := hM
    have m0 := hG.cell 0
    simp only [List.getElem?_toArray, List.getElem?_cons_zero] at m0
    exact ⟨gl, none, 0, m0, hL200⟩
  have HSAME : Hid (∀ w', Below w.heap.size w w' → MemW base F w' gm L (E + 2) ∧ GrewF base F w w') := fun w' hb => ⟨MemW.mono ⟨D, C, P, hM.below hb⟩ (by omega), GrewF.of_below hb⟩
  clear hM hT hU
  go_enter Tryz.func44, Tryz.ntmps44
  go_wp2_with fail
  go_ret
  exact ⟨⟨_, rfl⟩, HSAME.out _ (by (repeat (first | with_reducible exact Below.refl _ _ | with_reducible assumption | with_reducible refine below_drewN ?_ _ | with_reducible refine Below.drew ?_ | with_reducible refine Below.alloc ?_ (by first | omega | (simp; omega) | simp) _ | with_reducible refine Below.setCell ?_ (by first | omega | (simp; omega) | simp) _)))⟩

set_option maxRecDepth 100000 in
set_option maxHeartbeats 1000000 in
theorem putG_far (base : Nat) (F : Nat → Prop) (w : World) (gm L : Nat) (kd at' val : Int) (T : Nat → Int) (D : Nat → Nat → Int) (C : Nat → Int) (P : Nat → List (Nat × Int)) (E : Nat) (hM : MemG base F w gm L D C P E) (hT : Gx base w T) (hE : E ≤ 900) (hU : Up F w.heap.size) (hbase : base ≤ w.heap.size) (h64 : at' ≤ 9223372036854775807) (n : Nat) (hn8 : at' / 8 = n) (tq : at'.tdiv 8 = (n : Int)) (h0' : 0 ≤ at') (hn : ¬ n < L) :
    Calls Tryz.prog 44 #[.pointer (some ⟨gm, 0, none⟩), .int .i64 kd, .int .i64 at', .int .i64 val, .func (.func 45) #[.pointer (some ⟨gm, 0, none⟩)] #[]] w (CallW base F w gm L (E + 2)) := by
  obtain ⟨gl0, A0, c0, m0, hL200⟩ : ∃ (gl0 : Nat) (A0 : Option Addr) (c0 : Nat), w.cell? ⟨gm, 0, none⟩ = some (.slice (some ⟨gl0, 0, none⟩) L L) ∧ L ≤ 200 := by
    obtain ⟨gl, gb, cur, sp, Ae, ne, ce, xs, es, ck, _, _, _, hL200, hG, -⟩ := hM
    have m0 := hG.cell 0
    simp only [List.getElem?_toArray, List.getElem?_cons_zero] at m0
    exact ⟨gl, none, 0, m0, hL200⟩
  have HSAME : Hid (∀ w', Below w.heap.size w w' → MemW base F w' gm L (E + 2) ∧ GrewF base F w w') := fun w' hb => ⟨MemW.mono ⟨D, C, P, hM.below hb⟩ (by omega), GrewF.of_below hb⟩
  have hhas : hasB (n : Int) L = false := by simp [hasB]; omega
  have hn64 : (n : Int) ≤ 1152921504606846975 := by omega
  clear hM hT hU hn hn8
  go_enter Tryz.func44, Tryz.ntmps44
  go_wp2_with fail
  refine (has_calls _ gm L (n : Int) _ _ m0 hL200).mono ?_
  rintro e w1 ⟨rfl, rfl⟩
  rw [hhas]
  go_wp2_with fail
  go_ret
  exact ⟨⟨_, rfl⟩, HSAME.out _ (by (repeat (first | with_reducible exact Below.refl _ _ | with_reducible assumption | with_reducible refine below_drewN ?_ _ | with_reducible refine Below.drew ?_ | with_reducible refine Below.alloc ?_ (by first | omega | (simp; omega) | simp) _ | with_reducible refine Below.setCell ?_ (by first | omega | (simp; omega) | simp) _)))⟩

set_option maxRecDepth 100000 in
set_option maxHeartbeats 1000000 in
theorem putG_bad (base : Nat) (F : Nat → Prop) (w : World) (gm L : Nat) (kd at' val : Int) (T : Nat → Int) (D : Nat → Nat → Int) (C : Nat → Int) (P : Nat → List (Nat × Int)) (E : Nat) (hM : MemG base F w gm L D C P E) (hT : Gx base w T) (hE : E ≤ 900) (hU : Up F w.heap.size) (hbase : base ≤ w.heap.size) (h64 : at' ≤ 9223372036854775807) (n : Nat) (hn8 : at' / 8 = n) (tq : at'.tdiv 8 = (n : Int)) (h0' : 0 ≤ at') (hn : n < L) (hv : wordB val = false) :
    Calls Tryz.prog 44 #[.pointer (some ⟨gm, 0, none⟩), .int .i64 kd, .int .i64 at', .int .i64 val, .func (.func 45) #[.pointer (some ⟨gm, 0, none⟩)] #[]] w (CallW base F w gm L (E + 2)) := by
  obtain ⟨gl0, A0, c0, m0, hL200⟩ : ∃ (gl0 : Nat) (A0 : Option Addr) (c0 : Nat), w.cell? ⟨gm, 0, none⟩ = some (.slice (some ⟨gl0, 0, none⟩) L L) ∧ L ≤ 200 := by
    obtain ⟨gl, gb, cur, sp, Ae, ne, ce, xs, es, ck, _, _, _, hL200, hG, -⟩ := hM
    have m0 := hG.cell 0
    simp only [List.getElem?_toArray, List.getElem?_cons_zero] at m0
    exact ⟨gl, none, 0, m0, hL200⟩
  have HSAME : Hid (∀ w', Below w.heap.size w w' → MemW base F w' gm L (E + 2) ∧ GrewF base F w w') := fun w' hb => ⟨MemW.mono ⟨D, C, P, hM.below hb⟩ (by omega), GrewF.of_below hb⟩
  have hhas : hasB (n : Int) L = true := by simp [hasB]; omega
  clear hM hT hU
  go_enter Tryz.func44, Tryz.ntmps44
  go_wp2_with fail
  refine (has_calls _ gm L (n : Int) _ _ m0 hL200).mono ?_
  rintro e w1 ⟨rfl, rfl⟩
  rw [hhas]
  go_wp2_with fail
  refine (mword_calls _ val).mono ?_
  rintro e w1 ⟨rfl, rfl⟩
  rw [hv]
  go_wp2_with fail
  go_ret
  exact ⟨⟨_, rfl⟩, HSAME.out _ (by (repeat (first | with_reducible exact Below.refl _ _ | with_reducible assumption | with_reducible refine below_drewN ?_ _ | with_reducible refine Below.drew ?_ | with_reducible refine Below.alloc ?_ (by first | omega | (simp; omega) | simp) _ | with_reducible refine Below.setCell ?_ (by first | omega | (simp; omega) | simp) _)))⟩

set_option maxRecDepth 100000 in
set_option maxHeartbeats 4000000 in
theorem putG_in (base : Nat) (F : Nat → Prop) (w : World) (gm L : Nat) (kd at' val : Int) (T : Nat → Int) (D : Nat → Nat → Int) (C : Nat → Int) (P : Nat → List (Nat × Int)) (E : Nat) (hM : MemG base F w gm L D C P E) (hT : Gx base w T) (hE : E ≤ 900) (hU : Up F w.heap.size) (hbase : base ≤ w.heap.size) (h64 : at' ≤ 9223372036854775807) (n r : Nat) (hn8 : at' / 8 = n) (hr : at' % 8 = r) (hr8 : r < 8) (tq : at'.tdiv 8 = (n : Int)) (tm : at'.tmod 8 = (r : Int)) (h0' : 0 ≤ at') (hn : n < L) (hv : wordB val = true) :
    Calls Tryz.prog 44 #[.pointer (some ⟨gm, 0, none⟩), .int .i64 kd, .int .i64 at', .int .i64 val, .func (.func 45) #[.pointer (some ⟨gm, 0, none⟩)] #[]] w (CallW base F w gm L (E + 2)) := by
  obtain ⟨i0, hi0, hz0, hz1, hz2⟩ := info_parts st_info
  obtain ⟨gl0, A0, c0, m0, hL200⟩ : ∃ (gl0 : Nat) (A0 : Option Addr) (c0 : Nat), w.cell? ⟨gm, 0, none⟩ = some (.slice (some ⟨gl0, 0, none⟩) L L) ∧ L ≤ 200 := by
    obtain ⟨gl, gb, cur, sp, Ae, ne, ce, xs, es, ck, _, _, _, hL200, hG, -⟩ := hM
    have m0 := hG.cell 0
    simp only [List.getElem?_toArray, List.getElem?_cons_zero] at m0
    exact ⟨gl, none, 0, m0, hL200⟩
  have HSAME : Hid (∀ w', Below w.heap.size w w' → MemW base F w' gm L (E + 2) ∧ GrewF base F w w') := fun w' hb => ⟨MemW.mono ⟨D, C, P, hM.below hb⟩ (by omega), GrewF.of_below hb⟩
  have hhas : hasB (n : Int) L = true := by simp [hasB]; omega
  have HU := Lib.hid hU
  clear hU
  have hvi : 0 ≤ val ∧ val ≤ 1099511627775 := by simpa [wordB] using hv
  have ni0 : (0 : Int) ≤ (n : Int) := by omega
  have ni1 : (n : Int) < (L : Int) := by omega
  go_enter Tryz.func44, Tryz.ntmps44
  go_wp2_with fail
  refine (has_calls _ gm L (n : Int) _ _ m0 hL200).mono ?_
  rintro e w1 ⟨rfl, rfl⟩
  rw [hhas]
  go_wp2_with fail
  refine (mword_calls _ val).mono ?_
  rintro e w1 ⟨rfl, rfl⟩
  rw [hv]
  go_wp2_with fail
  refine (stateG_calls base F _ gm L n T D C P E hM hT.1 hT.2.1 hn).mono ?_
  rintro e w2 ⟨⟨st, rfl⟩, hb2⟩
  by_cases hst : st = 2
  · have bst : (st == 2) = true := by simp [hst]
    clear hst hM hT tm
    go_wp2_with fail
    go_ret
    exact ⟨⟨_, rfl⟩, HSAME.out _ hb2⟩
  · have bst : (st == 2) = false := by simp [hst]
    clear hst HSAME
    have hM2 := hM.below hb2
    have HU2 := Lib.hid (HU.out.mono hb2.size)
    have hbase2 : base ≤ w2.heap.size := Nat.le_trans hbase hb2.size
    clear m0 hM hT
    obtain ⟨gl, gb, cur, sp, Ae, ne, ce, xs, es, ck, g1, g2, g3, _, hG, hLn, hZ, hP, hA, hEv, hne, hB, hK⟩ := hM2
    obtain ⟨v, m, hv', hmk, hmm, hrow, hl, hxs⟩ := hP n hn
    obtain ⟨Av, cv, rfl⟩ := (Rd.own hrow).form
    have m0 := hG.cell 0
    have m1 := hG.cell 1
    have m2 := hG.cell 2
    simp only [List.getElem?_toArray, List.getElem?_cons_succ, List.getElem?_cons_zero] at m0 m1 m2
    have l9 := (hLn.cell (n * 11 + 9)).trans hv'
    have f9 := hLn.free (n * 11 + 9)
    have hgl := hLn.lt
    have hgm := hG.lt
    have al : some gl ≠ (Value.slice Av (P n).length cv).ownBlock := own_ne hrow hLn (by decide)
    have ag : some gm ≠ (Value.slice Av (P n).length cv).ownBlock := own_ne hrow hG (by decide)
    have HP := Lib.hid hP
    have HZ := Lib.hid hZ
    have HA := Lib.hid hA
    have HK := Lib.hid hK
    have HB := Lib.hid hB
    have HV := Lib.hid hv'
    have HMK := Lib.hid hmk
    have HXS := Lib.hid hxs
    have HMM := Lib.hid hmm
    clear hP hZ hA hK hB hv' hmk hxs hmm
    go_upto_region 2 with (fail)
    go_cut [] (fun wx => StoreG base F w2 gm L D C (upd P n (r, val)) (E + 1) wx)
    case first =>
      go_region_law
        ((refine step_append_lies _ (by rfl) _ _ _ (by rfl) base 137 i0 _ 2 16 Tryz.underlying86 hi0 hz0 hz1 hz2 rfl (by omega) (.slice Av (P n).length cv) (P n).length (stCells (P n)) (by rfl) ((hrow.alloc _).drew)
            ⟨w2.heap.size, 0, none⟩ 1 1 [.int .i64 (r : Int), .int .i64 val] (by rfl) (by rfl) (World.news_of_block (cs := #[.int .i64 (r : Int), .int .i64 val]) (t := 137) (fr := (0, 0)) (heap_alloc_new w2 _)) (by simp [Value.oneCell'])
            (by omega) (by unfold maxLen; omega) (by omega) (by simp; omega) (w2.heap.size + 1) (by simp) ?_; intro gg cap w3 hown1 hgrow hat hlt3; (have hGw := Cl.grown ((hG.alloc _).drew) hgrow ag); (have hLw := Cl.grown ((hLn.alloc _).drew) hgrow al); (have c0w : w3.cell? ⟨gm, 0, none⟩ = some (.slice (some ⟨gl, 0, none⟩) L L) := hGw.cell 0); (have c9w := (hLw.cell (n * 11 + 9)).trans HV.out); (have f9w := hLw.free (n * 11 + 9))))
      all_goals
        go_wp2_with fail
        go_meet
        exact storedG (x := (r, val)) g1 g2 g3 hL200 hG hLn HZ.out HP.out HA.out hEv hne HB.out HK.out hn HV.out HMK.out HMM.out HXS.out hr8 hvi.1 hvi.2 hrow (by omega) (by (repeat (first | with_reducible exact Below.refl _ _ | with_reducible assumption | with_reducible refine below_drewN ?_ _ | with_reducible refine Below.drew ?_ | with_reducible refine Below.alloc ?_ (by first | omega | (simp; omega) | simp) _ | with_reducible refine Below.setCell ?_ (by first | omega | (simp; omega) | simp) _))) hgrow hown1 (hat.imp id (fun h => by omega)) HU2.out
    case rest =>
      obtain ⟨hM3, hgr3⟩ := hcut
      obtain ⟨w3, hw3⟩ : ∃ x : World, x = wc := ⟨_, rfl⟩
      subst hw3
      have hg03 : GrewF base F w w3 := (GrewF.of_below hb2).trans hgr3
      clear hgr3 hb2 hG hLn hEv HP HZ HA HK HB HV HMK HXS HMM hrow m0 m1 m2 l9 f9 hgl hgm al ag
      obtain ⟨gl, gb, cur, sp, Ae, ne, ce, xs, es, ck, g1, g2, g3, _, hG, hLn, hZ, hP, hA, hEv, hne, hB, hK⟩ := hM3
      obtain ⟨es', ck', w4, hrun, hB', hK', o1, o2, o3, o4, o5, -⟩ := run_busyG n hn hB hK
      obtain ⟨hM4, hgr4⟩ := busiedG g1 g2 g3 hL200 hG hLn hZ hP hA hEv hne hB hB' hK' o1 o2 o3 o4 o5
      have hg04 := hg03.trans hgr4
      have m1 := hG.cell 1
      have m2 := (o5 gm (by rintro rfl; have := hG; unfold Cl at this; rw [hB] at this; cases this)).trans hG
      have m2' : w4.cell? ⟨gm, 2, none⟩ = some (.int .i64 sp) := Cl.cell (w := w4) (t := 92) m2 2
      simp only [List.getElem?_toArray, List.getElem?_cons_succ, List.getElem?_cons_zero] at m1
      have HM4 := Lib.hid hM4
      have HU4 := Lib.hid (HU.out.mono hg04.size)
      clear hP hZ hA hK hB hK' hB' o1 o2 o3 o4 o5 hEv hG hLn hM4 hgr4 hg03 m2
      go_wp2_with fail
      refine (noteG0_calls base F _ gm L D C (upd P n (r, val)) (E + 1) HM4.out (by omega) (HU4.out) _ _ _ _).mono ?_
      rintro e w5 ⟨rfl, hM5, hgr5⟩
      go_wp2_with fail
      go_ret
      exact ⟨⟨_, rfl⟩, ⟨_, _, _, hM5⟩, hg04.trans hgr5⟩

theorem putG_calls (base : Nat) (F : Nat → Prop) (w : World) (gm L : Nat) (kd at' val : Int) (T : Nat → Int) (D : Nat → Nat → Int) (C : Nat → Int) (P : Nat → List (Nat × Int)) (E : Nat) (hM : MemG base F w gm L D C P E) (hT : Gx base w T) (hE : E ≤ 900) (hU : Up F w.heap.size) (hbase : base ≤ w.heap.size) (h64 : at' ≤ 9223372036854775807) :
    Calls Tryz.prog 44 #[.pointer (some ⟨gm, 0, none⟩), .int .i64 kd, .int .i64 at', .int .i64 val, .func (.func 45) #[.pointer (some ⟨gm, 0, none⟩)] #[]] w (CallW base F w gm L (E + 2)) := by
  by_cases h0 : at' < 0
  · exact putG_neg base F w gm L kd at' val T D C P E hM hT hE hU hbase h64 h0
  · obtain ⟨n, hn8⟩ : ∃ n : Nat, at' / 8 = n := ⟨(at' / 8).toNat, by omega⟩
    obtain ⟨r, hr⟩ : ∃ r : Nat, at' % 8 = r := ⟨(at' % 8).toNat, by omega⟩
    have hr8 : r < 8 := by omega
    have tq : at'.tdiv 8 = (n : Int) := by rw [Int.tdiv_eq_ediv_of_nonneg (by omega)]; exact hn8
    have tm : at'.tmod 8 = (r : Int) := by rw [Int.tmod_eq_emod_of_nonneg (by omega)]; exact hr
    have h0' : 0 ≤ at' := by omega
    by_cases hn : n < L
    · cases hv : wordB val
      · exact putG_bad base F w gm L kd at' val T D C P E hM hT hE hU hbase h64 n hn8 tq h0' hn hv
      · exact putG_in base F w gm L kd at' val T D C P E hM hT hE hU hbase h64 n r hn8 hr hr8 tq tm h0' hn hv
    · exact putG_far base F w gm L kd at' val T D C P E hM hT hE hU hbase h64 n hn8 tq h0' hn

set_option maxRecDepth 100000 in
set_option maxHeartbeats 1000000 in
theorem storeW_calls (base : Nat) (F : Nat → Prop) (w : World) (gm L : Nat) (at' val : Int) (T : Nat → Int) (E : Nat) (hM : MemW base F w gm L E) (hT : Gx base w T) (hE : E ≤ 900) (hU : Up F w.heap.size) (hbase : base ≤ w.heap.size) (h64 : at' ≤ 9223372036854775807) :
    Calls Tryz.prog 16 #[.pointer (some ⟨gm, 0, none⟩), .int .i64 at', .int .i64 val] w (CallW base F w gm L (E + 2)) := by
  obtain ⟨D, C, P, hM⟩ := hM
  have HM := Lib.hid hM
  have HT := Lib.hid hT
  have HU := Lib.hid hU
  clear hM hT hU
  go_enter Tryz.func16, Tryz.ntmps16
  go_wp2_with fail
  refine (putG_calls base F _ gm L _ at' val T D C P E HM.out HT.out hE HU.out hbase h64).mono ?_
  rintro e w1 ⟨⟨rr, rfl⟩, hp⟩
  go_wp2_with fail
  go_ret
  exact ⟨⟨rr, rfl⟩, hp⟩
set_option maxRecDepth 100000 in
set_option maxHeartbeats 1000000 in
theorem publishW_calls (base : Nat) (F : Nat → Prop) (w : World) (gm L : Nat) (at' val : Int) (T : Nat → Int) (E : Nat) (hM : MemW base F w gm L E) (hT : Gx base w T) (hE : E ≤ 900) (hU : Up F w.heap.size) (hbase : base ≤ w.heap.size) (h64 : at' ≤ 9223372036854775807) :
    Calls Tryz.prog 25 #[.pointer (some ⟨gm, 0, none⟩), .int .i64 at', .int .i64 val] w (CallW base F w gm L (E + 2)) := by
  obtain ⟨D, C, P, hM⟩ := hM
  have HM := Lib.hid hM
  have HT := Lib.hid hT
  have HU := Lib.hid hU
  clear hM hT hU
  go_enter Tryz.func25, Tryz.ntmps25
  go_wp2_with fail
  refine (putG_calls base F _ gm L _ at' val T D C P E HM.out HT.out hE HU.out hbase h64).mono ?_
  rintro e w1 ⟨⟨rr, rfl⟩, hp⟩
  go_wp2_with fail
  go_ret
  exact ⟨⟨rr, rfl⟩, hp⟩
end Go.Proofs.YtckamjbdogpacaaGreatDoor
