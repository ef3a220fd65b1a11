/-
  The specification's memory: Evict, Fence.
  The specification's memory: Heal.
-/
import Derived.Test.YtckamjbdogpacaaGreatDoorSmD
namespace Go.Proofs.YtckamjbdogpacaaGreatDoor
open Go.RowKit
set_option linter.unusedSimpArgs false
set_option linter.unusedVariables false

set_option maxRecDepth 100000 in
set_option maxHeartbeats 400000 in
theorem ssettle_calls (G : Nat → Prop) (w : World) (gm L E n k gl0 cap0 len0 cv0 : Nat) (Av0 : Option Addr) (hM : MemS G w gm L E) (hE : E ≤ 900) (hU : Up G w.heap.size) (hn : n < L) (q0 : w.cell? ⟨gm, 0, none⟩ = some (.slice (some ⟨gl0, 0, none⟩) L cap0)) (q9 : w.cell? ⟨gl0, n * 11 + 9, none⟩ = some (.slice Av0 len0 cv0)) (hk : k ≤ len0) :
    Calls Tryz.prog 87 #[.pointer (some ⟨gm, 0, none⟩), .int .i64 (n : Int), .int .i64 (k : Int)] w (SV G w gm L E) := by
  by_cases hk0 : 0 < k
  · exact ssettle_in G w gm L E n k gl0 cap0 len0 cv0 Av0 hM hE hU hn q0 q9 hk hk0
  · obtain rfl : k = 0 := by omega
    have HS : Hid (MemS G w gm L E) := hM
    clear hM hU q0 q9
    go_enter Tryz.func87, Tryz.ntmps87
    go_wp2_with fail
    go_end0
    exact ⟨rfl, HS.out, GrewS.of_below (Below.refl _ _)⟩

set_option maxRecDepth 100000 in
set_option maxHeartbeats 2000000 in
theorem sevict_calls (G : Nat → Prop) (w : World) (gm L E : Nat) (z zk : Int) (hM : MemS G w gm L E) (hE : E ≤ 900) (hU : Up G w.heap.size) :
    Calls Tryz.prog 58 #[.pointer (some ⟨gm, 0, none⟩), .int .i64 z, .int .i64 zk] w (SR G w gm L (E + 1)) := by
  have HSAME : Hid (∀ w', Below w.heap.size w w' → MemS G w' gm L (E + 1) ∧ GrewS G w w') := fun w' hb => ⟨(hM.below hb).mono (by omega), GrewS.of_below hb⟩
  obtain ⟨gl0, cap0, q0, hL0⟩ := hM.head
  obtain ⟨i0, hi0, hz0, hz1, hz2⟩ := info_parts ev_info
  by_cases hz : 0 ≤ z ∧ z < L
  · obtain ⟨n, rfl⟩ : ∃ n : Nat, z = n := ⟨z.toNat, by omega⟩
    have hn : n < L := by omega
    have hhas : hasB (n : Int) L = true := by simp [hasB]; omega
    have ni0 : (0 : Int) ≤ (n : Int) := by omega
    have ni1 : (n : Int) < (L : Int) := by omega
    clear hz q0
    obtain ⟨gl, cap, f, c, v, ps, hLG, m0, h200, hcap, hgm, hgl, hown, hle, hst, m, l10, hmm⟩ := hM.line hn
    obtain ⟨Av, cv, rfl⟩ := (Rd.own hown).form
    have l9 := hLG.2
    have HM := Lib.hid hM
    have HU := Lib.hid hU
    clear hM hU hLG hown hst l10
    by_cases h1 : zk < 1
    · go_enter Tryz.func58, Tryz.ntmps58
      go_wp2_with fail
      refine (shas_calls _ gm L (n : Int) _ _ m0 h200).mono ?_
      rintro e w1 ⟨rfl, rfl⟩
      rw [hhas]
      go_wp2_with fail
      go_ret
      exact ⟨⟨_, rfl⟩, HSAME.out _ (by (repeat (first | with_reducible exact Below.refl _ _ | with_reducible assumption | with_reducible refine below_drewN ?_ _ | with_reducible refine Below.drew ?_ | with_reducible refine Below.alloc ?_ (by first | omega | (simp; omega) | simp) _ | with_reducible refine Below.setCell ?_ (by first | omega | (simp; omega) | simp) _)))⟩
    · by_cases h2 : zk > (ps.length : Int)
      · go_enter Tryz.func58, Tryz.ntmps58
        go_wp2_with fail
        refine (shas_calls _ gm L (n : Int) _ _ m0 h200).mono ?_
        rintro e w1 ⟨rfl, rfl⟩
        rw [hhas]
        go_wp2_with fail
        go_ret
        exact ⟨⟨_, rfl⟩, HSAME.out _ (by (repeat (first | with_reducible exact Below.refl _ _ | with_reducible assumption | with_reducible refine below_drewN ?_ _ | with_reducible refine Below.drew ?_ | with_reducible refine Below.alloc ?_ (by first | omega | (simp; omega) | simp) _ | with_reducible refine Below.setCell ?_ (by first | omega | (simp; omega) | simp) _)))⟩
      · obtain ⟨k, rfl⟩ : ∃ k : Nat, zk = k := ⟨zk.toNat, by omega⟩
        have hk : k ≤ ps.length := by omega
        go_enter Tryz.func58, Tryz.ntmps58
        go_wp2_with fail
        refine (shas_calls _ gm L (n : Int) _ _ m0 h200).mono ?_
        rintro e w1 ⟨rfl, rfl⟩
        rw [hhas]
        go_wp2_with fail
        refine (ssettle_calls G _ gm L E n k gl cap ps.length cv Av HM.out hE HU.out hn m0 l9 hk).mono ?_
        rintro e w3 ⟨rfl, hM3, hgr3⟩
        have HU3 := Lib.hid (HU.out.mono hgr3.size)
        have HGR3 := Lib.hid hgr3
        clear m0 l9 hgl hgm hgr3
        obtain ⟨gl, cap, cur, sp, Ae, ne, ce, xs, h1', h2', hS, hL, h3, hP, hEv, hne, g1, g2, g3⟩ := hM3
        have m2 := hS.cell 2
        have f2 := hS.free 2
        simp only [List.getElem?_toArray, List.getElem?_cons_succ, List.getElem?_cons_zero] at m2
        have HP := Lib.hid hP
        clear hP
        have ag : some gm ≠ (Value.slice Ae ne ce).ownBlock := own_ne hEv hS (by decide)
        have hgm := hS.lt
        go_wp2_with (at_builtin; refine wpList_append_lies _ rfl _ _ _ (by rfl) 0 111 i0 _ 12 96 Tryz.underlying90 hi0 hz0 hz1 hz2 rfl (by omega) (.slice Ae ne ce) ne xs (by rfl) (hEv.alloc _) ⟨w3.heap.size, 0, none⟩ 1 1 [.int .i64 5, .int .i64 (n : Int), .int .i64 (k : Int), .int .i64 0, .int .i64 0, .int .i64 0, .int .i64 0, .int .i64 0, .int .i64 0, .int .i64 0, .int .i64 0, .int .i64 0] (by rfl) (by rfl) (World.news_of_block (cs := #[.int .i64 5, .int .i64 (n : Int), .int .i64 (k : Int), .int .i64 0, .int .i64 0, .int .i64 0, .int .i64 0, .int .i64 0, .int .i64 0, .int .i64 0, .int .i64 0, .int .i64 0]) (t := 111) (fr := (0, 0)) (heap_alloc_new w3 _)) (by simp [Value.oneCell']) (by omega) (by unfold maxLen; omega) (by omega) (by simp) (w3.heap.size + 1) (by simp) ?_; intro gg cc w4 hown1 hgrow hat hlt; (have hGw := Cl.grown (hS.alloc _) hgrow ag); (have c2w : w4.cell? ⟨gm, 2, none⟩ = some (.slice Ae ne ce) := hGw.cell 2); (have f2w := hGw.free 2); (have lgw := hGw.lt))
        go_ret
        obtain ⟨q1, q2⟩ := MemS.ev h1' h2' hS hL h3 HP.out hne g1 g2 g3 (show Below w3.heap.size w3 _ by (repeat (first | with_reducible exact Below.refl _ _ | with_reducible assumption | with_reducible refine below_drewN ?_ _ | with_reducible refine Below.drew ?_ | with_reducible refine Below.alloc ?_ (by first | omega | (simp; omega) | simp) _ | with_reducible refine Below.setCell ?_ (by first | omega | (simp; omega) | simp) _))) (hEv.alloc _) hgrow (by rcases hat with h | h; exact g3 gg h; exact HU3.out gg (by omega)) hown1
        exact ⟨⟨_, rfl⟩, q1, HGR3.out.trans q2⟩
  · have hhas : hasB z L = false := by simp [hasB]; omega
    clear hM hU
    go_enter Tryz.func58, Tryz.ntmps58
    go_wp2_with fail
    refine (shas_calls _ gm L z _ _ q0 hL0).mono ?_
    rintro e w1 ⟨rfl, rfl⟩
    rw [hhas]
    go_wp2_with fail
    go_ret
    exact ⟨⟨_, rfl⟩, HSAME.out _ (by (repeat (first | with_reducible exact Below.refl _ _ | with_reducible assumption | with_reducible refine below_drewN ?_ _ | with_reducible refine Below.drew ?_ | with_reducible refine Below.alloc ?_ (by first | omega | (simp; omega) | simp) _ | with_reducible refine Below.setCell ?_ (by first | omega | (simp; omega) | simp) _)))⟩

def SFRel (G : Nat → Prop) (w : World) (gm L E : Nat) (v : Value) (wr : World) : Prop := ∃ k : Nat, k ≤ L ∧ v = .int .i64 (k : Int) ∧ MemS G wr gm L E ∧ GrewS G w wr
set_option maxRecDepth 100000 in
set_option maxHeartbeats 2000000 in
theorem sfence_calls (G : Nat → Prop) (w : World) (gm L E : Nat) (hM : MemS G w gm L E) (hE : E ≤ 900) (hU : Up G w.heap.size) :
    Calls Tryz.prog 57 #[.pointer (some ⟨gm, 0, none⟩)] w (SV G w gm L (E + 1)) := by
  obtain ⟨i0, hi0, hz0, hz1, hz2⟩ := info_parts ev_info
  have HREL : Hid (SFRel G w gm L E (.int .i64 0) w) := ⟨0, Nat.zero_le _, rfl, hM, GrewS.of_below (Below.refl _ _)⟩
  have HU := Lib.hid hU
  clear hM hU
  go_enter Tryz.func57, Tryz.ntmps57
  go_wp2_with fail
  go_loopw [2] (fun v wr => SFRel G w gm L E v wr) (fun v _ => L - (intOf v).toNat)
  case atStart => exact HREL.out
  case round =>
    clear HREL
    obtain ⟨n, hnL, rfl, hMr, hgr⟩ := hrel
    have HG := Lib.hid hgr
    have HUr := Lib.hid (HU.out.mono hgr.size)
    clear hgr
    by_cases hn : n < L
    · obtain ⟨gl, cap, f, c, v, ps, hLG, m0, h200, hcap, hgm, hgl, hown, hle, hst, m, l10, hmm⟩ := hMr.line hn
      obtain ⟨Av, cv, rfl⟩ := (Rd.own hown).form
      have l9 := hLG.2
      have HM := Lib.hid hMr
      have ni0 : (0 : Int) ≤ (n : Int) := by omega
      have ni1 : (n : Int) < (L : Int) := by omega
      clear hMr hLG hown hst
      go_wp2_with fail
      refine (ssettle_calls G _ gm L E n m gl cap ps.length cv Av HM.out hE HUr.out hn m0 l9 hmm).mono ?_
      rintro e w3 ⟨rfl, hM3, hgr3⟩
      have HM3 := Lib.hid hM3
      have HG3 := Lib.hid (HG.out.trans hgr3)
      clear hM3 hgr3 m0 l9 l10 hgm hgl
      go_wp2_with fail
      go_roundw
      case rel => exact ⟨n + 1, by omega, by go_num, HM3.out, HG3.out⟩
      case measure => simp [intOf]; omega
    · have hn9 : ¬ (n : Int) < (L : Int) := by omega
      obtain ⟨gl, cap, cur, sp, Ae, ne, ce, xs, h1', h2', hS, hL, h3, hP, hEv, hne, g1, g2, g3⟩ := hMr
      have m0 := hS.cell 0
      have m2 := hS.cell 2
      have f2 := hS.free 2
      simp only [List.getElem?_toArray, List.getElem?_cons_succ, List.getElem?_cons_zero] at m0 m2
      have HP := Lib.hid hP
      clear hP
      have ag : some gm ≠ (Value.slice Ae ne ce).ownBlock := own_ne hEv hS (by decide)
      have hgm := hS.lt
      go_wp2_with (at_builtin; refine wpList_append_lies _ rfl _ _ _ (by rfl) 0 111 i0 _ 12 96 Tryz.underlying90 hi0 hz0 hz1 hz2 rfl (by omega) (.slice Ae ne ce) ne xs (by rfl) (hEv.alloc _) ⟨wr.heap.size, 0, none⟩ 1 1 [.int .i64 4, .int .i64 0, .int .i64 0, .int .i64 0, .int .i64 0, .int .i64 0, .int .i64 0, .int .i64 0, .int .i64 0, .int .i64 0, .int .i64 0, .int .i64 0] (by rfl) (by rfl) (World.news_of_block (cs := #[.int .i64 4, .int .i64 0, .int .i64 0, .int .i64 0, .int .i64 0, .int .i64 0, .int .i64 0, .int .i64 0, .int .i64 0, .int .i64 0, .int .i64 0, .int .i64 0]) (t := 111) (fr := (0, 0)) (heap_alloc_new wr _)) (by simp [Value.oneCell']) (by omega) (by unfold maxLen; omega) (by omega) (by simp) (wr.heap.size + 1) (by simp) ?_; intro gg cc w4 hown1 hgrow hat hlt; (have hGw := Cl.grown (hS.alloc _) hgrow ag); (have c2w : w4.cell? ⟨gm, 2, none⟩ = some (.slice Ae ne ce) := hGw.cell 2); (have f2w := hGw.free 2); (have lgw := hGw.lt))
      go_end0
      obtain ⟨q1, q2⟩ := MemS.ev h1' h2' hS hL h3 HP.out hne g1 g2 g3 (show Below wr.heap.size wr _ by (repeat (first | with_reducible exact Below.refl _ _ | with_reducible assumption | with_reducible refine below_drewN ?_ _ | with_reducible refine Below.drew ?_ | with_reducible refine Below.alloc ?_ (by first | omega | (simp; omega) | simp) _ | with_reducible refine Below.setCell ?_ (by first | omega | (simp; omega) | simp) _))) (hEv.alloc _) hgrow (by rcases hat with h | h; exact g3 gg h; exact HUr.out gg (by omega)) hown1
      exact ⟨rfl, q1, HG.out.trans q2⟩
end Go.Proofs.YtckamjbdogpacaaGreatDoor

namespace Go.Proofs.YtckamjbdogpacaaGreatDoor
open Go.RowKit
set_option linter.unusedSimpArgs false
set_option linter.unusedVariables false

set_option maxRecDepth 100000 in
set_option maxHeartbeats 4000000 in
theorem sheal_calls (G : Nat → Prop) (w : World) (gm L E : Nat) (z : Int) (f : Nat → Int) (hM : MemS G w gm L E) (hE : E ≤ 900) (hU : Up G w.heap.size) :
    Calls Tryz.prog 59 #[.pointer (some ⟨gm, 0, none⟩), .int .i64 z, .agg #[.int .i64 (f 0), .int .i64 (f 1), .int .i64 (f 2), .int .i64 (f 3), .int .i64 (f 4), .int .i64 (f 5), .int .i64 (f 6), .int .i64 (f 7)]] w (SR G w gm L (E + 1)) := by
  have HSAME : Hid (∀ w', Below w.heap.size w w' → MemS G w' gm L (E + 1) ∧ GrewS G w w') := fun w' hb => ⟨(hM.below hb).mono (by omega), GrewS.of_below hb⟩
  obtain ⟨w0, hw0⟩ : ∃ x, x = w.alloc (.cells #[.int .i64 (f 0), .int .i64 (f 1), .int .i64 (f 2), .int .i64 (f 3), .int .i64 (f 4), .int .i64 (f 5), .int .i64 (f 6), .int .i64 (f 7)] 67) := ⟨_, rfl⟩
  have hA0 : Below w.heap.size w w0 := by rw [hw0]; (repeat (first | with_reducible exact Below.refl _ _ | with_reducible assumption | with_reducible refine below_drewN ?_ _ | with_reducible refine Below.drew ?_ | with_reducible refine Below.alloc ?_ (by first | omega | (simp; omega) | simp) _ | with_reducible refine Below.setCell ?_ (by first | omega | (simp; omega) | simp) _))
  have hX0 : Cl w0 w.heap.size 67 #[.int .i64 (f 0), .int .i64 (f 1), .int .i64 (f 2), .int .i64 (f 3), .int .i64 (f 4), .int .i64 (f 5), .int .i64 (f 6), .int .i64 (f 7)] := by rw [hw0]; exact Cl.new _ _ _
  have hM0 := hM.below hA0
  obtain ⟨gl0, cap0, q0, hL0⟩ := hM0.head
  have HM0 := Lib.hid hM0
  have HU := Lib.hid hU
  have HX0 := Lib.hid hX0
  have HA0 := Lib.hid hA0
  have HW0 := Lib.hid hw0
  clear hM0 hU hA0 hw0 hM
  by_cases hz : 0 ≤ z ∧ z < L
  · obtain ⟨n, rfl⟩ : ∃ n : Nat, z = n := ⟨z.toNat, by omega⟩
    have hn : n < L := by omega
    have hhas : hasB (n : Int) L = true := by simp [hasB]; omega
    have ni0 : (0 : Int) ≤ (n : Int) := by omega
    have ni1 : (n : Int) < (L : Int) := by omega
    clear hz
    obtain ⟨v0, v1, v2, v3, v4, v5, v6, v7⟩ := hX0.has8'
    clear hX0
    go_enter Tryz.func59, Tryz.ntmps59
    go_wp2_with fail
    rw [← HW0.out]
    refine (shas_calls _ gm L (n : Int) _ _ q0 hL0).mono ?_
    rintro e w1 ⟨rfl, rfl⟩
    rw [hhas]
    go_wp2_with fail
    refine (swords_calls _ f).mono ?_
    rintro e w2 ⟨⟨b, rfl⟩, hb2⟩
    have HB2 := Lib.hid (HA0.out.trans (hb2.mono HA0.out.size))
    cases b with
    | false =>
      go_wp2_with fail
      go_ret
      exact ⟨⟨_, rfl⟩, HSAME.out _ HB2.out⟩
    | true =>
      have hM2 := HM0.out.below hb2
      have hX2 := HX0.out.below hb2 HX0.out.lt
      obtain ⟨gl, cap, cur, sp, Ae, ne, ce, xs, h1, h2, hS, hL, h3, hP, hEv, hne, g1, g2, g3⟩ := hM2
      have HMID := Lib.hid (fun wr cd (hM : MidS w2 wr gl (setZ cur (n * 11) f cd)) => MemS.mid (n := n) h1 h2 hS hL hP hEv hne g1 g2 g3 hM (by simp [setZ, setL_size]; omega) (fun i j hi hj => by
          have hx : ∀ q, q < 11 → n * 11 + q ≠ i * 11 + j := fun q hq h => hi (by omega)
          unfold setZ
          rw [Array.getElem?_setIfInBounds_ne (hx 10 (by omega)), Array.getElem?_setIfInBounds_ne (hx 9 (by omega)), Array.getElem?_setIfInBounds_ne (hx 8 (by omega))]
          exact setL_ne _ _ _ _ (by omega)) ⟨f, cd, .slice none 0 0, 0, [], fun j hj => by
          unfold setZ
          rw [Array.getElem?_setIfInBounds_ne (by omega), Array.getElem?_setIfInBounds_ne (by omega), Array.getElem?_setIfInBounds_ne (by omega)]
          exact setL_at _ _ _ _ hj (by omega), by
          have hss := setL_size cur (n * 11) f
          unfold setZ
          rw [Array.getElem?_setIfInBounds_ne (by omega), Array.getElem?_setIfInBounds_ne (by omega)]
          exact Array.getElem?_setIfInBounds_self_of_lt (by omega), by
          have hss := setL_size cur (n * 11) f
          unfold setZ
          rw [Array.getElem?_setIfInBounds_ne (by omega)]
          exact Array.getElem?_setIfInBounds_self_of_lt (by simp; omega), by
          have hss := setL_size cur (n * 11) f
          unfold setZ
          exact Array.getElem?_setIfInBounds_self_of_lt (by simp; omega), Nat.le_refl _, World.ownsRow_nil _ _ _ _, Nat.zero_le _, (fun p hp => by cases hp), (fun b hb => by simp [Value.ownBlock] at hb)⟩)
      have m02 := hS.cell 0
      simp only [List.getElem?_toArray, List.getElem?_cons_zero] at m02
      have HLN := Lib.hid hL
      have hgl := hL.lt
      have hgm2 := hS.lt
      have ngm : gm ≠ gl := Cl.apart hS hL (by decide)
      have ngx : w.heap.size ≠ gl := Cl.apart hX2 hL (by decide)
      have HX2 := Lib.hid hX2
      have hgx := hX2.lt
      obtain ⟨x0, x1, x2, x3, x4, x5, x6, x7⟩ := hX2.has8'
      obtain ⟨u0', hu0⟩ : ∃ u, cur[n * 11]? = some u := ⟨_, Array.getElem?_eq_getElem (by omega)⟩
      obtain ⟨u1', hu1⟩ : ∃ u, cur[n * 11 + 1]? = some u := ⟨_, Array.getElem?_eq_getElem (by omega)⟩
      obtain ⟨u2', hu2⟩ : ∃ u, cur[n * 11 + 2]? = some u := ⟨_, Array.getElem?_eq_getElem (by omega)⟩
      obtain ⟨u3', hu3⟩ : ∃ u, cur[n * 11 + 3]? = some u := ⟨_, Array.getElem?_eq_getElem (by omega)⟩
      obtain ⟨u4', hu4⟩ : ∃ u, cur[n * 11 + 4]? = some u := ⟨_, Array.getElem?_eq_getElem (by omega)⟩
      obtain ⟨u5', hu5⟩ : ∃ u, cur[n * 11 + 5]? = some u := ⟨_, Array.getElem?_eq_getElem (by omega)⟩
      obtain ⟨u6', hu6⟩ : ∃ u, cur[n * 11 + 6]? = some u := ⟨_, Array.getElem?_eq_getElem (by omega)⟩
      obtain ⟨u7', hu7⟩ : ∃ u, cur[n * 11 + 7]? = some u := ⟨_, Array.getElem?_eq_getElem (by omega)⟩
      obtain ⟨u8', hu8⟩ : ∃ u, cur[n * 11 + 8]? = some u := ⟨_, Array.getElem?_eq_getElem (by omega)⟩
      obtain ⟨u9', hu9⟩ : ∃ u, cur[n * 11 + 9]? = some u := ⟨_, Array.getElem?_eq_getElem (by omega)⟩
      obtain ⟨u10', hu10⟩ : ∃ u, cur[n * 11 + 10]? = some u := ⟨_, Array.getElem?_eq_getElem (by omega)⟩
      clear hS hL hP hEv hX2 v0 v1 v2 v3 v4 v5 v6 v7 q0 hb2 g1 g2 g3
      go_upto_region 5 with (fail)
      go_cut [] (fun wx => ∃ cd, MidS w2 wx gl (setZ cur (n * 11) f cd))
      case first =>
        go_region_held3 (fun w' => w'.cell? ⟨gm, 0, none⟩ = some (.slice (some ⟨gl, 0, none⟩) L cap) ∧ w'.cell? ⟨w.heap.size, 0, none⟩ = some (.int .i64 (f 0)) ∧ w'.cell? ⟨w.heap.size, 1, none⟩ = some (.int .i64 (f 1)) ∧ w'.cell? ⟨w.heap.size, 2, none⟩ = some (.int .i64 (f 2)) ∧ w'.cell? ⟨w.heap.size, 3, none⟩ = some (.int .i64 (f 3)) ∧ w'.cell? ⟨w.heap.size, 4, none⟩ = some (.int .i64 (f 4)) ∧ w'.cell? ⟨w.heap.size, 5, none⟩ = some (.int .i64 (f 5)) ∧ w'.cell? ⟨w.heap.size, 6, none⟩ = some (.int .i64 (f 6)) ∧ w'.cell? ⟨w.heap.size, 7, none⟩ = some (.int .i64 (f 7))) (first | (go_keep; done) | exact ⟨fr11 ngm em, fr11 ngx ex0, fr11 ngx ex1, fr11 ngx ex2, fr11 ngx ex3, fr11 ngx ex4, fr11 ngx ex5, fr11 ngx ex6, fr11 ngx ex7⟩)
          (first | (go_at_call 52; refine (sencode_calls _ f).mono ?_; rintro e wa ⟨⟨cd, rfl⟩, ba0⟩; (have ba : Below w2.heap.size w2 wa := (by first | exact below_of_drew ba0 | exact ba0)); (have em := (ba.cell (p := ⟨gm, 0, none⟩) hgm2).trans m02); (have ex0 := (ba.cell (p := ⟨w.heap.size, 0, none⟩) hgx).trans x0); (have ex1 := (ba.cell (p := ⟨w.heap.size, 1, none⟩) hgx).trans x1); (have ex2 := (ba.cell (p := ⟨w.heap.size, 2, none⟩) hgx).trans x2); (have ex3 := (ba.cell (p := ⟨w.heap.size, 3, none⟩) hgx).trans x3); (have ex4 := (ba.cell (p := ⟨w.heap.size, 4, none⟩) hgx).trans x4); (have ex5 := (ba.cell (p := ⟨w.heap.size, 5, none⟩) hgx).trans x5); (have ex6 := (ba.cell (p := ⟨w.heap.size, 6, none⟩) hgx).trans x6); (have ex7 := (ba.cell (p := ⟨w.heap.size, 7, none⟩) hgx).trans x7); (have hLa := HLN.out.below ba hgl); (have ef0 := hLa.free (n * 11)); (have ef1 := hLa.free (n * 11 + 1)); (have ef2 := hLa.free (n * 11 + 2)); (have ef3 := hLa.free (n * 11 + 3)); (have ef4 := hLa.free (n * 11 + 4)); (have ef5 := hLa.free (n * 11 + 5)); (have ef6 := hLa.free (n * 11 + 6)); (have ef7 := hLa.free (n * 11 + 7)); (have ef8 := hLa.free (n * 11 + 8)); (have ef9 := hLa.free (n * 11 + 9)); (have ef10 := hLa.free (n * 11 + 10)); (have hla := hLa.lt); (have el0 := (hLa.cell (n * 11)).trans hu0); (have el1 := (hLa.cell (n * 11 + 1)).trans hu1); (have el2 := (hLa.cell (n * 11 + 2)).trans hu2); (have el3 := (hLa.cell (n * 11 + 3)).trans hu3); (have el4 := (hLa.cell (n * 11 + 4)).trans hu4); (have el5 := (hLa.cell (n * 11 + 5)).trans hu5); (have el6 := (hLa.cell (n * 11 + 6)).trans hu6); (have el7 := (hLa.cell (n * 11 + 7)).trans hu7); (have el8 := (hLa.cell (n * 11 + 8)).trans hu8); (have el9 := (hLa.cell (n * 11 + 9)).trans hu9); (have el10 := (hLa.cell (n * 11 + 10)).trans hu10); clear hLa))
        go_wp2_with fail
        go_meet
        exact ⟨cd, (((((((((((MidS.start HLN.out ba).set _ _).set _ _).set _ _).set _ _).set _ _).set _ _).set _ _).set _ _).set _ _).set _ _).set _ _⟩
      case rest =>
        obtain ⟨cd, hM3⟩ := hcut
        obtain ⟨w3, hw3⟩ : ∃ x : World, x = wc := ⟨_, rfl⟩
        subst hw3
        obtain ⟨hM3', hg3⟩ := HMID.out _ cd hM3
        have hX3 : Cl w3 w.heap.size 67 #[.int .i64 (f 0), .int .i64 (f 1), .int .i64 (f 2), .int .i64 (f 3), .int .i64 (f 4), .int .i64 (f 5), .int .i64 (f 6), .int .i64 (f 7)] := hM3.heap HX2.out ngx
        have hx3 := hX3.lt
        have HG3 := Lib.hid ((GrewS.of_below HB2.out).trans hg3)
        have HU3 := Lib.hid (HU.out.mono HG3.out.size)
        clear m02 hgl hgm2 ngx ngm hgx x0 x1 x2 x3 x4 x5 x6 x7 HMID HLN hM3 hg3 h1 h2 h3 hne hu0 hu1 hu2 hu3 hu4 hu5 hu6 hu7 hu8 hu9 hu10
        obtain ⟨gl, cap, cur, sp, Ae, ne, ce, xs, h1', h2', hS, hL, h3, hP, hEv, hne, g1, g2, g3⟩ := hM3'
        obtain ⟨i0, hi0, hz0, hz1, hz2⟩ := info_parts ev_info
        have m2 := hS.cell 2
        have f2 := hS.free 2
        simp only [List.getElem?_toArray, List.getElem?_cons_succ, List.getElem?_cons_zero] at m2
        obtain ⟨x0, x1, x2, x3, x4, x5, x6, x7⟩ := hX3.has8'
        have HP := Lib.hid hP
        clear hP hX3
        have ag : some gm ≠ (Value.slice Ae ne ce).ownBlock := own_ne hEv hS (by decide)
        have hgm := hS.lt
        go_wp2_with fail
        go_region_law
          ((refine step_append_lies _ (by rfl) _ _ _ (by rfl) 0 111 i0 _ 12 96 Tryz.underlying90 hi0 hz0 hz1 hz2 rfl (by omega) (.slice Ae ne ce) ne xs (by rfl) ((hEv.alloc _).drew)
              ⟨w3.heap.size, 0, none⟩ 1 1 [.int .i64 6, .int .i64 (n : Int), .int .i64 0, .int .i64 0, .int .i64 (f 0), .int .i64 (f 1), .int .i64 (f 2), .int .i64 (f 3), .int .i64 (f 4), .int .i64 (f 5), .int .i64 (f 6), .int .i64 (f 7)] (by rfl) (by rfl) (World.news_of_block (cs := #[.int .i64 6, .int .i64 (n : Int), .int .i64 0, .int .i64 0, .int .i64 (f 0), .int .i64 (f 1), .int .i64 (f 2), .int .i64 (f 3), .int .i64 (f 4), .int .i64 (f 5), .int .i64 (f 6), .int .i64 (f 7)]) (t := 111) (fr := (0, 0)) (heap_alloc_new w3 _)) (by simp [Value.oneCell'])
              (by omega) (by unfold maxLen; omega) (by omega) (by simp) (w3.heap.size + 1) (by simp) ?_; intro gg cc w6 hown1 hgrow hat hlt; (have hGw := Cl.grown ((hS.alloc _).drew) hgrow ag); (have c2w : w6.cell? ⟨gm, 2, none⟩ = some (.slice Ae ne ce) := hGw.cell 2); (have f2w := hGw.free 2); (have lgw := hGw.lt)))
        all_goals
          go_wp2_with fail
          go_ret
          obtain ⟨q1, q2⟩ := MemS.ev h1' h2' hS hL h3 HP.out hne g1 g2 g3 (show Below w3.heap.size w3 _ by (repeat (first | with_reducible exact Below.refl _ _ | with_reducible assumption | with_reducible refine below_drewN ?_ _ | with_reducible refine Below.drew ?_ | with_reducible refine Below.alloc ?_ (by first | omega | (simp; omega) | simp) _ | with_reducible refine Below.setCell ?_ (by first | omega | (simp; omega) | simp) _))) ((hEv.alloc _).drew) hgrow (by rcases hat with h | h; exact g3 gg h; exact HU3.out gg (by omega)) hown1
          exact ⟨⟨_, rfl⟩, q1, HG3.out.trans q2⟩
  · have hhas : hasB z L = false := by simp [hasB]; omega
    clear hX0
    go_enter Tryz.func59, Tryz.ntmps59
    go_wp2_with fail
    rw [← HW0.out]
    refine (shas_calls _ gm L z _ _ q0 hL0).mono ?_
    rintro e w1 ⟨rfl, rfl⟩
    rw [hhas]
    go_wp2_with fail
    go_ret
    exact ⟨⟨_, rfl⟩, HSAME.out _ HA0.out⟩
end Go.Proofs.YtckamjbdogpacaaGreatDoor
