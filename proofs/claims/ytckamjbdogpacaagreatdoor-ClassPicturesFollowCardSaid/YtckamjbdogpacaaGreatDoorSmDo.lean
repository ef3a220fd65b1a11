/-
  The specification's memory: Rot.
  The specification's memory: Do; the specification's view: Over.
-/
import Derived.Test.YtckamjbdogpacaaGreatDoorSmH
namespace Go.Proofs.YtckamjbdogpacaaGreatDoor
open Go.RowKit
set_option linter.unusedSimpArgs false
set_option linter.unusedVariables false

/-- The cells of one line. -/
def lnA (g : Nat → Int) (c : Int) (v : Value) (m : Int) : Array Value := #[.int .i64 (g 0), .int .i64 (g 1), .int .i64 (g 2), .int .i64 (g 3), .int .i64 (g 4), .int .i64 (g 5), .int .i64 (g 6), .int .i64 (g 7), .int .i64 c, v, .int .i64 m]
theorem lnA_get (g : Nat → Int) (c : Int) (v : Value) (m : Int) (k : Nat) (hk : k < 8) : (lnA g c v m)[k]? = some (.int .i64 (g k)) := by
  match k, hk with
  | 0, _ => rfl
  | 1, _ => rfl
  | 2, _ => rfl
  | 3, _ => rfl
  | 4, _ => rfl
  | 5, _ => rfl
  | 6, _ => rfl
  | 7, _ => rfl
theorem lnA_set (g : Nat → Int) (c : Int) (v : Value) (m : Int) (k : Nat) (x : Int) (hk : k < 8) : (lnA g c v m).setIfInBounds k (.int .i64 x) = lnA (setW g k x) c v m := by
  match k, hk with
  | 0, _ => rfl
  | 1, _ => rfl
  | 2, _ => rfl
  | 3, _ => rfl
  | 4, _ => rfl
  | 5, _ => rfl
  | 6, _ => rfl
  | 7, _ => rfl
theorem lnA_set8 (g : Nat → Int) (c : Int) (v : Value) (m x : Int) : (lnA g c v m).setIfInBounds 8 (.int .i64 x) = lnA g x v m := rfl
/-- A whole line is stored. -/
def setY (cur : Array Value) (b : Nat) (g : Nat → Int) (c : Int) (v : Value) (m : Int) : Array Value := (((setL cur b g).setIfInBounds (b + 8) (.int .i64 c)).setIfInBounds (b + 9) v).setIfInBounds (b + 10) (.int .i64 m)

/-- The copy of the line lies alone; its words are turned. -/
def SRotRel (w2 : World) (X : Nat) (c : Int) (v : Value) (m : Int) (i : Value) (wr : World) : Prop := ∃ k : Nat, k ≤ 8 ∧ i = .int .i64 (k : Int) ∧ ∃ g, Cl wr X 108 (lnA g c v m) ∧ Below w2.heap.size w2 wr

set_option maxRecDepth 100000 in
set_option maxHeartbeats 4000000 in
theorem srot_calls (G : Nat → Prop) (w : World) (gm L E : Nat) (z : Int) (f : Nat → Int) (bi : Int) (hM : MemS G w gm L E) (hE : E ≤ 900) (hU : Up G w.heap.size) :
    Calls Tryz.prog 60 #[.pointer (some ⟨gm, 0, none⟩), .int .i64 z, .agg #[.int .i64 (f 0), .int .i64 (f 1), .int .i64 (f 2), .int .i64 (f 3), .int .i64 (f 4), .int .i64 (f 5), .int .i64 (f 6), .int .i64 (f 7)], .int .i64 bi] w (SR G w gm L (E + 1)) := by
  have HSAME : Hid (∀ w', Below w.heap.size w w' → MemS G w' gm L (E + 1) ∧ GrewS G w w') := fun w' hb => ⟨(hM.below hb).mono (by omega), GrewS.of_below hb⟩
  obtain ⟨w0, hw0⟩ : ∃ x, x = w.alloc (.cells #[.int .i64 (f 0), .int .i64 (f 1), .int .i64 (f 2), .int .i64 (f 3), .int .i64 (f 4), .int .i64 (f 5), .int .i64 (f 6), .int .i64 (f 7)] 67) := ⟨_, rfl⟩
  have hA0 : Below w.heap.size w w0 := by rw [hw0]; (repeat (first | with_reducible exact Below.refl _ _ | with_reducible assumption | with_reducible refine below_drewN ?_ _ | with_reducible refine Below.drew ?_ | with_reducible refine Below.alloc ?_ (by first | omega | (simp; omega) | simp) _ | with_reducible refine Below.setCell ?_ (by first | omega | (simp; omega) | simp) _))
  have hX0 : Cl w0 w.heap.size 67 #[.int .i64 (f 0), .int .i64 (f 1), .int .i64 (f 2), .int .i64 (f 3), .int .i64 (f 4), .int .i64 (f 5), .int .i64 (f 6), .int .i64 (f 7)] := by rw [hw0]; exact Cl.new _ _ _
  have hM0 := hM.below hA0
  obtain ⟨gl0, cap0, q0, hL0⟩ := hM0.head
  have HM0 := Lib.hid hM0
  have HU := Lib.hid hU
  have HX0 := Lib.hid hX0
  have HA0 := Lib.hid hA0
  have HW0 := Lib.hid hw0
  clear hM0 hU hA0 hw0 hM
  by_cases hz : 0 ≤ z ∧ z < L
  · obtain ⟨n, rfl⟩ : ∃ n : Nat, z = n := ⟨z.toNat, by omega⟩
    have hn : n < L := by omega
    have hhas : hasB (n : Int) L = true := by simp [hasB]; omega
    have ni0 : (0 : Int) ≤ (n : Int) := by omega
    have ni1 : (n : Int) < (L : Int) := by omega
    clear hz
    obtain ⟨v0, v1, v2, v3, v4, v5, v6, v7⟩ := hX0.has8'
    clear hX0
    go_enter Tryz.func60, Tryz.ntmps60
    go_wp2_with fail
    rw [← HW0.out]
    refine (shas_calls _ gm L (n : Int) _ _ q0 hL0).mono ?_
    rintro e w1 ⟨rfl, rfl⟩
    rw [hhas]
    go_wp2_with fail
    refine (swords_calls _ f).mono ?_
    rintro e w2 ⟨⟨b, rfl⟩, hb2⟩
    have HB2 := Lib.hid (HA0.out.trans (hb2.mono HA0.out.size))
    cases b with
    | false =>
      go_wp2_with fail
      go_ret
      exact ⟨⟨_, rfl⟩, HSAME.out _ HB2.out⟩
    | true =>
      by_cases hb0 : bi < 0
      · go_wp2_with fail
        go_ret
        exact ⟨⟨_, rfl⟩, HSAME.out _ HB2.out⟩
      by_cases hb1 : bi > 1023
      · go_wp2_with fail
        go_ret
        exact ⟨⟨_, rfl⟩, HSAME.out _ HB2.out⟩
      have hM2 := HM0.out.below hb2
      have hX2 := HX0.out.below hb2 HX0.out.lt
      obtain ⟨gl, cap, cur, sp, Ae, ne, ce, xs, h1, h2, hS, hL, h3, hP, hEv, hne, g1, g2, g3⟩ := hM2
      obtain ⟨f0, c, v, m, ps, a, b, d, e, e1, e2, e3, e4, e5⟩ := hP n hn
      obtain ⟨Av, cv, rfl⟩ := (Rd.own e2).form
      have m02 := hS.cell 0
      simp only [List.getElem?_toArray, List.getElem?_cons_zero] at m02
      have l9 := (hL.cell (n * 11 + 9)).trans d
      have hgl := hL.lt
      have hgm2 := hS.lt
      by_cases hp0 : ps.length = 0
      · obtain rfl : ps = [] := List.eq_nil_of_length_eq_zero hp0
        simp only [List.length_nil] at l9 d e1 e2
        clear hp0
        have HMID := Lib.hid (fun wr g cd (hM : MidS w2 wr gl (setY cur (n * 11) g cd (.slice Av 0 cv) (m : Int))) => MemS.mid (n := n) h1 h2 hS hL hP hEv hne g1 g2 g3 hM (by simp [setY, setL_size]; omega) (fun i j hi hj => by
          have hx : ∀ q, q < 11 → n * 11 + q ≠ i * 11 + j := fun q hq h => hi (by omega)
          unfold setY
          rw [Array.getElem?_setIfInBounds_ne (hx 10 (by omega)), Array.getElem?_setIfInBounds_ne (hx 9 (by omega)), Array.getElem?_setIfInBounds_ne (hx 8 (by omega))]
          exact setL_ne _ _ _ _ (by omega)) ⟨g, cd, .slice Av 0 cv, m, [], fun j hj => by
          unfold setY
          rw [Array.getElem?_setIfInBounds_ne (by omega), Array.getElem?_setIfInBounds_ne (by omega), Array.getElem?_setIfInBounds_ne (by omega)]
          exact setL_at _ _ _ _ hj (by omega), by
          have hss := setL_size cur (n * 11) g
          unfold setY
          rw [Array.getElem?_setIfInBounds_ne (by omega), Array.getElem?_setIfInBounds_ne (by omega)]
          exact Array.getElem?_setIfInBounds_self_of_lt (by omega), by
          have hss := setL_size cur (n * 11) g
          unfold setY
          rw [Array.getElem?_setIfInBounds_ne (by omega)]
          exact Array.getElem?_setIfInBounds_self_of_lt (by simp; omega), by
          have hss := setL_size cur (n * 11) g
          unfold setY
          exact Array.getElem?_setIfInBounds_self_of_lt (by simp; omega), e1, hM.own hL e2 (by decide), e3, e4, e5⟩)
        have HLN := Lib.hid hL
        have ngm : gm ≠ gl := Cl.apart hS hL (by decide)
        have ngx : w.heap.size ≠ gl := Cl.apart hX2 hL (by decide)
        have HX2 := Lib.hid hX2
        have hgx := hX2.lt
        have l0 : w2.cell? ⟨gl, n * 11, none⟩ = some (.int .i64 (f0 0)) := (hL.cell (n * 11)).trans (a 0 (by omega))
        have l1 := (hL.cell (n * 11 + 1)).trans (a 1 (by omega))
        have l2 := (hL.cell (n * 11 + 2)).trans (a 2 (by omega))
        have l3 := (hL.cell (n * 11 + 3)).trans (a 3 (by omega))
        have l4 := (hL.cell (n * 11 + 4)).trans (a 4 (by omega))
        have l5 := (hL.cell (n * 11 + 5)).trans (a 5 (by omega))
        have l6 := (hL.cell (n * 11 + 6)).trans (a 6 (by omega))
        have l7 := (hL.cell (n * 11 + 7)).trans (a 7 (by omega))
        have l8 := (hL.cell (n * 11 + 8)).trans b
        have l10 := (hL.cell (n * 11 + 10)).trans e
        have hXk := fun k hk => (hX2.cell k).trans (w8_get f k hk)
        have HXK := Lib.hid hXk
        obtain ⟨u0', hu0⟩ : ∃ u, cur[n * 11]? = some u := ⟨_, Array.getElem?_eq_getElem (by omega)⟩
        obtain ⟨u1', hu1⟩ : ∃ u, cur[n * 11 + 1]? = some u := ⟨_, Array.getElem?_eq_getElem (by omega)⟩
        obtain ⟨u2', hu2⟩ : ∃ u, cur[n * 11 + 2]? = some u := ⟨_, Array.getElem?_eq_getElem (by omega)⟩
        obtain ⟨u3', hu3⟩ : ∃ u, cur[n * 11 + 3]? = some u := ⟨_, Array.getElem?_eq_getElem (by omega)⟩
        obtain ⟨u4', hu4⟩ : ∃ u, cur[n * 11 + 4]? = some u := ⟨_, Array.getElem?_eq_getElem (by omega)⟩
        obtain ⟨u5', hu5⟩ : ∃ u, cur[n * 11 + 5]? = some u := ⟨_, Array.getElem?_eq_getElem (by omega)⟩
        obtain ⟨u6', hu6⟩ : ∃ u, cur[n * 11 + 6]? = some u := ⟨_, Array.getElem?_eq_getElem (by omega)⟩
        obtain ⟨u7', hu7⟩ : ∃ u, cur[n * 11 + 7]? = some u := ⟨_, Array.getElem?_eq_getElem (by omega)⟩
        obtain ⟨u8', hu8⟩ : ∃ u, cur[n * 11 + 8]? = some u := ⟨_, Array.getElem?_eq_getElem (by omega)⟩
        obtain ⟨u9', hu9⟩ : ∃ u, cur[n * 11 + 9]? = some u := ⟨_, Array.getElem?_eq_getElem (by omega)⟩
        obtain ⟨u10', hu10⟩ : ∃ u, cur[n * 11 + 10]? = some u := ⟨_, Array.getElem?_eq_getElem (by omega)⟩
        clear hS hL hP hEv hX2 v0 v1 v2 v3 v4 v5 v6 v7 q0 hb2 g1 g2 g3 a b d e e1 e2 e3 e4 e5 hXk
        go_wp2_with fail
        go_loopw [10] (fun i wr => SRotRel w2 w2.heap.size c (.slice Av 0 cv) (m : Int) i wr) (fun i _ => 8 - (intOf i).toNat)
        case atStart => exact ⟨0, by omega, rfl, f0, Cl.new _ _ _, by (repeat (first | with_reducible exact Below.refl _ _ | with_reducible assumption | with_reducible refine below_drewN ?_ _ | with_reducible refine Below.drew ?_ | with_reducible refine Below.alloc ?_ (by first | omega | (simp; omega) | simp) _ | with_reducible refine Below.setCell ?_ (by first | omega | (simp; omega) | simp) _))⟩
        case round =>
          obtain ⟨k, hk, rfl, g, hC, hbr⟩ := hrel
          have hcl := hC.lt
          have hbrs := hbr.size
          by_cases hlt : k < 8
          · have ki0 : (0 : Int) ≤ (k : Int) := by omega
            have ki1 : (k : Int) < 8 := by omega
            have eg := (hC.cell k).trans (lnA_get _ _ _ _ k hlt)
            have ef := hC.free k
            have ex := (hbr.cell (p := ⟨w.heap.size, k, none⟩) hgx).trans (HXK.out k hlt)
            have hxl : w.heap.size < wr.heap.size := by omega
            have HNEW : Hid (Cl (wr.setCell ⟨w2.heap.size, k, none⟩ (.int .i64 (bits .xor .i64 (g k) (f k)))) w2.heap.size 108 (lnA (setW g k (bits .xor .i64 (g k) (f k))) c (.slice Av 0 cv) (m : Int)) ∧ Below w2.heap.size w2 (wr.setCell ⟨w2.heap.size, k, none⟩ (.int .i64 (bits .xor .i64 (g k) (f k))))) := ⟨by rw [← lnA_set _ _ _ _ _ _ hlt]; exact hC.set_ _ _, by (repeat (first | with_reducible exact Below.refl _ _ | with_reducible assumption | with_reducible refine below_drewN ?_ _ | with_reducible refine Below.drew ?_ | with_reducible refine Below.alloc ?_ (by first | omega | (simp; omega) | simp) _ | with_reducible refine Below.setCell ?_ (by first | omega | (simp; omega) | simp) _))⟩
            clear hC hbr HMID l0 l1 l2 l3 l4 l5 l6 l7 l8 l9 l10 m02
            go_wp2_with fail
            go_region
            go_wp2_with fail
            go_roundw
            case rel => exact ⟨k + 1, by omega, by go_num, _, HNEW.out.1.below (by (repeat (first | with_reducible exact Below.refl _ _ | with_reducible assumption | with_reducible refine below_drewN ?_ _ | with_reducible refine Below.drew ?_ | with_reducible refine Below.alloc ?_ (by first | omega | (simp; omega) | simp) _ | with_reducible refine Below.setCell ?_ (by first | omega | (simp; omega) | simp) _))) HNEW.out.1.lt, HNEW.out.2.trans (by (repeat (first | with_reducible exact Below.refl _ _ | with_reducible assumption | with_reducible refine below_drewN ?_ _ | with_reducible refine Below.drew ?_ | with_reducible refine Below.alloc ?_ (by first | omega | (simp; omega) | simp) _ | with_reducible refine Below.setCell ?_ (by first | omega | (simp; omega) | simp) _)))⟩
            case measure => simp [intOf]; omega
          · obtain rfl : k = 8 := by omega
            have k9 : ¬ (8 : Int) < 8 := by omega
            have y8 := hC.cell 8
            have fy := hC.free 8
            simp only [lnA, List.getElem?_toArray, List.getElem?_cons_succ, List.getElem?_cons_zero] at y8
            have em := (hbr.cell (p := ⟨gm, 0, none⟩) hgm2).trans m02
            have ngX : ¬ w2.heap.size = gl := by omega
            have ngX' : ¬ gl = w2.heap.size := by omega
            have ngY : ¬ gm = w2.heap.size := by omega
            have ngZ : ¬ w.heap.size = w2.heap.size := by omega
            obtain ⟨cd, hcd⟩ : ∃ cd, cd = bits .xor .i64 c bi := ⟨_, rfl⟩
            obtain ⟨ws, hws⟩ : ∃ ws, ws = wr.setCell ⟨w2.heap.size, 8, none⟩ (.int .i64 (bits .xor .i64 c bi)) := ⟨_, rfl⟩
            have hCs : Cl ws w2.heap.size 108 (lnA g cd (.slice Av 0 cv) (m : Int)) := by rw [hws, ← hcd, ← lnA_set8]; exact hC.set_ _ _
            have HBR : Hid (Below w2.heap.size w2 ws) := by show Below _ _ _; rw [hws]; exact Below.setCell hbr (Nat.le_refl _) _
            have hls := hCs.lt
            have ems := (HBR.out.cell (p := ⟨gm, 0, none⟩) hgm2).trans m02
            have HCD := Lib.hid hcd
            have HWS := Lib.hid hws
            have hLa := HLN.out.below HBR.out hgl
            have hla := hLa.lt
            have z0 := hCs.cell 0
            have z1 := hCs.cell 1
            have z2 := hCs.cell 2
            have z3 := hCs.cell 3
            have z4 := hCs.cell 4
            have z5 := hCs.cell 5
            have z6 := hCs.cell 6
            have z7 := hCs.cell 7
            have z8 := hCs.cell 8
            have z9 := hCs.cell 9
            have z10 := hCs.cell 10
            simp only [lnA, List.getElem?_toArray, List.getElem?_cons_succ, List.getElem?_cons_zero] at z0 z1 z2 z3 z4 z5 z6 z7 z8 z9 z10
            have ef0 := hLa.free (n * 11)
            have ef1 := hLa.free (n * 11 + 1)
            have ef2 := hLa.free (n * 11 + 2)
            have ef3 := hLa.free (n * 11 + 3)
            have ef4 := hLa.free (n * 11 + 4)
            have ef5 := hLa.free (n * 11 + 5)
            have ef6 := hLa.free (n * 11 + 6)
            have ef7 := hLa.free (n * 11 + 7)
            have ef8 := hLa.free (n * 11 + 8)
            have ef9 := hLa.free (n * 11 + 9)
            have ef10 := hLa.free (n * 11 + 10)
            have el0 := (hLa.cell (n * 11)).trans hu0
            have el1 := (hLa.cell (n * 11 + 1)).trans hu1
            have el2 := (hLa.cell (n * 11 + 2)).trans hu2
            have el3 := (hLa.cell (n * 11 + 3)).trans hu3
            have el4 := (hLa.cell (n * 11 + 4)).trans hu4
            have el5 := (hLa.cell (n * 11 + 5)).trans hu5
            have el6 := (hLa.cell (n * 11 + 6)).trans hu6
            have el7 := (hLa.cell (n * 11 + 7)).trans hu7
            have el8 := (hLa.cell (n * 11 + 8)).trans hu8
            have el9 := (hLa.cell (n * 11 + 9)).trans hu9
            have el10 := (hLa.cell (n * 11 + 10)).trans hu10
            clear hLa hCs hcd hws hC hbr l0 l1 l2 l3 l4 l5 l6 l7 l8 l9 l10 m02
            go_upto_region 13 with (fail)
            simp only [← HWS.out]
            go_cut [] (fun wx => MidS w2 wx gl (setY cur (n * 11) g cd (.slice Av 0 cv) (m : Int)))
            case first =>
              go_region
              go_wp2_with fail
              go_meet
              exact MidS.below ((((((((((((MidS.start HLN.out HBR.out).set _ _).set _ _).set _ _).set _ _).set _ _).set _ _).set _ _).set _ _).set _ _).set _ _).set _ _) (by (repeat (first | with_reducible exact Below.refl _ _ | with_reducible assumption | with_reducible refine below_drewN ?_ _ | with_reducible refine Below.drew ?_ | with_reducible refine Below.alloc ?_ (by first | omega | (simp; omega) | simp) _ | with_reducible refine Below.setCell ?_ (by first | omega | (simp; omega) | simp) _)))
            case rest =>
              have hM3 := hcut
              clear hcut
              obtain ⟨w3, hw3⟩ : ∃ x : World, x = wc := ⟨_, rfl⟩
              subst hw3
              obtain ⟨hM3', hg3⟩ := HMID.out _ g cd hM3
              have hX3 : Cl w3 w.heap.size 67 #[.int .i64 (f 0), .int .i64 (f 1), .int .i64 (f 2), .int .i64 (f 3), .int .i64 (f 4), .int .i64 (f 5), .int .i64 (f 6), .int .i64 (f 7)] := hM3.heap HX2.out ngx
              have hx3 := hX3.lt
              have HG3 := Lib.hid ((GrewS.of_below HB2.out).trans hg3)
              have HU3 := Lib.hid (HU.out.mono HG3.out.size)
              clear hM3 hg3 HMID HLN HX2 HXK h1 h2 h3 hne hu0 hu1 hu2 hu3 hu4 hu5 hu6 hu7 hu8 hu9 hu10 ngx ngm hgl hgm2 hgx em ems y8 fy z0 z1 z2 z3 z4 z5 z6 z7 z8 z9 z10 ef0 ef1 ef2 ef3 ef4 ef5 ef6 ef7 ef8 ef9 ef10 el0 el1 el2 el3 el4 el5 el6 el7 el8 el9 el10 hla hls ngX ngX' ngY ngZ hcl hbrs
              obtain ⟨gl, cap, cur, sp, Ae, ne, ce, xs, h1', h2', hS, hL, h3, hP, hEv, hne, g1, g2, g3⟩ := hM3'
              obtain ⟨i0, hi0, hz0, hz1, hz2⟩ := info_parts ev_info
              have m2 := hS.cell 2
              have f2 := hS.free 2
              simp only [List.getElem?_toArray, List.getElem?_cons_succ, List.getElem?_cons_zero] at m2
              obtain ⟨x0, x1, x2, x3, x4, x5, x6, x7⟩ := hX3.has8'
              have HP := Lib.hid hP
              clear hP hX3
              have ag : some gm ≠ (Value.slice Ae ne ce).ownBlock := own_ne hEv hS (by decide)
              have hgm := hS.lt
              go_wp2_with fail
              go_region_law
                ((refine step_append_lies _ (by rfl) _ _ _ (by rfl) 0 111 i0 _ 12 96 Tryz.underlying90 hi0 hz0 hz1 hz2 rfl (by omega) (.slice Ae ne ce) ne xs (by rfl) ((hEv.alloc _).drew)
                    ⟨w3.heap.size, 0, none⟩ 1 1 [.int .i64 7, .int .i64 (n : Int), .int .i64 bi, .int .i64 0, .int .i64 (f 0), .int .i64 (f 1), .int .i64 (f 2), .int .i64 (f 3), .int .i64 (f 4), .int .i64 (f 5), .int .i64 (f 6), .int .i64 (f 7)] (by rfl) (by rfl) (World.news_of_block (cs := #[.int .i64 7, .int .i64 (n : Int), .int .i64 bi, .int .i64 0, .int .i64 (f 0), .int .i64 (f 1), .int .i64 (f 2), .int .i64 (f 3), .int .i64 (f 4), .int .i64 (f 5), .int .i64 (f 6), .int .i64 (f 7)]) (t := 111) (fr := (0, 0)) (heap_alloc_new w3 _)) (by simp [Value.oneCell'])
                    (by omega) (by unfold maxLen; omega) (by omega) (by simp) (w3.heap.size + 1) (by simp) ?_; intro gg cc w6 hown1 hgrow hat hlt; (have hGw := Cl.grown ((hS.alloc _).drew) hgrow ag); (have c2w : w6.cell? ⟨gm, 2, none⟩ = some (.slice Ae ne ce) := hGw.cell 2); (have f2w := hGw.free 2); (have lgw := hGw.lt)))
              all_goals
                go_wp2_with fail
                go_ret
                obtain ⟨q1, q2⟩ := MemS.ev h1' h2' hS hL h3 HP.out hne g1 g2 g3 (show Below w3.heap.size w3 _ by (repeat (first | with_reducible exact Below.refl _ _ | with_reducible assumption | with_reducible refine below_drewN ?_ _ | with_reducible refine Below.drew ?_ | with_reducible refine Below.alloc ?_ (by first | omega | (simp; omega) | simp) _ | with_reducible refine Below.setCell ?_ (by first | omega | (simp; omega) | simp) _))) ((hEv.alloc _).drew) hgrow (by rcases hat with h | h; exact g3 gg h; exact HU3.out gg (by omega)) hown1
                exact ⟨⟨_, rfl⟩, q1, HG3.out.trans q2⟩
      · have hp1 : (0 : Int) < (ps.length : Int) := by omega
        clear hS hL hP hEv hX2 v0 v1 v2 v3 v4 v5 v6 v7 q0 g1 g2 g3 a b d e e1 e2 e3 e4 e5
        go_wp2_with fail
        go_ret
        exact ⟨⟨_, rfl⟩, HSAME.out _ HB2.out⟩
  · have hhas : hasB z L = false := by simp [hasB]; omega
    clear hX0
    go_enter Tryz.func60, Tryz.ntmps60
    go_wp2_with fail
    rw [← HW0.out]
    refine (shas_calls _ gm L z _ _ q0 hL0).mono ?_
    rintro e w1 ⟨rfl, rfl⟩
    rw [hhas]
    go_wp2_with fail
    go_ret
    exact ⟨⟨_, rfl⟩, HSAME.out _ HA0.out⟩
end Go.Proofs.YtckamjbdogpacaaGreatDoor

namespace Go.Proofs.YtckamjbdogpacaaGreatDoor
open Go.RowKit
set_option linter.unusedSimpArgs false
set_option linter.unusedVariables false

def DoPost (G : Nat → Prop) (w : World) (gs L E : Nat) (e : Ending) (w' : World) : Prop := (∃ r er : Int, e = .returned (.tuple #[.int .i64 r, .int .i64 er])) ∧ MemS G w' gs L E ∧ GrewS G w w'
theorem doP_r {G : Nat → Prop} {w w0 w' : World} {gs L E E' : Nat} {e : Ending} (hA : Below w.heap.size w w0) (h : SR G w0 gs L E e w') (hE : E ≤ E') : MemS G w' gs L E' ∧ GrewS G w w' := ⟨h.2.1.mono hE, (GrewS.of_below hA).trans h.2.2⟩
theorem doP_v {G : Nat → Prop} {w w0 w' : World} {gs L E E' : Nat} {e : Ending} (hA : Below w.heap.size w w0) (h : SV G w0 gs L E e w') (hE : E ≤ E') : MemS G w' gs L E' ∧ GrewS G w w' := ⟨h.2.1.mono hE, (GrewS.of_below hA).trans h.2.2⟩
theorem doP_b {G : Nat → Prop} {w w0 w' : World} {gs L E E' : Nat} (hA : Below w.heap.size w w0) (h : MemS G w0 gs L E) (hb : Below w0.heap.size w0 w') (hE : E ≤ E') : MemS G w' gs L E' ∧ GrewS G w w' := ⟨(h.below hb).mono hE, (GrewS.of_below hA).trans (GrewS.of_below hb)⟩

/-- The cells of a call. -/
def opA (k a b : Int) (f : Nat → Int) (cu : Value) : Array Value := #[.int .i64 k, .int .i64 a, .int .i64 b, .int .i64 (f 0), .int .i64 (f 1), .int .i64 (f 2), .int .i64 (f 3), .int .i64 (f 4), .int .i64 (f 5), .int .i64 (f 6), .int .i64 (f 7), cu]

set_option maxRecDepth 100000 in
set_option maxHeartbeats 2000000 in
theorem sdo_store (G : Nat → Prop) (w : World) (gm L E : Nat) (a b : Int) (f : Nat → Int) (cu : Value) (hM : MemS G w gm L E) (hE : E ≤ 900) (hU : Up G w.heap.size) (ha : a ≤ 9223372036854775807) :
    Calls Tryz.prog 24 #[.pointer (some ⟨gm, 0, none⟩), .agg #[.int .i64 0, .int .i64 a, .int .i64 b, .int .i64 (f 0), .int .i64 (f 1), .int .i64 (f 2), .int .i64 (f 3), .int .i64 (f 4), .int .i64 (f 5), .int .i64 (f 6), .int .i64 (f 7), cu]] w (DoPost G w gm L (E + 2)) := by
  obtain ⟨w0, hw0⟩ : ∃ x, x = w.alloc (.cells #[.int .i64 0, .int .i64 a, .int .i64 b, .int .i64 (f 0), .int .i64 (f 1), .int .i64 (f 2), .int .i64 (f 3), .int .i64 (f 4), .int .i64 (f 5), .int .i64 (f 6), .int .i64 (f 7), cu] 70) := ⟨_, rfl⟩
  have hA0 : Below w.heap.size w w0 := by rw [hw0]; (repeat (first | with_reducible exact Below.refl _ _ | with_reducible assumption | with_reducible refine below_drewN ?_ _ | with_reducible refine Below.drew ?_ | with_reducible refine Below.alloc ?_ (by first | omega | (simp; omega) | simp) _ | with_reducible refine Below.setCell ?_ (by first | omega | (simp; omega) | simp) _))
  have hX0 : Cl w0 w.heap.size 70 #[.int .i64 0, .int .i64 a, .int .i64 b, .int .i64 (f 0), .int .i64 (f 1), .int .i64 (f 2), .int .i64 (f 3), .int .i64 (f 4), .int .i64 (f 5), .int .i64 (f 6), .int .i64 (f 7), cu] := by rw [hw0]; exact Cl.new _ _ _
  have hM0' := hM.below hA0
  have HU := Lib.hid (hU.mono hA0.size)
  have HM0 := Lib.hid hM0'
  have HA0 := Lib.hid hA0
  have HW0 := Lib.hid hw0
  have x0 := hX0.cell 0
  have x1 := hX0.cell 1
  have x2 := hX0.cell 2
  have x3 := hX0.cell 3
  have x4 := hX0.cell 4
  have x5 := hX0.cell 5
  have x6 := hX0.cell 6
  have x7 := hX0.cell 7
  have x8 := hX0.cell 8
  have x9 := hX0.cell 9
  have x10 := hX0.cell 10
  simp only [List.getElem?_toArray, List.getElem?_cons_succ, List.getElem?_cons_zero] at x0 x1 x2 x3 x4 x5 x6 x7 x8 x9 x10
  have hl := hX0.lt
  clear hX0 hM hU hA0 hw0 hM0'
  go_enter Tryz.func24, Tryz.ntmps24
  go_wp2_with fail
  rw [← HW0.out]
  refine (sstore_calls G _ gm L E a b (HM0.out) hE (HU.out) ha).mono ?_
  rintro e w1 ⟨⟨r, rfl⟩, hp⟩
  go_wp2_with fail
  go_ret2
  exact ⟨⟨_, _, rfl⟩, doP_r HA0.out ⟨⟨r, rfl⟩, hp⟩ (by omega)⟩

set_option maxRecDepth 100000 in
set_option maxHeartbeats 2000000 in
theorem sdo_publish (G : Nat → Prop) (w : World) (gm L E : Nat) (a b : Int) (f : Nat → Int) (cu : Value) (hM : MemS G w gm L E) (hE : E ≤ 900) (hU : Up G w.heap.size) (ha : a ≤ 9223372036854775807) :
    Calls Tryz.prog 24 #[.pointer (some ⟨gm, 0, none⟩), .agg #[.int .i64 1, .int .i64 a, .int .i64 b, .int .i64 (f 0), .int .i64 (f 1), .int .i64 (f 2), .int .i64 (f 3), .int .i64 (f 4), .int .i64 (f 5), .int .i64 (f 6), .int .i64 (f 7), cu]] w (DoPost G w gm L (E + 2)) := by
  obtain ⟨w0, hw0⟩ : ∃ x, x = w.alloc (.cells #[.int .i64 1, .int .i64 a, .int .i64 b, .int .i64 (f 0), .int .i64 (f 1), .int .i64 (f 2), .int .i64 (f 3), .int .i64 (f 4), .int .i64 (f 5), .int .i64 (f 6), .int .i64 (f 7), cu] 70) := ⟨_, rfl⟩
  have hA0 : Below w.heap.size w w0 := by rw [hw0]; (repeat (first | with_reducible exact Below.refl _ _ | with_reducible assumption | with_reducible refine below_drewN ?_ _ | with_reducible refine Below.drew ?_ | with_reducible refine Below.alloc ?_ (by first | omega | (simp; omega) | simp) _ | with_reducible refine Below.setCell ?_ (by first | omega | (simp; omega) | simp) _))
  have hX0 : Cl w0 w.heap.size 70 #[.int .i64 1, .int .i64 a, .int .i64 b, .int .i64 (f 0), .int .i64 (f 1), .int .i64 (f 2), .int .i64 (f 3), .int .i64 (f 4), .int .i64 (f 5), .int .i64 (f 6), .int .i64 (f 7), cu] := by rw [hw0]; exact Cl.new _ _ _
  have hM0' := hM.below hA0
  have HU := Lib.hid (hU.mono hA0.size)
  have HM0 := Lib.hid hM0'
  have HA0 := Lib.hid hA0
  have HW0 := Lib.hid hw0
  have x0 := hX0.cell 0
  have x1 := hX0.cell 1
  have x2 := hX0.cell 2
  have x3 := hX0.cell 3
  have x4 := hX0.cell 4
  have x5 := hX0.cell 5
  have x6 := hX0.cell 6
  have x7 := hX0.cell 7
  have x8 := hX0.cell 8
  have x9 := hX0.cell 9
  have x10 := hX0.cell 10
  simp only [List.getElem?_toArray, List.getElem?_cons_succ, List.getElem?_cons_zero] at x0 x1 x2 x3 x4 x5 x6 x7 x8 x9 x10
  have hl := hX0.lt
  clear hX0 hM hU hA0 hw0 hM0'
  go_enter Tryz.func24, Tryz.ntmps24
  go_wp2_with fail
  rw [← HW0.out]
  refine (spublish_calls G _ gm L E a b (HM0.out) hE (HU.out) ha).mono ?_
  rintro e w1 ⟨⟨r, rfl⟩, hp⟩
  go_wp2_with fail
  go_ret2
  exact ⟨⟨_, _, rfl⟩, doP_r HA0.out ⟨⟨r, rfl⟩, hp⟩ (by omega)⟩

set_option maxRecDepth 100000 in
set_option maxHeartbeats 2000000 in
theorem sdo_span (G : Nat → Prop) (w : World) (gm L E : Nat) (a b : Int) (f : Nat → Int) (cu : Value) (hM : MemS G w gm L E) (hE : E ≤ 900) (hU : Up G w.heap.size) (ha : a ≤ 9223372036854775807) :
    Calls Tryz.prog 24 #[.pointer (some ⟨gm, 0, none⟩), .agg #[.int .i64 2, .int .i64 a, .int .i64 b, .int .i64 (f 0), .int .i64 (f 1), .int .i64 (f 2), .int .i64 (f 3), .int .i64 (f 4), .int .i64 (f 5), .int .i64 (f 6), .int .i64 (f 7), cu]] w (DoPost G w gm L (E + 2)) := by
  obtain ⟨w0, hw0⟩ : ∃ x, x = w.alloc (.cells #[.int .i64 2, .int .i64 a, .int .i64 b, .int .i64 (f 0), .int .i64 (f 1), .int .i64 (f 2), .int .i64 (f 3), .int .i64 (f 4), .int .i64 (f 5), .int .i64 (f 6), .int .i64 (f 7), cu] 70) := ⟨_, rfl⟩
  have hA0 : Below w.heap.size w w0 := by rw [hw0]; (repeat (first | with_reducible exact Below.refl _ _ | with_reducible assumption | with_reducible refine below_drewN ?_ _ | with_reducible refine Below.drew ?_ | with_reducible refine Below.alloc ?_ (by first | omega | (simp; omega) | simp) _ | with_reducible refine Below.setCell ?_ (by first | omega | (simp; omega) | simp) _))
  have hX0 : Cl w0 w.heap.size 70 #[.int .i64 2, .int .i64 a, .int .i64 b, .int .i64 (f 0), .int .i64 (f 1), .int .i64 (f 2), .int .i64 (f 3), .int .i64 (f 4), .int .i64 (f 5), .int .i64 (f 6), .int .i64 (f 7), cu] := by rw [hw0]; exact Cl.new _ _ _
  have hM0' := hM.below hA0
  have HU := Lib.hid (hU.mono hA0.size)
  have HM0 := Lib.hid hM0'
  have HA0 := Lib.hid hA0
  have HW0 := Lib.hid hw0
  have x0 := hX0.cell 0
  have x1 := hX0.cell 1
  have x2 := hX0.cell 2
  have x3 := hX0.cell 3
  have x4 := hX0.cell 4
  have x5 := hX0.cell 5
  have x6 := hX0.cell 6
  have x7 := hX0.cell 7
  have x8 := hX0.cell 8
  have x9 := hX0.cell 9
  have x10 := hX0.cell 10
  simp only [List.getElem?_toArray, List.getElem?_cons_succ, List.getElem?_cons_zero] at x0 x1 x2 x3 x4 x5 x6 x7 x8 x9 x10
  have hl := hX0.lt
  clear hX0 hM hU hA0 hw0 hM0'
  go_enter Tryz.func24, Tryz.ntmps24
  go_wp2_with fail
  rw [← HW0.out]
  refine (sset_calls G _ gm L E a (HM0.out)).mono ?_
  rintro e w1 ⟨rfl, hp⟩
  go_wp2_with fail
  go_ret2
  exact ⟨⟨_, _, rfl⟩, doP_v HA0.out ⟨rfl, hp⟩ (by omega)⟩

set_option maxRecDepth 100000 in
set_option maxHeartbeats 2000000 in
theorem sdo_flush (G : Nat → Prop) (w : World) (gm L E : Nat) (a b : Int) (f : Nat → Int) (cu : Value) (hM : MemS G w gm L E) (hE : E ≤ 900) (hU : Up G w.heap.size) (ha : a ≤ 9223372036854775807) :
    Calls Tryz.prog 24 #[.pointer (some ⟨gm, 0, none⟩), .agg #[.int .i64 3, .int .i64 a, .int .i64 b, .int .i64 (f 0), .int .i64 (f 1), .int .i64 (f 2), .int .i64 (f 3), .int .i64 (f 4), .int .i64 (f 5), .int .i64 (f 6), .int .i64 (f 7), cu]] w (DoPost G w gm L (E + 2)) := by
  obtain ⟨w0, hw0⟩ : ∃ x, x = w.alloc (.cells #[.int .i64 3, .int .i64 a, .int .i64 b, .int .i64 (f 0), .int .i64 (f 1), .int .i64 (f 2), .int .i64 (f 3), .int .i64 (f 4), .int .i64 (f 5), .int .i64 (f 6), .int .i64 (f 7), cu] 70) := ⟨_, rfl⟩
  have hA0 : Below w.heap.size w w0 := by rw [hw0]; (repeat (first | with_reducible exact Below.refl _ _ | with_reducible assumption | with_reducible refine below_drewN ?_ _ | with_reducible refine Below.drew ?_ | with_reducible refine Below.alloc ?_ (by first | omega | (simp; omega) | simp) _ | with_reducible refine Below.setCell ?_ (by first | omega | (simp; omega) | simp) _))
  have hX0 : Cl w0 w.heap.size 70 #[.int .i64 3, .int .i64 a, .int .i64 b, .int .i64 (f 0), .int .i64 (f 1), .int .i64 (f 2), .int .i64 (f 3), .int .i64 (f 4), .int .i64 (f 5), .int .i64 (f 6), .int .i64 (f 7), cu] := by rw [hw0]; exact Cl.new _ _ _
  have hM0' := hM.below hA0
  have HU := Lib.hid (hU.mono hA0.size)
  have HM0 := Lib.hid hM0'
  have HA0 := Lib.hid hA0
  have HW0 := Lib.hid hw0
  have x0 := hX0.cell 0
  have x1 := hX0.cell 1
  have x2 := hX0.cell 2
  have x3 := hX0.cell 3
  have x4 := hX0.cell 4
  have x5 := hX0.cell 5
  have x6 := hX0.cell 6
  have x7 := hX0.cell 7
  have x8 := hX0.cell 8
  have x9 := hX0.cell 9
  have x10 := hX0.cell 10
  simp only [List.getElem?_toArray, List.getElem?_cons_succ, List.getElem?_cons_zero] at x0 x1 x2 x3 x4 x5 x6 x7 x8 x9 x10
  have hl := hX0.lt
  clear hX0 hM hU hA0 hw0 hM0'
  go_enter Tryz.func24, Tryz.ntmps24
  go_wp2_with fail
  rw [← HW0.out]
  refine (sflush_calls G _ gm L E a (HM0.out) hE (HU.out)).mono ?_
  rintro e w1 ⟨⟨r, rfl⟩, hp⟩
  go_wp2_with fail
  go_ret2
  exact ⟨⟨_, _, rfl⟩, doP_r HA0.out ⟨⟨r, rfl⟩, hp⟩ (by omega)⟩

set_option maxRecDepth 100000 in
set_option maxHeartbeats 2000000 in
theorem sdo_fence (G : Nat → Prop) (w : World) (gm L E : Nat) (a b : Int) (f : Nat → Int) (cu : Value) (hM : MemS G w gm L E) (hE : E ≤ 900) (hU : Up G w.heap.size) (ha : a ≤ 9223372036854775807) :
    Calls Tryz.prog 24 #[.pointer (some ⟨gm, 0, none⟩), .agg #[.int .i64 4, .int .i64 a, .int .i64 b, .int .i64 (f 0), .int .i64 (f 1), .int .i64 (f 2), .int .i64 (f 3), .int .i64 (f 4), .int .i64 (f 5), .int .i64 (f 6), .int .i64 (f 7), cu]] w (DoPost G w gm L (E + 2)) := by
  obtain ⟨w0, hw0⟩ : ∃ x, x = w.alloc (.cells #[.int .i64 4, .int .i64 a, .int .i64 b, .int .i64 (f 0), .int .i64 (f 1), .int .i64 (f 2), .int .i64 (f 3), .int .i64 (f 4), .int .i64 (f 5), .int .i64 (f 6), .int .i64 (f 7), cu] 70) := ⟨_, rfl⟩
  have hA0 : Below w.heap.size w w0 := by rw [hw0]; (repeat (first | with_reducible exact Below.refl _ _ | with_reducible assumption | with_reducible refine below_drewN ?_ _ | with_reducible refine Below.drew ?_ | with_reducible refine Below.alloc ?_ (by first | omega | (simp; omega) | simp) _ | with_reducible refine Below.setCell ?_ (by first | omega | (simp; omega) | simp) _))
  have hX0 : Cl w0 w.heap.size 70 #[.int .i64 4, .int .i64 a, .int .i64 b, .int .i64 (f 0), .int .i64 (f 1), .int .i64 (f 2), .int .i64 (f 3), .int .i64 (f 4), .int .i64 (f 5), .int .i64 (f 6), .int .i64 (f 7), cu] := by rw [hw0]; exact Cl.new _ _ _
  have hM0' := hM.below hA0
  have HU := Lib.hid (hU.mono hA0.size)
  have HM0 := Lib.hid hM0'
  have HA0 := Lib.hid hA0
  have HW0 := Lib.hid hw0
  have x0 := hX0.cell 0
  have x1 := hX0.cell 1
  have x2 := hX0.cell 2
  have x3 := hX0.cell 3
  have x4 := hX0.cell 4
  have x5 := hX0.cell 5
  have x6 := hX0.cell 6
  have x7 := hX0.cell 7
  have x8 := hX0.cell 8
  have x9 := hX0.cell 9
  have x10 := hX0.cell 10
  simp only [List.getElem?_toArray, List.getElem?_cons_succ, List.getElem?_cons_zero] at x0 x1 x2 x3 x4 x5 x6 x7 x8 x9 x10
  have hl := hX0.lt
  clear hX0 hM hU hA0 hw0 hM0'
  go_enter Tryz.func24, Tryz.ntmps24
  go_wp2_with fail
  rw [← HW0.out]
  refine (sfence_calls G _ gm L E (HM0.out) hE (HU.out)).mono ?_
  rintro e w1 ⟨rfl, hp⟩
  go_wp2_with fail
  go_ret2
  exact ⟨⟨_, _, rfl⟩, doP_v HA0.out ⟨rfl, hp⟩ (by omega)⟩

set_option maxRecDepth 100000 in
set_option maxHeartbeats 2000000 in
theorem sdo_evict (G : Nat → Prop) (w : World) (gm L E : Nat) (a b : Int) (f : Nat → Int) (cu : Value) (hM : MemS G w gm L E) (hE : E ≤ 900) (hU : Up G w.heap.size) (ha : a ≤ 9223372036854775807) :
    Calls Tryz.prog 24 #[.pointer (some ⟨gm, 0, none⟩), .agg #[.int .i64 5, .int .i64 a, .int .i64 b, .int .i64 (f 0), .int .i64 (f 1), .int .i64 (f 2), .int .i64 (f 3), .int .i64 (f 4), .int .i64 (f 5), .int .i64 (f 6), .int .i64 (f 7), cu]] w (DoPost G w gm L (E + 2)) := by
  obtain ⟨w0, hw0⟩ : ∃ x, x = w.alloc (.cells #[.int .i64 5, .int .i64 a, .int .i64 b, .int .i64 (f 0), .int .i64 (f 1), .int .i64 (f 2), .int .i64 (f 3), .int .i64 (f 4), .int .i64 (f 5), .int .i64 (f 6), .int .i64 (f 7), cu] 70) := ⟨_, rfl⟩
  have hA0 : Below w.heap.size w w0 := by rw [hw0]; (repeat (first | with_reducible exact Below.refl _ _ | with_reducible assumption | with_reducible refine below_drewN ?_ _ | with_reducible refine Below.drew ?_ | with_reducible refine Below.alloc ?_ (by first | omega | (simp; omega) | simp) _ | with_reducible refine Below.setCell ?_ (by first | omega | (simp; omega) | simp) _))
  have hX0 : Cl w0 w.heap.size 70 #[.int .i64 5, .int .i64 a, .int .i64 b, .int .i64 (f 0), .int .i64 (f 1), .int .i64 (f 2), .int .i64 (f 3), .int .i64 (f 4), .int .i64 (f 5), .int .i64 (f 6), .int .i64 (f 7), cu] := by rw [hw0]; exact Cl.new _ _ _
  have hM0' := hM.below hA0
  have HU := Lib.hid (hU.mono hA0.size)
  have HM0 := Lib.hid hM0'
  have HA0 := Lib.hid hA0
  have HW0 := Lib.hid hw0
  have x0 := hX0.cell 0
  have x1 := hX0.cell 1
  have x2 := hX0.cell 2
  have x3 := hX0.cell 3
  have x4 := hX0.cell 4
  have x5 := hX0.cell 5
  have x6 := hX0.cell 6
  have x7 := hX0.cell 7
  have x8 := hX0.cell 8
  have x9 := hX0.cell 9
  have x10 := hX0.cell 10
  simp only [List.getElem?_toArray, List.getElem?_cons_succ, List.getElem?_cons_zero] at x0 x1 x2 x3 x4 x5 x6 x7 x8 x9 x10
  have hl := hX0.lt
  clear hX0 hM hU hA0 hw0 hM0'
  go_enter Tryz.func24, Tryz.ntmps24
  go_wp2_with fail
  rw [← HW0.out]
  refine (sevict_calls G _ gm L E a b (HM0.out) hE (HU.out)).mono ?_
  rintro e w1 ⟨⟨r, rfl⟩, hp⟩
  go_wp2_with fail
  go_ret2
  exact ⟨⟨_, _, rfl⟩, doP_r HA0.out ⟨⟨r, rfl⟩, hp⟩ (by omega)⟩

set_option maxRecDepth 100000 in
set_option maxHeartbeats 2000000 in
theorem sdo_heal (G : Nat → Prop) (w : World) (gm L E : Nat) (a b : Int) (f : Nat → Int) (cu : Value) (hM : MemS G w gm L E) (hE : E ≤ 900) (hU : Up G w.heap.size) (ha : a ≤ 9223372036854775807) :
    Calls Tryz.prog 24 #[.pointer (some ⟨gm, 0, none⟩), .agg #[.int .i64 6, .int .i64 a, .int .i64 b, .int .i64 (f 0), .int .i64 (f 1), .int .i64 (f 2), .int .i64 (f 3), .int .i64 (f 4), .int .i64 (f 5), .int .i64 (f 6), .int .i64 (f 7), cu]] w (DoPost G w gm L (E + 2)) := by
  obtain ⟨w0, hw0⟩ : ∃ x, x = w.alloc (.cells #[.int .i64 6, .int .i64 a, .int .i64 b, .int .i64 (f 0), .int .i64 (f 1), .int .i64 (f 2), .int .i64 (f 3), .int .i64 (f 4), .int .i64 (f 5), .int .i64 (f 6), .int .i64 (f 7), cu] 70) := ⟨_, rfl⟩
  have hA0 : Below w.heap.size w w0 := by rw [hw0]; (repeat (first | with_reducible exact Below.refl _ _ | with_reducible assumption | with_reducible refine below_drewN ?_ _ | with_reducible refine Below.drew ?_ | with_reducible refine Below.alloc ?_ (by first | omega | (simp; omega) | simp) _ | with_reducible refine Below.setCell ?_ (by first | omega | (simp; omega) | simp) _))
  have hX0 : Cl w0 w.heap.size 70 #[.int .i64 6, .int .i64 a, .int .i64 b, .int .i64 (f 0), .int .i64 (f 1), .int .i64 (f 2), .int .i64 (f 3), .int .i64 (f 4), .int .i64 (f 5), .int .i64 (f 6), .int .i64 (f 7), cu] := by rw [hw0]; exact Cl.new _ _ _
  have hM0' := hM.below hA0
  have HU := Lib.hid (hU.mono hA0.size)
  have HM0 := Lib.hid hM0'
  have HA0 := Lib.hid hA0
  have HW0 := Lib.hid hw0
  have x0 := hX0.cell 0
  have x1 := hX0.cell 1
  have x2 := hX0.cell 2
  have x3 := hX0.cell 3
  have x4 := hX0.cell 4
  have x5 := hX0.cell 5
  have x6 := hX0.cell 6
  have x7 := hX0.cell 7
  have x8 := hX0.cell 8
  have x9 := hX0.cell 9
  have x10 := hX0.cell 10
  simp only [List.getElem?_toArray, List.getElem?_cons_succ, List.getElem?_cons_zero] at x0 x1 x2 x3 x4 x5 x6 x7 x8 x9 x10
  have hl := hX0.lt
  clear hX0 hM hU hA0 hw0 hM0'
  go_enter Tryz.func24, Tryz.ntmps24
  go_wp2_with fail
  rw [← HW0.out]
  refine (sheal_calls G _ gm L E a f (HM0.out) hE (HU.out)).mono ?_
  rintro e w1 ⟨⟨r, rfl⟩, hp⟩
  go_wp2_with fail
  go_ret2
  exact ⟨⟨_, _, rfl⟩, doP_r HA0.out ⟨⟨r, rfl⟩, hp⟩ (by omega)⟩

set_option maxRecDepth 100000 in
set_option maxHeartbeats 2000000 in
theorem sdo_rot (G : Nat → Prop) (w : World) (gm L E : Nat) (a b : Int) (f : Nat → Int) (cu : Value) (hM : MemS G w gm L E) (hE : E ≤ 900) (hU : Up G w.heap.size) (ha : a ≤ 9223372036854775807) :
    Calls Tryz.prog 24 #[.pointer (some ⟨gm, 0, none⟩), .agg #[.int .i64 7, .int .i64 a, .int .i64 b, .int .i64 (f 0), .int .i64 (f 1), .int .i64 (f 2), .int .i64 (f 3), .int .i64 (f 4), .int .i64 (f 5), .int .i64 (f 6), .int .i64 (f 7), cu]] w (DoPost G w gm L (E + 2)) := by
  obtain ⟨w0, hw0⟩ : ∃ x, x = w.alloc (.cells #[.int .i64 7, .int .i64 a, .int .i64 b, .int .i64 (f 0), .int .i64 (f 1), .int .i64 (f 2), .int .i64 (f 3), .int .i64 (f 4), .int .i64 (f 5), .int .i64 (f 6), .int .i64 (f 7), cu] 70) := ⟨_, rfl⟩
  have hA0 : Below w.heap.size w w0 := by rw [hw0]; (repeat (first | with_reducible exact Below.refl _ _ | with_reducible assumption | with_reducible refine below_drewN ?_ _ | with_reducible refine Below.drew ?_ | with_reducible refine Below.alloc ?_ (by first | omega | (simp; omega) | simp) _ | with_reducible refine Below.setCell ?_ (by first | omega | (simp; omega) | simp) _))
  have hX0 : Cl w0 w.heap.size 70 #[.int .i64 7, .int .i64 a, .int .i64 b, .int .i64 (f 0), .int .i64 (f 1), .int .i64 (f 2), .int .i64 (f 3), .int .i64 (f 4), .int .i64 (f 5), .int .i64 (f 6), .int .i64 (f 7), cu] := by rw [hw0]; exact Cl.new _ _ _
  have hM0' := hM.below hA0
  have HU := Lib.hid (hU.mono hA0.size)
  have HM0 := Lib.hid hM0'
  have HA0 := Lib.hid hA0
  have HW0 := Lib.hid hw0
  have x0 := hX0.cell 0
  have x1 := hX0.cell 1
  have x2 := hX0.cell 2
  have x3 := hX0.cell 3
  have x4 := hX0.cell 4
  have x5 := hX0.cell 5
  have x6 := hX0.cell 6
  have x7 := hX0.cell 7
  have x8 := hX0.cell 8
  have x9 := hX0.cell 9
  have x10 := hX0.cell 10
  simp only [List.getElem?_toArray, List.getElem?_cons_succ, List.getElem?_cons_zero] at x0 x1 x2 x3 x4 x5 x6 x7 x8 x9 x10
  have hl := hX0.lt
  clear hX0 hM hU hA0 hw0 hM0'
  go_enter Tryz.func24, Tryz.ntmps24
  go_wp2_with fail
  rw [← HW0.out]
  refine (srot_calls G _ gm L E a f b (HM0.out) hE (HU.out)).mono ?_
  rintro e w1 ⟨⟨r, rfl⟩, hp⟩
  go_wp2_with fail
  go_ret2
  exact ⟨⟨_, _, rfl⟩, doP_r HA0.out ⟨⟨r, rfl⟩, hp⟩ (by omega)⟩

set_option maxRecDepth 100000 in
set_option maxHeartbeats 2000000 in
theorem sdo_neg (G : Nat → Prop) (w : World) (gm L E : Nat) (k a b : Int) (f : Nat → Int) (cu : Value) (hM : MemS G w gm L E) (hE : E ≤ 900) (hU : Up G w.heap.size) (ha : a ≤ 9223372036854775807) (hk : k < 0) :
    Calls Tryz.prog 24 #[.pointer (some ⟨gm, 0, none⟩), .agg #[.int .i64 k, .int .i64 a, .int .i64 b, .int .i64 (f 0), .int .i64 (f 1), .int .i64 (f 2), .int .i64 (f 3), .int .i64 (f 4), .int .i64 (f 5), .int .i64 (f 6), .int .i64 (f 7), cu]] w (DoPost G w gm L (E + 2)) := by
  obtain ⟨w0, hw0⟩ : ∃ x, x = w.alloc (.cells #[.int .i64 k, .int .i64 a, .int .i64 b, .int .i64 (f 0), .int .i64 (f 1), .int .i64 (f 2), .int .i64 (f 3), .int .i64 (f 4), .int .i64 (f 5), .int .i64 (f 6), .int .i64 (f 7), cu] 70) := ⟨_, rfl⟩
  have hA0 : Below w.heap.size w w0 := by rw [hw0]; (repeat (first | with_reducible exact Below.refl _ _ | with_reducible assumption | with_reducible refine below_drewN ?_ _ | with_reducible refine Below.drew ?_ | with_reducible refine Below.alloc ?_ (by first | omega | (simp; omega) | simp) _ | with_reducible refine Below.setCell ?_ (by first | omega | (simp; omega) | simp) _))
  have hX0 : Cl w0 w.heap.size 70 #[.int .i64 k, .int .i64 a, .int .i64 b, .int .i64 (f 0), .int .i64 (f 1), .int .i64 (f 2), .int .i64 (f 3), .int .i64 (f 4), .int .i64 (f 5), .int .i64 (f 6), .int .i64 (f 7), cu] := by rw [hw0]; exact Cl.new _ _ _
  have hM0' := hM.below hA0
  have HU := Lib.hid (hU.mono hA0.size)
  have HM0 := Lib.hid hM0'
  have HA0 := Lib.hid hA0
  have HW0 := Lib.hid hw0
  have x0 := hX0.cell 0
  have x1 := hX0.cell 1
  have x2 := hX0.cell 2
  have x3 := hX0.cell 3
  have x4 := hX0.cell 4
  have x5 := hX0.cell 5
  have x6 := hX0.cell 6
  have x7 := hX0.cell 7
  have x8 := hX0.cell 8
  have x9 := hX0.cell 9
  have x10 := hX0.cell 10
  simp only [List.getElem?_toArray, List.getElem?_cons_succ, List.getElem?_cons_zero] at x0 x1 x2 x3 x4 x5 x6 x7 x8 x9 x10
  have hl := hX0.lt
  clear hX0 hM hU hA0 hw0 hM0'
  have k0 : (k == 0) = false := by simp; omega
  have k1 : (k == 1) = false := by simp; omega
  have k2 : (k == 2) = false := by simp; omega
  have k3 : (k == 3) = false := by simp; omega
  have k4 : (k == 4) = false := by simp; omega
  have k5 : (k == 5) = false := by simp; omega
  have k6 : (k == 6) = false := by simp; omega
  have k7 : (k == 7) = false := by simp; omega
  have k8 : (k == 8) = false := by simp; omega
  have k9 : (k == 9) = false := by simp; omega
  go_enter Tryz.func24, Tryz.ntmps24
  go_wp2_with fail
  rw [← HW0.out]
  refine (sload_calls G _ gm L E a HM0.out (by omega) ha).mono ?_
  rintro e w1 ⟨⟨x, er, rfl⟩, hb⟩
  go_wp2_with fail
  go_ret2
  exact ⟨⟨_, _, rfl⟩, doP_b HA0.out HM0.out hb (by omega)⟩

theorem sdo_calls (G : Nat → Prop) (w : World) (gm L E : Nat) (k a b : Int) (f : Nat → Int) (cu : Value) (hM : MemS G w gm L E) (hE : E ≤ 900) (hU : Up G w.heap.size) (ha : a ≤ 9223372036854775807) (hk : k < 8) :
    Calls Tryz.prog 24 #[.pointer (some ⟨gm, 0, none⟩), .agg (opA k a b f cu)] w (DoPost G w gm L (E + 2)) := by
  by_cases h : k < 0
  · exact sdo_neg G w gm L E k a b f cu hM hE hU ha h
  · obtain h | h | h | h | h | h | h | h : k = 0 ∨ k = 1 ∨ k = 2 ∨ k = 3 ∨ k = 4 ∨ k = 5 ∨ k = 6 ∨ k = 7 := by omega
    all_goals subst h
    · exact sdo_store G w gm L E a b f cu hM hE hU ha
    · exact sdo_publish G w gm L E a b f cu hM hE hU ha
    · exact sdo_span G w gm L E a b f cu hM hE hU ha
    · exact sdo_flush G w gm L E a b f cu hM hE hU ha
    · exact sdo_fence G w gm L E a b f cu hM hE hU ha
    · exact sdo_evict G w gm L E a b f cu hM hE hU ha
    · exact sdo_heal G w gm L E a b f cu hM hE hU ha
    · exact sdo_rot G w gm L E a b f cu hM hE hU ha

set_option maxHeartbeats 400000 in
theorem rover_calls (w : World) (gs : Nat) : Calls Tryz.prog 32 #[.pointer (some ⟨gs, 0, none⟩)] w fun e w' => e = .returned (.pointer (some ⟨w.heap.size, 0, none⟩)) ∧ w.alloc (.cells #[.pointer (some ⟨gs, 0, none⟩), .slice none 0 0] 115) = w' := by
  go_enter Tryz.func32, Tryz.ntmps32
  go_wp2
  go_ret
  exact ⟨rfl, rfl⟩
end Go.Proofs.YtckamjbdogpacaaGreatDoor
