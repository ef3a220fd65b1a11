/-
  The specification's Check at every picture.
-/
import Derived.Test.YtcoeoggoaiebeaaDoorCkLaw
import Derived.Test.YtcoeoggoaiebeaaDoorRefFreeB
namespace Go.Proofs.YtcoeoggoaiebeaaDoor
open Go.RowKit
set_option linter.unusedSimpArgs false
set_option linter.unusedVariables false

def CkrRel1 (w : World) (lay pic : Array Value) (heap : Int) (cs : List Int) (bs : List Bk) (ds : List Int) (R : Bool) (v5 v6 v7 : Value) (wr : World) : Prop :=
  ∃ (k i jj : Nat), k ≤ cs.length ∧ v7 = .int .i64 k ∧ v5 = .int .i64 i ∧ v6 = .int .i64 jj ∧ i ≤ bs.length ∧ jj ≤ ds.length ∧ ckChunks heap k (cs.drop k) (bs.drop i) (ds.drop jj) = R ∧
    Cl wr w.heap.size 31 lay ∧ Cl wr (w.heap.size + 1) 45 pic ∧ Below w.heap.size w wr
def CkrRel2 (w : World) (lay pic : Array Value) (heap : Int) (k : Nat) (cs : List Int) (cv : Int) (sv : Value) (st : List Int) (bs : List Bk) (ds : List Int) (R : Bool) (v5 v6 v10 : Value) (wr : World) : Prop :=
  ∃ (n i jj : Nat), n ≤ st.length ∧ v10 = .int .i64 n ∧ v5 = .int .i64 i ∧ v6 = .int .i64 jj ∧ i ≤ bs.length ∧ jj ≤ ds.length ∧ RdI wr sv st ∧ ckRest heap k cs cv (st.drop n) (bs.drop i) (ds.drop jj) = R ∧
    Cl wr w.heap.size 31 lay ∧ Cl wr (w.heap.size + 1) 45 pic ∧ Below w.heap.size w wr

set_option maxRecDepth 100000 in
set_option maxHeartbeats 1000000 in
theorem ckr_other (w : World) (l0 l1 l2 l3 l4 l5 heap : Int) (m : Nat) (ch bl bd : Value) (cs : List Int) {t1 : TypeId} (hC : RI w t1 ch cs) (hne : cs.length ≠ m) (hl : cs.length ≤ 1000) (hm : m ≤ 200) :
    Calls Tryd.prog 22 #[.agg #[.int .i64 l0, .int .i64 l1, .int .i64 l2, .int .i64 l3, .int .i64 l4, .int .i64 l5, .int .i64 heap, .int .i64 (m : Int)], .agg #[ch, bl, bd]] w fun e w' => e = .returned (.int .i64 3) ∧ Below w.heap.size w w' := by
  obtain ⟨A1, c1, rfl, _, hcC⟩ := Rd.atI hC
  have bl0 : ((cs.length : Int) != (m : Int)) = true := by simp; omega
  clear hcC hne hC
  go_enter Tryd.func22, Tryd.ntmps22
  go_wp2_with fail
  go_ret
  exact ⟨rfl, by (repeat (first | with_reducible exact Below.refl _ _ | with_reducible assumption | with_reducible refine below_drewN ?_ _ | with_reducible refine Below.drew ?_ | with_reducible refine Below.alloc ?_ (by first | omega | (simp; omega) | simp) _ | with_reducible refine Below.setCell ?_ (by first | omega | (simp; omega) | simp) _))⟩

set_option maxRecDepth 100000 in
set_option maxHeartbeats 4000000 in
theorem ckr_calls (w : World) (l0 l1 l2 l3 l4 l5 heap : Int) (m : Nat) (ch bl bd : Value) (cs : List Int) (bs : List Bk) (ds : List Int) {t1 t2 t3 : TypeId} (hC : RI w t1 ch cs) (hR : RB w t2 bl bs) (hD : RI w t3 bd ds)
    (hm : m ≤ 200) (hh0 : 0 ≤ heap) (hh1 : heap ≤ 5000) (hn : bs.length ≤ 1000) (hn3 : ds.length ≤ 1000) (hlen : cs.length = m) :
    Calls Tryd.prog 22 #[.agg #[.int .i64 l0, .int .i64 l1, .int .i64 l2, .int .i64 l3, .int .i64 l4, .int .i64 l5, .int .i64 heap, .int .i64 (m : Int)], .agg #[ch, bl, bd]] w fun e w' => e = .returned (.int .i64 (ckE (ckChunks heap 0 cs bs ds))) ∧ Below w.heap.size w w' := by
  subst hlen
  obtain ⟨A1, c1, rfl, _, hcC⟩ := Rd.atI hC
  obtain ⟨A2, c2, rfl, _, hcB⟩ := Rd.atB hR
  obtain ⟨A3, c3, rfl, _, hcD⟩ := Rd.atI hD
  have bl0 : ((cs.length : Int) != (cs.length : Int)) = false := by simp
  obtain ⟨R, hRR⟩ : ∃ R, ckChunks heap 0 cs bs ds = R := ⟨_, rfl⟩
  rw [hRR]
  have HRR := Lib.hid hRR
  clear hRR hC hR hD
  go_enter Tryd.func22, Tryd.ntmps22
  go_wp2_with fail
  go_loopw [5, 6, 7] (fun v5 v6 v7 wr => CkrRel1 w #[.int .i64 l0, .int .i64 l1, .int .i64 l2, .int .i64 l3, .int .i64 l4, .int .i64 l5, .int .i64 heap, .int .i64 (cs.length : Int)] #[.slice A1 cs.length c1, .slice A2 bs.length c2, .slice A3 ds.length c3] heap cs bs ds R v5 v6 v7 wr) (fun _ _ i _ => cs.length - (intOf i).toNat)
  case atStart => exact ⟨0, 0, 0, Nat.zero_le _, rfl, rfl, rfl, Nat.zero_le _, Nat.zero_le _, HRR.out, (Cl.new _ _ _).alloc _, Cl.new_ _ _ _ _ (by simp), by (repeat (first | with_reducible exact Below.refl _ _ | with_reducible assumption | with_reducible refine below_drewN ?_ _ | with_reducible refine Below.drew ?_ | with_reducible refine Below.alloc ?_ (by first | omega | (simp; omega) | simp) _ | with_reducible refine Below.setCell ?_ (by first | omega | (simp; omega) | simp) _))⟩
  case round =>
    clear HRR
    obtain ⟨k, i, jj, hk, rfl, rfl, rfl, hi, hj, hE, hL, hP, hb⟩ := hrel
    have HE := Lib.hid hE
    clear hE
    have hsL := hL.lt
    have hsP := hP.lt
    obtain ⟨⟨q0, q1, q2⟩, -⟩ := hP.has3
    obtain ⟨y0, y1, y2, y3, y4, y5, y6, y7⟩ := hL.cells8
    obtain ⟨w1, hw1⟩ : ∃ x : World, x = wr := ⟨_, rfl⟩
    subst hw1
    by_cases hlt : k < cs.length
    · obtain ⟨bC, oC, rfl, hbC, hcell⟩ := hcC k hlt
      obtain ⟨cv, hxk⟩ : ∃ cv, cs[k]? = some cv := ⟨_, List.getElem?_eq_getElem hlt⟩
      have dk := (hb.cell (p := ⟨bC, oC + k, none⟩) hbC).trans (hcell _ hxk)
      have HDR0 := Lib.hid (drop_at hxk)
      clear hcC hcell hxk
      obtain ⟨cs', hcs'⟩ : ∃ cs', cs.drop (k + 1) = cs' := ⟨_, rfl⟩
      have HCS' := Lib.hid hcs'
      have HE2 : Hid (ckChunks heap k (cv :: cs') (bs.drop i) (ds.drop jj) = R) := by show _ = R; rw [← HE.out, HDR0.out, HCS'.out]
      clear hcs' HE
      by_cases hv0 : cv < -2
      · have HN : Hid (R = false) := by show R = false; rw [← HE2.out]; exact ckChunks_out (.inl hv0)
        go_wp2_with fail
        go_ret
        exact ⟨by rw [ckE_no HN.out]; rfl, hb⟩
      · by_cases hv1 : 4 < cv
        · have HN : Hid (R = false) := by show R = false; rw [← HE2.out]; exact ckChunks_out (.inr hv1)
          go_wp2_with fail
          go_ret
          exact ⟨by rw [ckE_no HN.out]; rfl, hb⟩
        · have HST := Lib.hid (fun w : World => rstarts_at w l0 l1 l2 l3 l4 l5 heap cs.length k cv hlt (by omega) hh0 hh1 (by omega) (by omega))
          have HE3 : Hid (ckRest heap k cs' cv (chunkLs heap k cv) (bs.drop i) (ds.drop jj) = R) := by show _ = R; rw [← HE2.out]; exact (ckChunks_in (by omega)).symm
          have hst16 := chunkLs_length heap k cv
          have HCV : Hid (∀ j, j < (chunkLs heap k cv).length → 0 ≤ cv) := fun j h => chunkLs_in h
          clear HE2
          generalize chunkLs heap k cv = st at *
          go_wp2_with fail
          refine (HST.out _).mono ?_
          rintro e w2 ⟨A5, c5, rfl, hI, hb2⟩
          have hL2 := hL.below hb2 hL.lt
          have hP2 := hP.below hb2 hP.lt
          have hB2 := hb.trans (hb2.mono hb.size)
          clear hb2 hL hP hb y0 y1 y2 y3 y4 y5 y6 y7 q0 q1 q2 dk HST hsL hsP
          go_wp2_with fail
          go_loopw [5, 6, 10] (fun v5 v6 v10 wr => CkrRel2 w #[.int .i64 l0, .int .i64 l1, .int .i64 l2, .int .i64 l3, .int .i64 l4, .int .i64 l5, .int .i64 heap, .int .i64 (cs.length : Int)] #[.slice (some ⟨bC, oC, none⟩) cs.length c1, .slice A2 bs.length c2, .slice A3 ds.length c3] heap k cs' cv (.slice A5 st.length c5) st bs ds R v5 v6 v10 wr) (fun _ _ i _ => st.length - (intOf i).toNat)
          case atStart => exact ⟨0, i, jj, Nat.zero_le _, rfl, rfl, rfl, hi, hj, hI, HE3.out, hL2, hP2, hB2⟩
          case round =>
            clear hI hL2 hP2 hB2 HE3 hi hj
            obtain ⟨n, i, jj, hn9, rfl, rfl, rfl, hi, hj, hI, hE, hL, hP, hb⟩ := hrel
            obtain ⟨w3, hw3⟩ : ∃ x : World, x = wr := ⟨_, rfl⟩
            subst hw3
            have hsL := hL.lt
            have hsP := hP.lt
            by_cases hlt2 : n < st.length
            · obtain ⟨Ai, ci, hvi, _, hci⟩ := hI.at_
              obtain ⟨bi', oi, hAi, hbi, hcl⟩ := hci n hlt2
              obtain ⟨a, ha⟩ : ∃ a, st[n]? = some a := ⟨_, List.getElem?_eq_getElem hlt2⟩
              injection hvi with e1 e2 e3
              subst e3
              subst hAi
              subst e1
              have di := hcl _ ha
              rw [drop_at ha] at hE
              obtain ⟨st', hst'⟩ : ∃ st', st.drop (n + 1) = st' := ⟨_, rfl⟩
              rw [hst'] at hE
              have HDR : Hid (st' = st.drop (n + 1)) := hst'.symm
              have HE := Lib.hid hE
              clear hci hcl ha e2 hE hst'
              obtain ⟨⟨q0, q1, q2⟩, -⟩ := hP.has3
              by_cases hj2 : jj < ds.length
              · have bj : decide (jj < ds.length) = true := by simp; omega
                obtain ⟨b3, o3, rfl, hb3, hcd⟩ := hcD jj hj2
                obtain ⟨d, hdx⟩ : ∃ d, ds[jj]? = some d := ⟨_, List.getElem?_eq_getElem hj2⟩
                have y3 := (hb.cell (p := ⟨b3, o3 + jj, none⟩) hb3).trans (hcd d hdx)
                by_cases hda : d = a
                · subst hda
                  have bda : (d == d) = true := by simp
                  have hE := HE.out
                  rw [drop_at hdx] at hE
                  have HN : Hid (ckRest heap k cs' cv st' (bs.drop i) (ds.drop (jj + 1)) = R) := by show _ = R; rw [← hE]; exact ckRest_bad.symm
                  clear HE hE hcd hdx hcD
                  go_wp2_with fail
                  go_quiet (fail)
                  go_wp2_with fail
                  go_roundw
                  case rel => exact ⟨n + 1, i, jj + 1, by omega, by go_num, rfl, by go_num, hi, by omega, hI.below (by (repeat (first | with_reducible exact Below.refl _ _ | with_reducible assumption | with_reducible refine below_drewN ?_ _ | with_reducible refine Below.drew ?_ | with_reducible refine Below.alloc ?_ (by first | omega | (simp; omega) | simp) _ | with_reducible refine Below.setCell ?_ (by first | omega | (simp; omega) | simp) _))), by rw [← HDR.out]; exact HN.out, by (repeat (first | with_reducible assumption | with_reducible refine Cl.drewN ?_ _ | with_reducible refine Cl.drew ?_ | with_reducible refine Cl.alloc ?_ _ | with_reducible refine Cl.far ?_ (by first | with_reducible assumption | omega | (simp; omega) | simp) _)), by (repeat (first | with_reducible assumption | with_reducible refine Cl.drewN ?_ _ | with_reducible refine Cl.drew ?_ | with_reducible refine Cl.alloc ?_ _ | with_reducible refine Cl.far ?_ (by first | with_reducible assumption | omega | (simp; omega) | simp) _)), by (repeat (first | with_reducible exact Below.refl _ _ | with_reducible assumption | with_reducible refine below_drewN ?_ _ | with_reducible refine Below.drew ?_ | with_reducible refine Below.alloc ?_ (by first | omega | (simp; omega) | simp) _ | with_reducible refine Below.setCell ?_ (by first | omega | (simp; omega) | simp) _))⟩
                  case measure => simp [intOf]; omega
                · have bda : (d == a) = false := by simp [hda]
                  have HH : Hid ((ds.drop jj).head? ≠ some a) := by show _ ≠ _; rw [drop_at hdx]; simp [hda]
                  clear hda hcd hdx hcD
                  go_wp2_with fail
                  go_quiet (fail)
                  have q1' := hP.cell 1
                  by_cases hi2 : i < bs.length
                  · have bi : decide (bs.length ≤ i) = false := by simp; omega
                    obtain ⟨b2, o2, rfl, hb2, hcb⟩ := hcB i hi2
                    obtain ⟨x, hx⟩ : ∃ x, bs[i]? = some x := ⟨_, List.getElem?_eq_getElem hi2⟩
                    obtain ⟨g0, g1, g2, g3⟩ := hcb x hx
                    have z0 := (hb.cell (p := ⟨b2, o2 + i * 4, none⟩) hb2).trans g0
                    have z1 := (hb.cell (p := ⟨b2, o2 + i * 4 + 1, none⟩) hb2).trans g1
                    have z2 := (hb.cell (p := ⟨b2, o2 + i * 4 + 2, none⟩) hb2).trans g2
                    have z3 := (hb.cell (p := ⟨b2, o2 + i * 4 + 3, none⟩) hb2).trans g3
                    have hE := HE.out
                    rw [drop_at hx] at hE
                    have HX : Hid (ckRest heap k cs' cv (a :: st') (x :: bs.drop (i + 1)) (ds.drop jj) = R) := hE
                    clear hE HE g0 g1 g2 g3 hcb hcB hx
                    by_cases hxl : x.line = a
                    · have bxl : (x.line != a) = false := by simp [hxl]
                      by_cases hxc : x.cls = cv
                      · have bxc : (x.cls != cv) = false := by simp [hxc]
                        have HXL := Lib.hid hxl
                        have HXC := Lib.hid hxc
                        clear hxl hxc
                        go_wp2_with fail
                        go_quiet (fail)
                        go_wp2_with fail
                        refine (rheader_calls _ x).mono ?_
                        rintro e w4 ⟨rfl, hb4⟩
                        replace hb4 : Below w3.heap.size w3 w4 := by first | exact hb4 | exact below_of_drew hb4 | (exact Below.trans (by (repeat (first | with_reducible exact Below.refl _ _ | with_reducible assumption | with_reducible refine below_drewN ?_ _ | with_reducible refine Below.drew ?_ | with_reducible refine Below.alloc ?_ (by first | omega | (simp; omega) | simp) _ | with_reducible refine Below.setCell ?_ (by first | omega | (simp; omega) | simp) _))) hb4)
                        have hL4 := hL.below hb4 hL.lt
                        have hP4 := hP.below hb4 hP.lt
                        have hI4 := hI.below hb4
                        have hb5 := hb.trans (hb4.mono hb.size)
                        clear hb4 hL hP hI hb di z0 z1 z2 z3 q0 q1 q2
                        cases hz : canZ x.kind x.gen
                        · have HN : Hid (R = false) := by show R = false; rw [← HX.out]; exact ckRest_no HH.out (fun h => by have := h.2.2; rw [hz] at this; cases this)
                          clear hz
                          go_wp2_with fail
                          go_ret
                          exact ⟨by rw [ckE_no HN.out]; rfl, hb5⟩
                        · have HN : Hid (ckRest heap k cs' cv st' (bs.drop (i + 1)) (ds.drop jj) = R) := by show _ = R; rw [← HX.out]; exact (ckRest_yes HH.out ⟨HXL.out, HXC.out, hz⟩).symm
                          clear hz
                          go_wp2_with fail
                          go_roundw
                          case rel => exact ⟨n + 1, i + 1, jj, by omega, by go_num, by go_num, rfl, by omega, hj, hI4, by rw [← HDR.out]; exact HN.out, hL4, hP4, hb5⟩
                          case measure => simp [intOf]; omega
                      · have bxc : (x.cls != cv) = true := by simp [hxc]
                        have HN : Hid (R = false) := by show R = false; rw [← HX.out]; exact ckRest_no HH.out (fun h => hxc h.2.1)
                        clear hxl hxc
                        go_wp2_with fail
                        go_quiet (fail)
                        go_wp2_with fail
                        go_ret
                        exact ⟨by rw [ckE_no HN.out]; rfl, by (repeat (first | with_reducible exact Below.refl _ _ | with_reducible assumption | with_reducible refine below_drewN ?_ _ | with_reducible refine Below.drew ?_ | with_reducible refine Below.alloc ?_ (by first | omega | (simp; omega) | simp) _ | with_reducible refine Below.setCell ?_ (by first | omega | (simp; omega) | simp) _))⟩
                    · have bxl : (x.line != a) = true := by simp [hxl]
                      have HN : Hid (R = false) := by show R = false; rw [← HX.out]; exact ckRest_no HH.out (fun h => hxl h.1)
                      clear hxl
                      go_wp2_with fail
                      go_quiet (fail)
                      go_wp2_with fail
                      go_ret
                      exact ⟨by rw [ckE_no HN.out]; rfl, by (repeat (first | with_reducible exact Below.refl _ _ | with_reducible assumption | with_reducible refine below_drewN ?_ _ | with_reducible refine Below.drew ?_ | with_reducible refine Below.alloc ?_ (by first | omega | (simp; omega) | simp) _ | with_reducible refine Below.setCell ?_ (by first | omega | (simp; omega) | simp) _))⟩
                  · have bi : decide (bs.length ≤ i) = true := by simp; omega
                    have HN : Hid (R = false) := by
                      show R = false
                      rw [← HE.out, List.drop_eq_nil_of_le (show bs.length ≤ i by omega)]
                      exact ckRest_none HH.out
                    clear HE hcB
                    go_wp2_with fail
                    go_quiet (fail)
                    go_wp2_with fail
                    go_ret
                    exact ⟨by rw [ckE_no HN.out]; rfl, by (repeat (first | with_reducible exact Below.refl _ _ | with_reducible assumption | with_reducible refine below_drewN ?_ _ | with_reducible refine Below.drew ?_ | with_reducible refine Below.alloc ?_ (by first | omega | (simp; omega) | simp) _ | with_reducible refine Below.setCell ?_ (by first | omega | (simp; omega) | simp) _))⟩
              · have bj : decide (jj < ds.length) = false := by simp; omega
                have HH : Hid ((ds.drop jj).head? ≠ some a) := by show _ ≠ _; rw [List.drop_eq_nil_of_le (show ds.length ≤ jj by omega)]; simp
                clear hcD
                go_wp2_with fail
                go_quiet (fail)
                have q1' := hP.cell 1
                by_cases hi2 : i < bs.length
                · have bi : decide (bs.length ≤ i) = false := by simp; omega
                  obtain ⟨b2, o2, rfl, hb2, hcb⟩ := hcB i hi2
                  obtain ⟨x, hx⟩ : ∃ x, bs[i]? = some x := ⟨_, List.getElem?_eq_getElem hi2⟩
                  obtain ⟨g0, g1, g2, g3⟩ := hcb x hx
                  have z0 := (hb.cell (p := ⟨b2, o2 + i * 4, none⟩) hb2).trans g0
                  have z1 := (hb.cell (p := ⟨b2, o2 + i * 4 + 1, none⟩) hb2).trans g1
                  have z2 := (hb.cell (p := ⟨b2, o2 + i * 4 + 2, none⟩) hb2).trans g2
                  have z3 := (hb.cell (p := ⟨b2, o2 + i * 4 + 3, none⟩) hb2).trans g3
                  have hE := HE.out
                  rw [drop_at hx] at hE
                  have HX : Hid (ckRest heap k cs' cv (a :: st') (x :: bs.drop (i + 1)) (ds.drop jj) = R) := hE
                  clear hE HE g0 g1 g2 g3 hcb hcB hx
                  by_cases hxl : x.line = a
                  · have bxl : (x.line != a) = false := by simp [hxl]
                    by_cases hxc : x.cls = cv
                    · have bxc : (x.cls != cv) = false := by simp [hxc]
                      have HXL := Lib.hid hxl
                      have HXC := Lib.hid hxc
                      clear hxl hxc
                      go_wp2_with fail
                      go_quiet (fail)
                      go_wp2_with fail
                      refine (rheader_calls _ x).mono ?_
                      rintro e w4 ⟨rfl, hb4⟩
                      replace hb4 : Below w3.heap.size w3 w4 := by first | exact hb4 | exact below_of_drew hb4 | (exact Below.trans (by (repeat (first | with_reducible exact Below.refl _ _ | with_reducible assumption | with_reducible refine below_drewN ?_ _ | with_reducible refine Below.drew ?_ | with_reducible refine Below.alloc ?_ (by first | omega | (simp; omega) | simp) _ | with_reducible refine Below.setCell ?_ (by first | omega | (simp; omega) | simp) _))) hb4)
                      have hL4 := hL.below hb4 hL.lt
                      have hP4 := hP.below hb4 hP.lt
                      have hI4 := hI.below hb4
                      have hb5 := hb.trans (hb4.mono hb.size)
                      clear hb4 hL hP hI hb di z0 z1 z2 z3 q0 q1 q2
                      cases hz : canZ x.kind x.gen
                      · have HN : Hid (R = false) := by show R = false; rw [← HX.out]; exact ckRest_no HH.out (fun h => by have := h.2.2; rw [hz] at this; cases this)
                        clear hz
                        go_wp2_with fail
                        go_ret
                        exact ⟨by rw [ckE_no HN.out]; rfl, hb5⟩
                      · have HN : Hid (ckRest heap k cs' cv st' (bs.drop (i + 1)) (ds.drop jj) = R) := by show _ = R; rw [← HX.out]; exact (ckRest_yes HH.out ⟨HXL.out, HXC.out, hz⟩).symm
                        clear hz
                        go_wp2_with fail
                        go_roundw
                        case rel => exact ⟨n + 1, i + 1, jj, by omega, by go_num, by go_num, rfl, by omega, hj, hI4, by rw [← HDR.out]; exact HN.out, hL4, hP4, hb5⟩
                        case measure => simp [intOf]; omega
                    · have bxc : (x.cls != cv) = true := by simp [hxc]
                      have HN : Hid (R = false) := by show R = false; rw [← HX.out]; exact ckRest_no HH.out (fun h => hxc h.2.1)
                      clear hxl hxc
                      go_wp2_with fail
                      go_quiet (fail)
                      go_wp2_with fail
                      go_ret
                      exact ⟨by rw [ckE_no HN.out]; rfl, by (repeat (first | with_reducible exact Below.refl _ _ | with_reducible assumption | with_reducible refine below_drewN ?_ _ | with_reducible refine Below.drew ?_ | with_reducible refine Below.alloc ?_ (by first | omega | (simp; omega) | simp) _ | with_reducible refine Below.setCell ?_ (by first | omega | (simp; omega) | simp) _))⟩
                  · have bxl : (x.line != a) = true := by simp [hxl]
                    have HN : Hid (R = false) := by show R = false; rw [← HX.out]; exact ckRest_no HH.out (fun h => hxl h.1)
                    clear hxl
                    go_wp2_with fail
                    go_quiet (fail)
                    go_wp2_with fail
                    go_ret
                    exact ⟨by rw [ckE_no HN.out]; rfl, by (repeat (first | with_reducible exact Below.refl _ _ | with_reducible assumption | with_reducible refine below_drewN ?_ _ | with_reducible refine Below.drew ?_ | with_reducible refine Below.alloc ?_ (by first | omega | (simp; omega) | simp) _ | with_reducible refine Below.setCell ?_ (by first | omega | (simp; omega) | simp) _))⟩
                · have bi : decide (bs.length ≤ i) = true := by simp; omega
                  have HN : Hid (R = false) := by
                    show R = false
                    rw [← HE.out, List.drop_eq_nil_of_le (show bs.length ≤ i by omega)]
                    exact ckRest_none HH.out
                  clear HE hcB
                  go_wp2_with fail
                  go_quiet (fail)
                  go_wp2_with fail
                  go_ret
                  exact ⟨by rw [ckE_no HN.out]; rfl, by (repeat (first | with_reducible exact Below.refl _ _ | with_reducible assumption | with_reducible refine below_drewN ?_ _ | with_reducible refine Below.drew ?_ | with_reducible refine Below.alloc ?_ (by first | omega | (simp; omega) | simp) _ | with_reducible refine Below.setCell ?_ (by first | omega | (simp; omega) | simp) _))⟩
            · have hjl : n = st.length := by omega
              rw [hjl, List.drop_length, ckRest_nil] at hE
              have HN : Hid (ckChunks heap (k + 1) (cs.drop (k + 1)) (bs.drop i) (ds.drop jj) = R) := by show _ = R; rw [HCS'.out]; exact hE
              clear hE
              go_wp2_with fail
              go_roundw
              case rel => exact ⟨k + 1, i, jj, by omega, by go_num, rfl, rfl, hi, hj, HN.out, hL, hP, hb⟩
              case measure => simp [intOf]; omega
    · have hkl : k = cs.length := by omega
      have hE := HE.out
      rw [hkl, List.drop_length] at hE
      by_cases hz1 : i = bs.length
      · have bz1 : ((i : Int) != (bs.length : Int)) = false := by simp; omega
        by_cases hz2 : jj = ds.length
        · have bz2 : ((jj : Int) != (ds.length : Int)) = false := by simp; omega
          have HN : Hid (R = true) := by
            show R = true
            rw [← hE, hz1, hz2, List.drop_length, List.drop_length]
            rfl
          clear hE HE hz1 hz2
          go_wp2_with fail
          go_ret
          exact ⟨by rw [ckE_yes HN.out]; rfl, hb⟩
        · have bz2 : ((jj : Int) != (ds.length : Int)) = true := by simp; omega
          have HN : Hid (R = false) := by
            show R = false
            have h9 : (ds.drop jj).isEmpty = false := List.isEmpty_eq_false_iff.2 (fun h => hz2 (by have := List.drop_eq_nil_iff.1 h; omega))
            rw [← hE, ckChunks, h9, Bool.and_false]
          clear hE HE hz1 hz2
          go_wp2_with fail
          go_ret
          exact ⟨by rw [ckE_no HN.out]; rfl, hb⟩
      · have bz1 : ((i : Int) != (bs.length : Int)) = true := by simp; omega
        have HN : Hid (R = false) := by
          show R = false
          have h9 : (bs.drop i).isEmpty = false := List.isEmpty_eq_false_iff.2 (fun h => hz1 (by have := List.drop_eq_nil_iff.1 h; omega))
          rw [← hE, ckChunks, h9, Bool.false_and]
        clear hE HE hz1
        go_wp2_with fail
        go_ret
        exact ⟨by rw [ckE_no HN.out]; rfl, hb⟩
end Go.Proofs.YtcoeoggoaiebeaaDoor
