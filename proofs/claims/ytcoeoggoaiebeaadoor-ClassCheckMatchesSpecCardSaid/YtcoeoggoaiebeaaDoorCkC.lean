/-
  class.Check at every picture.
-/
import Derived.Test.YtcoeoggoaiebeaaDoorCkLaw
namespace Go.Proofs.YtcoeoggoaiebeaaDoor
open Go.RowKit
set_option linter.unusedSimpArgs false
set_option linter.unusedVariables false

def CkcRel1 (w : World) (lay : Array Value) (heap : Int) (cs : List Int) (t2 t3 : TypeId) (R : Bool) (v5 v6 i : Value) (wr : World) : Prop :=
  ∃ (k n2 n3 : Nat) (A2 A3 : Option Addr) (c2 c3 : Nat) (bs : List Bk) (ds : List Int), k ≤ cs.length ∧ i = .int .i64 k ∧ v5 = .slice A2 n2 c2 ∧ v6 = .slice A3 n3 c3 ∧ n2 ≤ 1000 ∧ n3 ≤ 1000 ∧
    RB wr t2 (.slice A2 n2 c2) bs ∧ RI wr t3 (.slice A3 n3 c3) ds ∧ ckChunks heap k (cs.drop k) bs ds = R ∧ Cl wr w.heap.size 31 lay ∧ Below w.heap.size w wr
def CkcRel2 (w : World) (lay : Array Value) (heap : Int) (k : Nat) (cs : List Int) (cv : Int) (sv : Value) (st : List Int) (t2 t3 : TypeId) (R : Bool) (v5 v6 i : Value) (wr : World) : Prop :=
  ∃ (j n2 n3 : Nat) (A2 A3 : Option Addr) (c2 c3 : Nat) (bs : List Bk) (ds : List Int), j ≤ st.length ∧ i = .int .i64 j ∧ v5 = .slice A2 n2 c2 ∧ v6 = .slice A3 n3 c3 ∧ n2 ≤ 1000 ∧ n3 ≤ 1000 ∧
    RB wr t2 (.slice A2 n2 c2) bs ∧ RI wr t3 (.slice A3 n3 c3) ds ∧ RdI wr sv st ∧ ckRest heap k cs cv (st.drop j) bs ds = R ∧ Cl wr w.heap.size 31 lay ∧ Below w.heap.size w wr

set_option maxRecDepth 100000 in
set_option maxHeartbeats 1000000 in
theorem ckc_other (w : World) (l0 l1 l2 l3 l4 l5 heap : Int) (m : Nat) (ch bl bd : Value) (cs : List Int) {t1 : TypeId} (hC : RI w t1 ch cs) (hne : cs.length ≠ m) (hl : cs.length ≤ 1000) (hm : m ≤ 200) :
    Calls Tryd.prog 21 #[.agg #[.int .i64 l0, .int .i64 l1, .int .i64 l2, .int .i64 l3, .int .i64 l4, .int .i64 l5, .int .i64 heap, .int .i64 (m : Int)], .agg #[ch, bl, bd]] w fun e w' => e = .returned (.int .i64 3) ∧ Below w.heap.size w w' := by
  obtain ⟨A1, c1, rfl, _, hcC⟩ := Rd.atI hC
  have bl0 : ((cs.length : Int) != (m : Int)) = true := by simp; omega
  clear hcC hne hC
  go_enter Tryd.func21, Tryd.ntmps21
  go_wp2_with fail
  go_ret
  exact ⟨rfl, by (repeat (first | with_reducible exact Below.refl _ _ | with_reducible assumption | with_reducible refine below_drewN ?_ _ | with_reducible refine Below.drew ?_ | with_reducible refine Below.alloc ?_ (by first | omega | (simp; omega) | simp) _ | with_reducible refine Below.setCell ?_ (by first | omega | (simp; omega) | simp) _))⟩

set_option maxRecDepth 100000 in
set_option maxHeartbeats 4000000 in
theorem ckc_calls (w : World) (l0 l1 l2 l3 l4 l5 heap : Int) (m : Nat) (ch bl bd : Value) (cs : List Int) (bs : List Bk) (ds : List Int) {t1 t2 t3 : TypeId} (hC : RI w t1 ch cs) (hR : RB w t2 bl bs) (hD : RI w t3 bd ds) (hd : Hd w)
    (hm : m ≤ 200) (hh0 : 0 ≤ heap) (hh1 : heap ≤ 5000) (hn : bs.length ≤ 1000) (hn3 : ds.length ≤ 1000) (hlen : cs.length = m) :
    Calls Tryd.prog 21 #[.agg #[.int .i64 l0, .int .i64 l1, .int .i64 l2, .int .i64 l3, .int .i64 l4, .int .i64 l5, .int .i64 heap, .int .i64 (m : Int)], .agg #[ch, bl, bd]] w fun e w' => e = .returned (.int .i64 (ckE (ckChunks heap 0 cs bs ds))) ∧ Below w.heap.size w w' := by
  subst hlen
  obtain ⟨A1, c1, rfl, _, hcC⟩ := Rd.atI hC
  obtain ⟨A2, c2, rfl⟩ := Rd.form hR
  obtain ⟨A3, c3, rfl⟩ := Rd.form hD
  have bl0 : ((cs.length : Int) != (cs.length : Int)) = false := by simp
  obtain ⟨R, hRR⟩ : ∃ R, ckChunks heap 0 cs bs ds = R := ⟨_, rfl⟩
  rw [hRR]
  have HRR := Lib.hid hRR
  clear hRR hC
  go_enter Tryd.func21, Tryd.ntmps21
  go_wp2_with fail
  go_quiet (fail)
  go_wp2_with fail
  go_loopw [5, 6, 24] (fun v5 v6 i wr => CkcRel1 w #[.int .i64 l0, .int .i64 l1, .int .i64 l2, .int .i64 l3, .int .i64 l4, .int .i64 l5, .int .i64 heap, .int .i64 (cs.length : Int)] heap cs t2 t3 R v5 v6 i wr) (fun _ _ i _ => cs.length - (intOf i).toNat)
  case atStart => exact ⟨0, bs.length, ds.length, A2, A3, c2, c3, bs, ds, Nat.zero_le _, rfl, rfl, rfl, hn, hn3, hR.below (by (repeat (first | with_reducible exact Below.refl _ _ | with_reducible assumption | with_reducible refine below_drewN ?_ _ | with_reducible refine Below.drew ?_ | with_reducible refine Below.alloc ?_ (by first | omega | (simp; omega) | simp) _ | with_reducible refine Below.setCell ?_ (by first | omega | (simp; omega) | simp) _))), hD.below (by (repeat (first | with_reducible exact Below.refl _ _ | with_reducible assumption | with_reducible refine below_drewN ?_ _ | with_reducible refine Below.drew ?_ | with_reducible refine Below.alloc ?_ (by first | omega | (simp; omega) | simp) _ | with_reducible refine Below.setCell ?_ (by first | omega | (simp; omega) | simp) _))), HRR.out, ((Cl.new _ _ _).alloc _).drewN _, by (repeat (first | with_reducible exact Below.refl _ _ | with_reducible assumption | with_reducible refine below_drewN ?_ _ | with_reducible refine Below.drew ?_ | with_reducible refine Below.alloc ?_ (by first | omega | (simp; omega) | simp) _ | with_reducible refine Below.setCell ?_ (by first | omega | (simp; omega) | simp) _))⟩
  case round =>
    clear HRR hR hD hn hn3
    obtain ⟨k, n2, n3, A2, A3, c2, c3, bs, ds, hk, rfl, rfl, rfl, hn2, hn3, hB, hD, hE, hL, hb⟩ := hrel
    have HE := Lib.hid hE
    clear hE
    by_cases hlt : k < cs.length
    · obtain ⟨bC, oC, rfl, hbC, hcell⟩ := hcC k hlt
      obtain ⟨cv, hxk⟩ : ∃ cv, cs[k]? = some cv := ⟨_, List.getElem?_eq_getElem hlt⟩
      have dk := (hb.cell (p := ⟨bC, oC + k, none⟩) hbC).trans (hcell _ hxk)
      have HDR0 := Lib.hid (drop_at hxk)
      clear hcC hcell hxk
      have hsL := hL.lt
      obtain ⟨y0, y1, y2, y3, y4, y5, y6, y7⟩ := hL.cells8
      obtain ⟨w1, hw1⟩ : ∃ x : World, x = wr := ⟨_, rfl⟩
      subst hw1
      obtain ⟨cs', hcs'⟩ : ∃ cs', cs.drop (k + 1) = cs' := ⟨_, rfl⟩
      have HCS' := Lib.hid hcs'
      have HE2 : Hid (ckChunks heap k (cv :: cs') bs ds = R) := by show _ = R; rw [← HE.out, HDR0.out, HCS'.out]
      clear hcs' HE
      by_cases hv0 : cv < -2
      · have HN : Hid (R = false) := by show R = false; rw [← HE2.out]; exact ckChunks_out (.inl hv0)
        go_wp2_with fail
        go_ret
        exact ⟨by rw [ckE_no HN.out]; rfl, hb⟩
      · by_cases hv1 : 4 < cv
        · have HN : Hid (R = false) := by show R = false; rw [← HE2.out]; exact ckChunks_out (.inr hv1)
          go_wp2_with fail
          go_ret
          exact ⟨by rw [ckE_no HN.out]; rfl, hb⟩
        · have HST := Lib.hid (fun w : World => starts_at w l0 l1 l2 l3 l4 l5 heap cs.length k cv hlt (by omega) hh0 hh1 (by omega) (by omega))
          have HE3 : Hid (ckRest heap k cs' cv (chunkLs heap k cv) bs ds = R) := by show _ = R; rw [← HE2.out]; exact (ckChunks_in (by omega)).symm
          have hst16 := chunkLs_length heap k cv
          have HCV : Hid (∀ j, j < (chunkLs heap k cv).length → 0 ≤ cv) := fun j h => chunkLs_in h
          clear HE2
          generalize chunkLs heap k cv = st at *
          go_wp2_with fail
          refine (HST.out _).mono ?_
          rintro e w2 ⟨A5, c5, rfl, hI, hb2⟩
          have hL2 := hL.below hb2 hL.lt
          have hR2 := hB.below hb2
          have hD2 := hD.below hb2
          have hB2 := hb.trans (hb2.mono hb.size)
          clear hb2 hL hB hD hb y0 y1 y2 y3 y4 y5 y6 y7 dk HST
          go_wp2_with fail
          go_loopw [5, 6, 40] (fun v5 v6 i wr => CkcRel2 w #[.int .i64 l0, .int .i64 l1, .int .i64 l2, .int .i64 l3, .int .i64 l4, .int .i64 l5, .int .i64 heap, .int .i64 (cs.length : Int)] heap k cs' cv (.slice A5 st.length c5) st t2 t3 R v5 v6 i wr) (fun _ _ i _ => st.length - (intOf i).toNat)
          case atStart => exact ⟨0, n2, n3, A2, A3, c2, c3, bs, ds, Nat.zero_le _, rfl, rfl, rfl, hn2, hn3, hR2, hD2, hI, HE3.out, hL2, hB2⟩
          case round =>
            clear hI hL2 hR2 hB2 hD2 HE3 hn2 hn3
            obtain ⟨j, n2, n3, A2, A3, c2, c3, bs, ds, hj, rfl, rfl, rfl, hn2, hn3, hB, hD, hI, hE, hL, hb⟩ := hrel
            obtain ⟨w3, hw3⟩ : ∃ x : World, x = wr := ⟨_, rfl⟩
            subst hw3
            by_cases hlt2 : j < st.length
            · obtain ⟨Ai, ci, hvi, _, hci⟩ := hI.at_
              obtain ⟨bi, oi, hAi, hbi, hcl⟩ := hci j hlt2
              obtain ⟨a, ha⟩ : ∃ a, st[j]? = some a := ⟨_, List.getElem?_eq_getElem hlt2⟩
              injection hvi with e1 e2 e3
              subst e3
              subst hAi
              subst e1
              have di := hcl _ ha
              rw [drop_at ha] at hE
              obtain ⟨st', hst'⟩ : ∃ st', st.drop (j + 1) = st' := ⟨_, rfl⟩
              rw [hst'] at hE
              have HDR : Hid (st' = st.drop (j + 1)) := hst'.symm
              have HE := Lib.hid hE
              clear hci hcl ha e2 hE hst'
              cases ds with
              | nil =>
                obtain rfl := hD.len
                have HH : Hid (([] : List Int).head? ≠ some a) := by show _ ≠ _; simp
                simp only [List.length_nil] at *
                cases bs with
                | nil =>
                  obtain rfl := hB.len
                  have HN : Hid (R = false) := by show R = false; rw [← HE.out]; exact ckRest_none HH.out
                  simp only [List.length_nil] at *
                  go_wp2_with fail
                  go_ret
                  exact ⟨by rw [ckE_no HN.out]; rfl, hb⟩
                | cons x bs =>
                  obtain ⟨hl2, hc2, hm2, b2, o2, rfl, hlb2, z0, z1, z2, z3⟩ := hB.first
                  have hp2 : 0 < n2 := by omega
                  have hmx2 : c2 ≤ 9223372036854775807 := by unfold maxLen at hm2; omega
                  have HL2 := Lib.hid hl2
                  clear hl2
                  by_cases hxl : x.line = a
                  · have bxl : (x.line == a) = true := by simp [hxl]
                    by_cases hxc : x.cls = cv
                    · have bxc : (x.cls == cv) = true := by simp [hxc]
                      have hd3 := hd.below hb
                      have HXL := Lib.hid hxl
                      have HXC := Lib.hid hxc
                      have hx0 : 0 ≤ x.cls := by have := HCV.out j hlt2; omega
                      have hx4 : x.cls ≤ 4 := by omega
                      clear hxl hxc
                      go_wp2_with fail
                      refine (can_calls _ x hd3 hx0 hx4).mono ?_
                      rintro e w4 ⟨rfl, hb4⟩
                      have hL4 := hL.below hb4 hL.lt
                      have hI4 := hI.below hb4
                      have hB4 := hB.below hb4
                      have hD4 := hD.below hb4
                      have hb5 := hb.trans (hb4.mono hb.size)
                      clear hb4 hL hI hB hD hb di z0 z1 z2 z3 hd3
                      cases hz : canZ x.kind x.gen
                      · have HN : Hid (R = false) := by show R = false; rw [← HE.out]; exact ckRest_no HH.out (fun h => by have := h.2.2; rw [hz] at this; cases this)
                        clear hz
                        go_wp2_with fail
                        go_ret
                        exact ⟨by rw [ckE_no HN.out]; rfl, hb5⟩
                      · have HN : Hid (ckRest heap k cs' cv st' bs [] = R) := by show _ = R; rw [← HE.out]; exact (ckRest_yes HH.out ⟨HXL.out, HXC.out, hz⟩).symm
                        clear hz
                        by_cases hc1 : c2 = 1
                        · subst hc1
                          have hn3 : n2 = 1 := by omega
                          have hE : bs = [] := List.eq_nil_of_length_eq_zero (by have := HL2.out; omega)
                          subst hn3
                          subst hE
                          go_wp2_with fail
                          go_roundw
                          case rel => exact ⟨j + 1, 0, 0, some ⟨b2, o2, none⟩, A3, 0, c3, [], [], by omega, by go_num, rfl, rfl, by omega, by omega, RB.zero _ 0 (by unfold maxLen; omega) (fun _ => rfl), hD4, hI4, by rw [← HDR.out]; exact HN.out, hL4, hb5⟩
                          case measure => simp [intOf]; omega
                        · go_wp2_with fail
                          go_roundw
                          case rel => exact ⟨j + 1, n2 - 1, 0, some ⟨b2, o2 + 4, none⟩, A3, c2 - 1, c3, bs, [], by omega, by go_num, rfl, rfl, by omega, by omega, hB4.tail (by omega), hD4, hI4, by rw [← HDR.out]; exact HN.out, hL4, hb5⟩
                          case measure => simp [intOf]; omega
                    · have bxc : (x.cls == cv) = false := by simp [hxc]
                      have HN : Hid (R = false) := by show R = false; rw [← HE.out]; exact ckRest_no HH.out (fun h => hxc h.2.1)
                      clear hxl hxc
                      go_wp2_with fail
                      go_ret
                      exact ⟨by rw [ckE_no HN.out]; rfl, hb⟩
                  · have bxl : (x.line == a) = false := by simp [hxl]
                    have HN : Hid (R = false) := by show R = false; rw [← HE.out]; exact ckRest_no HH.out (fun h => hxl h.1)
                    clear hxl
                    go_wp2_with fail
                    go_ret
                    exact ⟨by rw [ckE_no HN.out]; rfl, hb⟩
              | cons d ds =>
                obtain ⟨hl3, hc3, hm3, b3, o3, rfl, hlb3, y3⟩ := hD.first
                have hp3 : 0 < n3 := by omega
                have hmx3 : c3 ≤ 9223372036854775807 := by unfold maxLen at hm3; omega
                have HL3 := Lib.hid hl3
                clear hl3
                by_cases hda : d = a
                · subst hda
                  have bda : (d == d) = true := by simp
                  have HN : Hid (ckRest heap k cs' cv st' bs ds = R) := by show _ = R; rw [← HE.out]; exact ckRest_bad.symm
                  clear HE
                  by_cases hc1 : c3 = 1
                  · subst hc1
                    have hn4 : n3 = 1 := by omega
                    have hE : ds = [] := List.eq_nil_of_length_eq_zero (by have := HL3.out; omega)
                    subst hn4
                    subst hE
                    go_wp2_with fail
                    go_roundw
                    case rel => exact ⟨j + 1, n2, 0, A2, some ⟨b3, o3, none⟩, c2, 0, bs, [], by omega, by go_num, rfl, rfl, by omega, by omega, hB, RI.zero _ 0 (by unfold maxLen; omega) (fun _ => rfl), hI, by rw [← HDR.out]; exact HN.out, hL, hb⟩
                    case measure => simp [intOf]; omega
                  · go_wp2_with fail
                    go_roundw
                    case rel => exact ⟨j + 1, n2, n3 - 1, A2, some ⟨b3, o3 + 1, none⟩, c2, c3 - 1, bs, ds, by omega, by go_num, rfl, rfl, by omega, by omega, hB, hD.tail (by omega), hI, by rw [← HDR.out]; exact HN.out, hL, hb⟩
                    case measure => simp [intOf]; omega
                · have bda : (d == a) = false := by simp [hda]
                  have HH : Hid ((d :: ds).head? ≠ some a) := by show _ ≠ _; simp [hda]
                  clear hda
                  cases bs with
                  | nil =>
                    obtain rfl := hB.len
                    have HN : Hid (R = false) := by show R = false; rw [← HE.out]; exact ckRest_none HH.out
                    simp only [List.length_nil] at *
                    go_wp2_with fail
                    go_ret
                    exact ⟨by rw [ckE_no HN.out]; rfl, hb⟩
                  | cons x bs =>
                    obtain ⟨hl2, hc2, hm2, b2, o2, rfl, hlb2, z0, z1, z2, z3⟩ := hB.first
                    have hp2 : 0 < n2 := by omega
                    have hmx2 : c2 ≤ 9223372036854775807 := by unfold maxLen at hm2; omega
                    have HL2 := Lib.hid hl2
                    clear hl2
                    by_cases hxl : x.line = a
                    · have bxl : (x.line == a) = true := by simp [hxl]
                      by_cases hxc : x.cls = cv
                      · have bxc : (x.cls == cv) = true := by simp [hxc]
                        have hd3 := hd.below hb
                        have HXL := Lib.hid hxl
                        have HXC := Lib.hid hxc
                        have hx0 : 0 ≤ x.cls := by have := HCV.out j hlt2; omega
                        have hx4 : x.cls ≤ 4 := by omega
                        clear hxl hxc
                        go_wp2_with fail
                        refine (can_calls _ x hd3 hx0 hx4).mono ?_
                        rintro e w4 ⟨rfl, hb4⟩
                        have hL4 := hL.below hb4 hL.lt
                        have hI4 := hI.below hb4
                        have hB4 := hB.below hb4
                        have hD4 := hD.below hb4
                        have hb5 := hb.trans (hb4.mono hb.size)
                        clear hb4 hL hI hB hD hb di z0 z1 z2 z3 hd3
                        cases hz : canZ x.kind x.gen
                        · have HN : Hid (R = false) := by show R = false; rw [← HE.out]; exact ckRest_no HH.out (fun h => by have := h.2.2; rw [hz] at this; cases this)
                          clear hz
                          go_wp2_with fail
                          go_ret
                          exact ⟨by rw [ckE_no HN.out]; rfl, hb5⟩
                        · have HN : Hid (ckRest heap k cs' cv st' bs (d :: ds) = R) := by show _ = R; rw [← HE.out]; exact (ckRest_yes HH.out ⟨HXL.out, HXC.out, hz⟩).symm
                          clear hz
                          by_cases hc1 : c2 = 1
                          · subst hc1
                            have hn3 : n2 = 1 := by omega
                            have hE : bs = [] := List.eq_nil_of_length_eq_zero (by have := HL2.out; omega)
                            subst hn3
                            subst hE
                            go_wp2_with fail
                            go_roundw
                            case rel => exact ⟨j + 1, 0, n3, some ⟨b2, o2, none⟩, some ⟨b3, o3, none⟩, 0, c3, [], (d :: ds), by omega, by go_num, rfl, rfl, by omega, by omega, RB.zero _ 0 (by unfold maxLen; omega) (fun _ => rfl), hD4, hI4, by rw [← HDR.out]; exact HN.out, hL4, hb5⟩
                            case measure => simp [intOf]; omega
                          · go_wp2_with fail
                            go_roundw
                            case rel => exact ⟨j + 1, n2 - 1, n3, some ⟨b2, o2 + 4, none⟩, some ⟨b3, o3, none⟩, c2 - 1, c3, bs, (d :: ds), by omega, by go_num, rfl, rfl, by omega, by omega, hB4.tail (by omega), hD4, hI4, by rw [← HDR.out]; exact HN.out, hL4, hb5⟩
                            case measure => simp [intOf]; omega
                      · have bxc : (x.cls == cv) = false := by simp [hxc]
                        have HN : Hid (R = false) := by show R = false; rw [← HE.out]; exact ckRest_no HH.out (fun h => hxc h.2.1)
                        clear hxl hxc
                        go_wp2_with fail
                        go_ret
                        exact ⟨by rw [ckE_no HN.out]; rfl, hb⟩
                    · have bxl : (x.line == a) = false := by simp [hxl]
                      have HN : Hid (R = false) := by show R = false; rw [← HE.out]; exact ckRest_no HH.out (fun h => hxl h.1)
                      clear hxl
                      go_wp2_with fail
                      go_ret
                      exact ⟨by rw [ckE_no HN.out]; rfl, hb⟩
            · have hjl : j = st.length := by omega
              rw [hjl, List.drop_length, ckRest_nil] at hE
              have HN : Hid (ckChunks heap (k + 1) (cs.drop (k + 1)) bs ds = R) := by show _ = R; rw [HCS'.out]; exact hE
              clear hE
              go_wp2_with fail
              go_roundw
              case rel => exact ⟨k + 1, n2, n3, A2, A3, c2, c3, bs, ds, by omega, by go_num, rfl, rfl, hn2, hn3, hB, hD, HN.out, hL, hb⟩
              case measure => simp [intOf]; omega
    · have hkl : k = cs.length := by omega
      have hE := HE.out
      rw [hkl, List.drop_length] at hE
      have hBl := hB.len
      have hDl := hD.len
      by_cases hz : n2 = 0 ∧ n3 = 0
      · obtain ⟨rfl, rfl⟩ := hz
        have HN : Hid (R = true) := by
          show R = true
          rw [← hE, List.eq_nil_of_length_eq_zero hBl.symm, List.eq_nil_of_length_eq_zero hDl.symm]
          rfl
        clear hE HE hBl hDl
        go_wp2_with fail
        go_ret
        exact ⟨by rw [ckE_yes HN.out]; rfl, hb⟩
      · have HN : Hid (R = false) := by
          show R = false
          rw [← hE, ckChunks]
          cases bs with
          | cons _ _ => rfl
          | nil => cases ds with
            | cons _ _ => rfl
            | nil => exact absurd ⟨hBl, hDl⟩ hz
        have hs : 0 < n2 + n3 := by omega
        have hsd : decide (0 < (n2 : Int) + (n3 : Int)) = true := by simp; omega
        clear hE HE hBl hDl hz
        go_wp2_with fail
        go_ret
        exact ⟨by rw [ckE_no HN.out]; rfl, hb⟩
end Go.Proofs.YtcoeoggoaiebeaaDoor
