/-
  The law ClassStartsMatchSpec returns true.
-/
import Derived.Test.YtcoeoggoaiebeaaDoorSan
import Derived.Test.YtcoeoggoaiebeaaDoorRStarts
namespace Go.Proofs.YtcoeoggoaiebeaaDoor
open Go.RowKit
set_option linter.unusedSimpArgs false
set_option linter.unusedVariables false

/-- What the starts are, at every two integers. -/
def startsZ (heap : Int) (chunks : Nat) (k c : Int) : List Int := if 0 ≤ k ∧ k < chunks ∧ 0 ≤ c ∧ c ≤ 4 then (chunkSpots heap k.toNat c.toNat).map (·.1) else []

theorem starts_all (w : World) (l0 l1 l2 l3 l4 l5 heap : Int) (chunks : Nat) (k c : Int) (hc : chunks ≤ 300) (hh0 : 0 ≤ heap) (hh1 : heap ≤ 5000) :
    Calls Tryd.prog 15 #[.agg #[.int .i64 l0, .int .i64 l1, .int .i64 l2, .int .i64 l3, .int .i64 l4, .int .i64 l5, .int .i64 heap, .int .i64 (chunks : Int)], .int .i64 k, .int .i64 c] w (IntsPost w (startsZ heap chunks k c)) := by
  rcases five' c with h | h
  · have e : startsZ heap chunks k c = [] := by unfold startsZ; rw [if_neg (by omega)]
    rw [e]
    exact startsC_out w _ k c h
  by_cases h0 : k < 0
  · have e : startsZ heap chunks k c = [] := by unfold startsZ; rw [if_neg (by omega)]
    rw [e]
    rcases h with rfl | rfl | rfl | rfl | rfl
    · exact startsK_neg0 w l0 l1 l2 l3 l4 l5 heap chunks k h0
    · exact startsK_neg1 w l0 l1 l2 l3 l4 l5 heap chunks k h0
    · exact startsK_neg2 w l0 l1 l2 l3 l4 l5 heap chunks k h0
    · exact startsK_neg3 w l0 l1 l2 l3 l4 l5 heap chunks k h0
    · exact startsK_neg4 w l0 l1 l2 l3 l4 l5 heap chunks k h0
  by_cases h1 : (chunks : Int) ≤ k
  · have e : startsZ heap chunks k c = [] := by unfold startsZ; rw [if_neg (by omega)]
    rw [e]
    rcases h with rfl | rfl | rfl | rfl | rfl
    · exact startsK_big0 w l0 l1 l2 l3 l4 l5 heap chunks k h0 h1
    · exact startsK_big1 w l0 l1 l2 l3 l4 l5 heap chunks k h0 h1
    · exact startsK_big2 w l0 l1 l2 l3 l4 l5 heap chunks k h0 h1
    · exact startsK_big3 w l0 l1 l2 l3 l4 l5 heap chunks k h0 h1
    · exact startsK_big4 w l0 l1 l2 l3 l4 l5 heap chunks k h0 h1
  obtain ⟨q, rfl⟩ := Int.eq_ofNat_of_zero_le (show 0 ≤ k by omega)
  have e : startsZ heap chunks q c = (chunkSpots heap q c.toNat).map (·.1) := by unfold startsZ; rw [if_pos (by omega), Int.toNat_natCast]
  rw [e]
  rcases h with rfl | rfl | rfl | rfl | rfl
  · exact starts0 w l0 l1 l2 l3 l4 l5 heap chunks q (by omega) hc hh0 hh1
  · exact starts1 w l0 l1 l2 l3 l4 l5 heap chunks q (by omega) hc hh0 hh1
  · exact starts2 w l0 l1 l2 l3 l4 l5 heap chunks q (by omega) hc hh0 hh1
  · exact starts3 w l0 l1 l2 l3 l4 l5 heap chunks q (by omega) hc hh0 hh1
  · exact starts4 w l0 l1 l2 l3 l4 l5 heap chunks q (by omega) hc hh0 hh1

theorem rstarts_all (w : World) (l0 l1 l2 l3 l4 l5 heap : Int) (chunks : Nat) (k c : Int) (hc : chunks ≤ 300) (hh0 : 0 ≤ heap) (hh1 : heap ≤ 5000) :
    Calls Tryd.prog 16 #[.agg #[.int .i64 l0, .int .i64 l1, .int .i64 l2, .int .i64 l3, .int .i64 l4, .int .i64 l5, .int .i64 heap, .int .i64 (chunks : Int)], .int .i64 k, .int .i64 c] w (IntsPost w (startsZ heap chunks k c)) := by
  by_cases h0 : k < 0
  · have e : startsZ heap chunks k c = [] := by unfold startsZ; rw [if_neg (by omega)]
    rw [e]
    exact rstarts_a w l0 l1 l2 l3 l4 l5 heap chunks k c h0
  by_cases h1 : (chunks : Int) ≤ k
  · have e : startsZ heap chunks k c = [] := by unfold startsZ; rw [if_neg (by omega)]
    rw [e]
    exact rstarts_b w l0 l1 l2 l3 l4 l5 heap chunks k c ⟨by omega, h1⟩
  by_cases h2 : c < 0
  · have e : startsZ heap chunks k c = [] := by unfold startsZ; rw [if_neg (by omega)]
    rw [e]
    exact rstarts_c w l0 l1 l2 l3 l4 l5 heap chunks k c ⟨by omega, by omega, h2⟩
  by_cases h3 : 4 < c
  · have e : startsZ heap chunks k c = [] := by unfold startsZ; rw [if_neg (by omega)]
    rw [e]
    exact rstarts_d w l0 l1 l2 l3 l4 l5 heap chunks k c ⟨by omega, by omega, h3⟩
  obtain ⟨q, rfl⟩ := Int.eq_ofNat_of_zero_le (show 0 ≤ k by omega)
  have e : startsZ heap chunks q c = (chunkSpots heap q c.toNat).map (·.1) := by unfold startsZ; rw [if_pos (by omega), Int.toNat_natCast]
  rw [e]
  have h : c = 0 ∨ c = 1 ∨ c = 2 ∨ c = 3 ∨ c = 4 := by omega
  rcases h with rfl | rfl | rfl | rfl | rfl
  · exact rstarts0 w l0 l1 l2 l3 l4 l5 heap chunks q (by omega) hc hh0 hh1
  · exact rstarts1 w l0 l1 l2 l3 l4 l5 heap chunks q (by omega) hc hh0 hh1
  · exact rstarts2 w l0 l1 l2 l3 l4 l5 heap chunks q (by omega) hc hh0 hh1
  · exact rstarts3 w l0 l1 l2 l3 l4 l5 heap chunks q (by omega) hc hh0 hh1
  · exact rstarts4 w l0 l1 l2 l3 l4 l5 heap chunks q (by omega) hc hh0 hh1

theorem startsZ_len (heap : Int) (chunks : Nat) (k c : Int) : (startsZ heap chunks k c).length ≤ 16 := by
  unfold startsZ
  split
  · simp only [List.length_map, chunkSpots, spotsN_length]
    exact Nat.div_le_self _ _
  · simp

theorem plan_box (w : World) (L : Nat) (h1 : 64 ≤ L) (h2 : L ≤ 4096) :
    Calls Tryd.prog 13 #[.int .i64 (L : Int)] w fun e w' => ∃ (l2 l3 l4 l5 heap : Int) (chunks : Nat), e = .returned (.tuple #[.agg #[.int .i64 (L : Int), .int .i64 2, .int .i64 l2, .int .i64 l3, .int .i64 l4, .int .i64 l5, .int .i64 heap, .int .i64 (chunks : Int)], .int .i64 0]) ∧ chunks ≤ 300 ∧ 0 ≤ heap ∧ heap ≤ 5000 ∧ Below w.heap.size w w' := by
  refine (plan_calls w L h1 h2).mono ?_
  rintro e w' ⟨rfl, hb⟩
  have hh : 0 ≤ upTo16 (planStart L (planLogs L) (planIntents L)) ∧ upTo16 (planStart L (planLogs L) (planIntents L)) ≤ L := by
    unfold upTo16 planStart planLogs planIntents
    (repeat' split) <;> omega
  obtain ⟨q, hq⟩ := Int.eq_ofNat_of_zero_le (show 0 ≤ ((L : Int) - upTo16 (planStart L (planLogs L) (planIntents L))) / 16 by omega)
  rw [hq]
  exact ⟨_, _, _, _, _, q, rfl, by omega, hh.1, by omega, hb⟩

set_option maxRecDepth 100000 in
set_option maxHeartbeats 4000000 in
theorem startsMatch_calls (w : World) (a k c : Int) (h : 0 ≤ a ∧ a ≤ 65535) (hd : Hd w) (hp : Pt w) :
    Calls Tryd.prog 5 #[.int .u16 a, .int .i64 k, .int .i64 c] w fun e w' => e = .returned (.bool true) ∧ Below w.heap.size w w' := by
  obtain ⟨n, rfl⟩ := Int.eq_ofNat_of_zero_le h.1
  have hn : n ≤ 65535 := by omega
  have hL := Lib.hid (show 64 ≤ 64 + n % 4033 ∧ 64 + n % 4033 ≤ 4096 by omega)
  clear h
  go_enter Tryd.func5, Tryd.ntmps5
  go_wp2_with fail
  refine (sanity_calls _ hd hp).mono ?_
  rintro e w1 ⟨rfl, hB⟩
  clear hd hp
  go_wp2_with fail
  refine (plan_box _ (64 + n % 4033) hL.out.1 hL.out.2).mono ?_
  rintro e w2 ⟨l2, l3, l4, l5, heap, chunks, rfl, g1, g2, g3, hb⟩
  obtain ⟨L, hLL⟩ : ∃ L : Int, ((64 + n % 4033 : Nat) : Int) = L := ⟨_, rfl⟩
  rw [hLL]
  replace hB := hB.trans (hb.mono hB.size)
  clear hb hL hLL hn
  have HG := Lib.hid (show chunks ≤ 300 ∧ 0 ≤ heap ∧ heap ≤ 5000 from ⟨g1, g2, g3⟩)
  clear g1 g2 g3
  go_upto_region 3 with (fail)
  generalize hwn : w2.alloc (.cells #[.int .i64 L, .int .i64 2, .int .i64 l2, .int .i64 l3, .int .i64 l4, .int .i64 l5, .int .i64 heap, .int .i64 (chunks : Int)] 31) = w3
  have hC : Cl w3 w2.heap.size 31 #[.int .i64 L, .int .i64 2, .int .i64 l2, .int .i64 l3, .int .i64 l4, .int .i64 l5, .int .i64 heap, .int .i64 (chunks : Int)] := by rw [← hwn]; exact Cl.new _ _ _
  have hB3 : Below w.heap.size w w3 := hB.trans (Below.mono (by rw [← hwn]; (repeat (first | with_reducible exact Below.refl _ _ | with_reducible assumption | with_reducible refine below_drewN ?_ _ | with_reducible refine Below.drew ?_ | with_reducible refine Below.alloc ?_ (by first | omega | (simp; omega) | simp) _ | with_reducible refine Below.setCell ?_ (by first | omega | (simp; omega) | simp) _))) hB.size)
  clear hwn hB
  generalize w2.heap.size = gL at *
  have ll := hC.lt
  obtain ⟨y0, y1, y2, y3, y4, y5, y6, y7⟩ := hC.cells8
  obtain ⟨zs, hzs⟩ : ∃ zs, startsZ heap chunks k c = zs := ⟨_, rfl⟩
  have HZ := Lib.hid hzs
  have HN := Lib.hid (show zs.length ≤ 100000 by rw [← hzs]; exact Nat.le_trans (startsZ_len _ _ _ _) (by omega))
  clear hzs
  go_region_held3 (fun w' => w'.cell? ⟨gL, 0, none⟩ = some (.int .i64 L) ∧ w'.cell? ⟨gL, 1, none⟩ = some (.int .i64 2) ∧ w'.cell? ⟨gL, 2, none⟩ = some (.int .i64 l2) ∧ w'.cell? ⟨gL, 3, none⟩ = some (.int .i64 l3) ∧ w'.cell? ⟨gL, 4, none⟩ = some (.int .i64 l4) ∧ w'.cell? ⟨gL, 5, none⟩ = some (.int .i64 l5) ∧ w'.cell? ⟨gL, 6, none⟩ = some (.int .i64 heap) ∧ w'.cell? ⟨gL, 7, none⟩ = some (.int .i64 (chunks : Int))) (go_keep)
    (first
      | (go_at_call 15; refine (starts_all _ L 2 l2 l3 l4 l5 heap chunks k c HG.out.1 HG.out.2.1 HG.out.2.2).mono ?_; rw [HZ.out]; rintro e wa ⟨A1, c1, rfl, r1, ba0⟩; (first | (have ba : Below w3.heap.size w3 wa := Below.trans bz (Below.mono (Below.trans (by (repeat (first | with_reducible exact Below.refl _ _ | with_reducible assumption | with_reducible refine below_drewN ?_ _ | with_reducible refine Below.drew ?_ | with_reducible refine Below.alloc ?_ (by first | omega | (simp; omega) | simp) _ | with_reducible refine Below.setCell ?_ (by first | omega | (simp; omega) | simp) _))) ba0) bz.size)) | (have ba : Below w3.heap.size w3 wa := Below.trans (by (repeat (first | with_reducible exact Below.refl _ _ | with_reducible assumption | with_reducible refine below_drewN ?_ _ | with_reducible refine Below.drew ?_ | with_reducible refine Below.alloc ?_ (by first | omega | (simp; omega) | simp) _ | with_reducible refine Below.setCell ?_ (by first | omega | (simp; omega) | simp) _))) ba0)); (have qa := Cl.cells8 (hC.below ba ll)); unfold Cells8 at qa; (have R1 := Lib.hid r1); clear r1; (try (have R2' := Lib.hid (Rd.below R2.out (Below.trans (by (repeat (first | with_reducible exact Below.refl _ _ | with_reducible assumption | with_reducible refine below_drewN ?_ _ | with_reducible refine Below.drew ?_ | with_reducible refine Below.alloc ?_ (by first | omega | (simp; omega) | simp) _ | with_reducible refine Below.setCell ?_ (by first | omega | (simp; omega) | simp) _))) ba0)))))
      | (go_at_call 16; refine (rstarts_all _ L 2 l2 l3 l4 l5 heap chunks k c HG.out.1 HG.out.2.1 HG.out.2.2).mono ?_; rw [HZ.out]; rintro e wz ⟨A2, c2, rfl, r2, bz0⟩; (first | (have bz : Below w3.heap.size w3 wz := Below.trans ba (Below.mono (Below.trans (by (repeat (first | with_reducible exact Below.refl _ _ | with_reducible assumption | with_reducible refine below_drewN ?_ _ | with_reducible refine Below.drew ?_ | with_reducible refine Below.alloc ?_ (by first | omega | (simp; omega) | simp) _ | with_reducible refine Below.setCell ?_ (by first | omega | (simp; omega) | simp) _))) bz0) ba.size)) | (have bz : Below w3.heap.size w3 wz := Below.trans (by (repeat (first | with_reducible exact Below.refl _ _ | with_reducible assumption | with_reducible refine below_drewN ?_ _ | with_reducible refine Below.drew ?_ | with_reducible refine Below.alloc ?_ (by first | omega | (simp; omega) | simp) _ | with_reducible refine Below.setCell ?_ (by first | omega | (simp; omega) | simp) _))) bz0)); (have qz := Cl.cells8 (hC.below bz ll)); unfold Cells8 at qz; (have R2 := Lib.hid r2); clear r2; (try (have R1' := Lib.hid (Rd.below R1.out (Below.trans (by (repeat (first | with_reducible exact Below.refl _ _ | with_reducible assumption | with_reducible refine below_drewN ?_ _ | with_reducible refine Below.drew ?_ | with_reducible refine Below.alloc ?_ (by first | omega | (simp; omega) | simp) _ | with_reducible refine Below.setCell ?_ (by first | omega | (simp; omega) | simp) _))) bz0)))))
      | (go_at_call 14; refine (sameInts_calls _ _ _ zs zs (by first | exact Rd.below R1'.out (by (repeat (first | with_reducible exact Below.refl _ _ | with_reducible assumption | with_reducible refine below_drewN ?_ _ | with_reducible refine Below.drew ?_ | with_reducible refine Below.alloc ?_ (by first | omega | (simp; omega) | simp) _ | with_reducible refine Below.setCell ?_ (by first | omega | (simp; omega) | simp) _))) | exact Rd.below R1.out (by (repeat (first | with_reducible exact Below.refl _ _ | with_reducible assumption | with_reducible refine below_drewN ?_ _ | with_reducible refine Below.drew ?_ | with_reducible refine Below.alloc ?_ (by first | omega | (simp; omega) | simp) _ | with_reducible refine Below.setCell ?_ (by first | omega | (simp; omega) | simp) _)))) (by first | exact Rd.below R2'.out (by (repeat (first | with_reducible exact Below.refl _ _ | with_reducible assumption | with_reducible refine below_drewN ?_ _ | with_reducible refine Below.drew ?_ | with_reducible refine Below.alloc ?_ (by first | omega | (simp; omega) | simp) _ | with_reducible refine Below.setCell ?_ (by first | omega | (simp; omega) | simp) _))) | exact Rd.below R2.out (by (repeat (first | with_reducible exact Below.refl _ _ | with_reducible assumption | with_reducible refine below_drewN ?_ _ | with_reducible refine Below.drew ?_ | with_reducible refine Below.alloc ?_ (by first | omega | (simp; omega) | simp) _ | with_reducible refine Below.setCell ?_ (by first | omega | (simp; omega) | simp) _)))) HN.out HN.out).mono ?_; rintro e wf ⟨rfl, bf0⟩; rw [show decide (zs = zs) = true from decide_eq_true rfl]; (first | (have bf : Below w3.heap.size w3 wf := Below.trans ba (Below.mono (Below.trans (by (repeat (first | with_reducible exact Below.refl _ _ | with_reducible assumption | with_reducible refine below_drewN ?_ _ | with_reducible refine Below.drew ?_ | with_reducible refine Below.alloc ?_ (by first | omega | (simp; omega) | simp) _ | with_reducible refine Below.setCell ?_ (by first | omega | (simp; omega) | simp) _))) bf0) ba.size)) | (have bf : Below w3.heap.size w3 wf := Below.trans bz (Below.mono (Below.trans (by (repeat (first | with_reducible exact Below.refl _ _ | with_reducible assumption | with_reducible refine below_drewN ?_ _ | with_reducible refine Below.drew ?_ | with_reducible refine Below.alloc ?_ (by first | omega | (simp; omega) | simp) _ | with_reducible refine Below.setCell ?_ (by first | omega | (simp; omega) | simp) _))) bf0) bz.size))); (have qf := Cl.cells8 (hC.below bf ll)); unfold Cells8 at qf))
  all_goals (go_wp2_with fail)
  all_goals (go_ret)
  all_goals exact ⟨rfl, hB3.trans (bf.mono hB3.size)⟩
end Go.Proofs.YtcoeoggoaiebeaaDoor
