/-
  The specification's Moves, Due and SameMoves.
-/
import Derived.Test.YtidiapfmjalaiaaRefAfter
import Derived.Test.YtidiapfmjalaiaaDue
import Derived.Test.YtidiapfmjalaiaaSame
import Derived.Test.YtidiapfmjalaiaaMvAt
namespace Go.Proofs.Ytidiapfmjalaiaa
open Go.RowKit

set_option maxRecDepth 100000 in
set_option maxHeartbeats 2000000 in
theorem ref_moves_calls (w : World) (ch bl bd : Value) (cs : List Int) (bs : List Bk) (ds : List Int) (c most : Int) (hC : RdI w ch cs) (hR : RdB w bl bs) (hD : RdI w bd ds)
    (hcn : cs.length ≤ 1000) (hn : bs.length ≤ 1000) (hdn : ds.length ≤ 1000) (hg : GenOk 2000000 bs) (hm : most ≤ 1000) :
    Calls Try.prog 20 #[.agg #[ch, bl, bd], .int .i64 c, .int .i64 most] w (MovesPost w (movesB most.toNat bs c)) := by
  obtain ⟨i0, hi0, hz0, hz1, hz2⟩ := info_parts mv_info
  go_enter Try.func20, Try.ntmps20
  go_wp2_with fail
  go_loopw [7, 8, 9, 10, 11, 12] (fun v _ _ _ _ _ wr => ∃ (ch' bl' bd' : Value) (bs' : List Bk) (ms : List (Bk × Bk)), movesB most.toNat bs c = ms ++ movesB (most.toNat - ms.length) bs' c ∧ ms.length ≤ most.toNat ∧
      Cl wr w.heap.size 31 #[ch', bl', bd'] ∧ RdI wr ch' cs ∧ RdB wr bl' bs' ∧ RdI wr bd' ds ∧ bs'.length = bs.length ∧ GenOk 2000000 bs' ∧
      wr.ownsRow w.heap.size 27 8 v ms.length (mvsCells ms) ∧ Below w.heap.size w wr)
    (fun v _ _ _ _ _ _ => most.toNat - sliceLen v)
  case atStart => exact ⟨ch, bl, bd, bs, [], rfl, Nat.zero_le _, Cl.new _ _ _, hC.below (by (repeat (first | with_reducible exact Below.refl _ _ | with_reducible assumption | with_reducible refine below_drewN ?_ _ | with_reducible refine Below.drew ?_ | with_reducible refine Below.alloc ?_ (by first | omega | (simp; omega) | simp) _ | with_reducible refine Below.setCell ?_ (by first | omega | (simp; omega) | simp) _))), hR.below (by (repeat (first | with_reducible exact Below.refl _ _ | with_reducible assumption | with_reducible refine below_drewN ?_ _ | with_reducible refine Below.drew ?_ | with_reducible refine Below.alloc ?_ (by first | omega | (simp; omega) | simp) _ | with_reducible refine Below.setCell ?_ (by first | omega | (simp; omega) | simp) _))), hD.below (by (repeat (first | with_reducible exact Below.refl _ _ | with_reducible assumption | with_reducible refine below_drewN ?_ _ | with_reducible refine Below.drew ?_ | with_reducible refine Below.alloc ?_ (by first | omega | (simp; omega) | simp) _ | with_reducible refine Below.setCell ?_ (by first | omega | (simp; omega) | simp) _))), rfl, hg, World.ownsRow_nil _ _ _ _, by (repeat (first | with_reducible exact Below.refl _ _ | with_reducible assumption | with_reducible refine below_drewN ?_ _ | with_reducible refine Below.drew ?_ | with_reducible refine Below.alloc ?_ (by first | omega | (simp; omega) | simp) _ | with_reducible refine Below.setCell ?_ (by first | omega | (simp; omega) | simp) _))⟩
  case round =>
    obtain ⟨ch', bl', bd', bs', ms, hms, hle, hX, hC', hR', hD', hbl, hg', hown, hb⟩ := hrel
    obtain ⟨Ac, cc, rfl⟩ := Rd.form hC'
    obtain ⟨Ab, cb, rfl⟩ := Rd.form hR'
    obtain ⟨Ad, cd, rfl⟩ := Rd.form hD'
    obtain ⟨Av, cv, rfl⟩ := Rd.form (Rd.own hown)
    have HMS := Lib.hid hms
    have HBL := Lib.hid hbl
    have hbl' : bs'.length ≤ 1000 := by omega
    obtain ⟨⟨x0, x1, x2⟩, -⟩ := hX.has3
    clear hms hbl hC hR hD hg
    by_cases hlt : (ms.length : Int) < most
    · go_wp2_with fail
      refine (ref_level_calls _ _ _ _ bs' c hR' hbl' hg').mono ?_
      rintro e w1 ⟨rfl, hb1⟩
      have hX1 := hX.below hb1 hX.lt
      have hC1 := hC'.below hb1
      have hR1 := hR'.below hb1
      have hD1 := hD'.below hb1
      have own1 := own_below hown hb1
      have hB1 := hb.trans (hb1.mono hb.size)
      clear hX hC' hR' hD' hown hb hb1 x0 x1 x2
      obtain ⟨⟨x0, x1, x2⟩, -⟩ := hX1.has3
      have hs1 := hX1.lt
      go_wp2_with fail
      refine (ref_next_calls _ _ _ _ bs' c (hR1.below (by (repeat (first | with_reducible exact Below.refl _ _ | with_reducible assumption | with_reducible refine below_drewN ?_ _ | with_reducible refine Below.drew ?_ | with_reducible refine Below.alloc ?_ (by first | omega | (simp; omega) | simp) _ | with_reducible refine Below.setCell ?_ (by first | omega | (simp; omega) | simp) _)))) hbl').mono ?_
      rintro e w2 ⟨rfl, hb2⟩
      have hA2 : Below w1.heap.size w1 w2 := Below.trans (by (repeat (first | with_reducible exact Below.refl _ _ | with_reducible assumption | with_reducible refine below_drewN ?_ _ | with_reducible refine Below.drew ?_ | with_reducible refine Below.alloc ?_ (by first | omega | (simp; omega) | simp) _ | with_reducible refine Below.setCell ?_ (by first | omega | (simp; omega) | simp) _))) (hb2.mono (by simp))
      have hX2 := hX1.below hA2 hX1.lt
      have hC2 := hC1.below hA2
      have hR2 := hR1.below hA2
      have hD2 := hD1.below hA2
      have own2 := own_below own1 hA2
      have hB2 := hB1.trans (hA2.mono hB1.size)
      have hF2 := (Cl.new w1 25 #[.int .i64 (Bk.line (outBk (levelB bs' c))), .int .i64 (Bk.cls (outBk (levelB bs' c))), .int .i64 (Bk.kind (outBk (levelB bs' c))), .int .i64 (Bk.gen (outBk (levelB bs' c)))]).below hb2 (by simp)
      have hs2 := hA2.size
      have hsF := hF2.lt
      clear hX1 hC1 hR1 hD1 own1 hB1 hA2 hb2 x0 x1 x2
      cases hl : levelB bs' c with
      | none =>
        have HF := Lib.hid (HMS.out.trans (by rw [movesB_none (moveOf_cold hl), List.append_nil]))
        clear HMS hl
        go_wp2_with fail
        go_ret
        exact moves_fin HF.out (own2.alloc _) (by (repeat (first | with_reducible exact Below.refl _ _ | with_reducible assumption | with_reducible refine below_drewN ?_ _ | with_reducible refine Below.drew ?_ | with_reducible refine Below.alloc ?_ (by first | omega | (simp; omega) | simp) _ | with_reducible refine Below.setCell ?_ (by first | omega | (simp; omega) | simp) _)))
      | some f =>
        cases hn2 : nextB bs' c with
        | none =>
          have HF := Lib.hid (HMS.out.trans (by rw [movesB_none (moveOf_room hn2), List.append_nil]))
          clear HMS hl hn2
          go_wp2_with fail
          go_ret
          exact moves_fin HF.out (own2.alloc _) (by (repeat (first | with_reducible exact Below.refl _ _ | with_reducible assumption | with_reducible refine below_drewN ?_ _ | with_reducible refine Below.drew ?_ | with_reducible refine Below.alloc ?_ (by first | omega | (simp; omega) | simp) _ | with_reducible refine Below.setCell ?_ (by first | omega | (simp; omega) | simp) _)))
        | some t =>
          have hok := okMove_of hl hn2
          have HS := Lib.hid (movesB_some (n := most.toNat - (ms.length + 1)) (moveOf_some hl hn2))
          have ho1 : outBk (some f) = f := rfl
          have ho2 : outBk (some t) = t := rfl
          rw [hl] at hF2
          rw [ho1] at hF2 ⊢
          rw [ho2]
          obtain ⟨⟨f0, f1, f2, f3⟩, -⟩ := hF2.has4
          have HOK := Lib.hid hok
          clear hl hn2 hok ho1 ho2
          have hcl := Cl.new_ ((w2.alloc (.cells #[.int .i64 (Bk.line t), .int .i64 (Bk.cls t), .int .i64 (Bk.kind t), .int .i64 (Bk.gen t)] 25)).alloc (.cells #[.int .i64 (Bk.line f), .int .i64 (Bk.cls f), .int .i64 (Bk.kind f), .int .i64 (Bk.gen f), .int .i64 (Bk.line t), .int .i64 (Bk.cls t), .int .i64 (Bk.kind t), .int .i64 (Bk.gen t)] 27)) 27 #[.int .i64 (Bk.line f), .int .i64 (Bk.cls f), .int .i64 (Bk.kind f), .int .i64 (Bk.gen f), .int .i64 (Bk.line t), .int .i64 (Bk.cls t), .int .i64 (Bk.kind t), .int .i64 (Bk.gen t)] (w2.heap.size + 1 + 1) (by simp)
          have hnews := Lib.hid (Cl.news hcl (xs := mvCells (f, t)) rfl)
          have hmv := hcl
          have own3 := ((own2.alloc (.cells #[.int .i64 (Bk.line t), .int .i64 (Bk.cls t), .int .i64 (Bk.kind t), .int .i64 (Bk.gen t)] 25)).alloc (.cells #[.int .i64 (Bk.line f), .int .i64 (Bk.cls f), .int .i64 (Bk.kind f), .int .i64 (Bk.gen f), .int .i64 (Bk.line t), .int .i64 (Bk.cls t), .int .i64 (Bk.kind t), .int .i64 (Bk.gen t)] 27)).alloc (.cells #[.int .i64 (Bk.line f), .int .i64 (Bk.cls f), .int .i64 (Bk.kind f), .int .i64 (Bk.gen f), .int .i64 (Bk.line t), .int .i64 (Bk.cls t), .int .i64 (Bk.kind t), .int .i64 (Bk.gen t)] 27)
          clear hcl
          go_wp2_with (at_builtin; refine wpList_append_own _ rfl (.tmp 39) (.tmp 41) 48 rfl w.heap.size 27 i0 _ 8 64 Try.underlying48 hi0 hz0 hz1 hz2 rfl (by decide) _ ms.length (mvsCells ms) rfl own3 ⟨w2.heap.size + 1 + 1, 0, none⟩ 1 1 (mvCells (f, t)) rfl rfl hnews.out (mv_one (f, t)) (by unfold maxLen; omega) (by omega) (by have := hB2.size; simp; omega) ?_; intro v' w3 hown3 hg3 hv3; (have hX3 := (((hX2.alloc (.cells #[.int .i64 (Bk.line t), .int .i64 (Bk.cls t), .int .i64 (Bk.kind t), .int .i64 (Bk.gen t)] 25)).alloc (.cells #[.int .i64 (Bk.line f), .int .i64 (Bk.cls f), .int .i64 (Bk.kind f), .int .i64 (Bk.gen f), .int .i64 (Bk.line t), .int .i64 (Bk.cls t), .int .i64 (Bk.kind t), .int .i64 (Bk.gen t)] 27)).alloc (.cells #[.int .i64 (Bk.line f), .int .i64 (Bk.cls f), .int .i64 (Bk.kind f), .int .i64 (Bk.gen f), .int .i64 (Bk.line t), .int .i64 (Bk.cls t), .int .i64 (Bk.kind t), .int .i64 (Bk.gen t)] 27)).grown hg3 (own_ne own3 (((hX2.alloc _).alloc _).alloc _) (by decide))); (have hC3 := Rd.grown (hC2.below (show Below w2.heap.size w2 _ by (repeat (first | with_reducible exact Below.refl _ _ | with_reducible assumption | with_reducible refine below_drewN ?_ _ | with_reducible refine Below.drew ?_ | with_reducible refine Below.alloc ?_ (by first | omega | (simp; omega) | simp) _ | with_reducible refine Below.setCell ?_ (by first | omega | (simp; omega) | simp) _)))) hg3 own3 (by decide)); (have hR3 := Rd.grown (hR2.below (show Below w2.heap.size w2 _ by (repeat (first | with_reducible exact Below.refl _ _ | with_reducible assumption | with_reducible refine below_drewN ?_ _ | with_reducible refine Below.drew ?_ | with_reducible refine Below.alloc ?_ (by first | omega | (simp; omega) | simp) _ | with_reducible refine Below.setCell ?_ (by first | omega | (simp; omega) | simp) _)))) hg3 own3 (by decide)); (have hD3 := Rd.grown (hD2.below (show Below w2.heap.size w2 _ by (repeat (first | with_reducible exact Below.refl _ _ | with_reducible assumption | with_reducible refine below_drewN ?_ _ | with_reducible refine Below.drew ?_ | with_reducible refine Below.alloc ?_ (by first | omega | (simp; omega) | simp) _ | with_reducible refine Below.setCell ?_ (by first | omega | (simp; omega) | simp) _)))) hg3 own3 (by decide)); (have hM3 := ((Cl.new_ (w2.alloc (.cells #[.int .i64 (Bk.line t), .int .i64 (Bk.cls t), .int .i64 (Bk.kind t), .int .i64 (Bk.gen t)] 25)) 27 #[.int .i64 (Bk.line f), .int .i64 (Bk.cls f), .int .i64 (Bk.kind f), .int .i64 (Bk.gen f), .int .i64 (Bk.line t), .int .i64 (Bk.cls t), .int .i64 (Bk.kind t), .int .i64 (Bk.gen t)] (w2.heap.size + 1) (by simp)).alloc (.cells #[.int .i64 (Bk.line f), .int .i64 (Bk.cls f), .int .i64 (Bk.kind f), .int .i64 (Bk.gen f), .int .i64 (Bk.line t), .int .i64 (Bk.cls t), .int .i64 (Bk.kind t), .int .i64 (Bk.gen t)] 27)).grown hg3 (fun h => by have := (own2.lt _ h.symm).2; omega)); (have hB3 : Below w.heap.size w w3 := Below.grown (show Below w.heap.size w _ by (repeat (first | with_reducible exact Below.refl _ _ | with_reducible assumption | with_reducible refine below_drewN ?_ _ | with_reducible refine Below.drew ?_ | with_reducible refine Below.alloc ?_ (by first | omega | (simp; omega) | simp) _ | with_reducible refine Below.setCell ?_ (by first | omega | (simp; omega) | simp) _))) hg3 (by have := hB2.size; simp; omega) (fun k hk => (own2.lt k hk).1)); (obtain ⟨⟨x0, x1, x2⟩, y0, y1, y2⟩ := hX3.has3); (obtain ⟨m0, m1, m2, m3, m4, m5, m6, m7⟩ := hM3.has8); clear hg3 hv3 hX2 hC2 hR2 hD2 hB2 own3)
          obtain ⟨Av', cv', hv'⟩ := Rd.form (Rd.own hown3)
          subst hv'
          refine (ref_after_ok _ _ _ _ cs bs' ds f t hC3 hR3 hD3 hcn hbl' hdn HOK.out).mono ?_
          rintro e w4 ⟨ch4, bl4, bd4, rfl, hC4, hR4, hD4, hb4⟩
          obtain ⟨Ac4, cc4, rfl⟩ := Rd.form hC4
          obtain ⟨Ab4, cb4, rfl⟩ := Rd.form hR4
          obtain ⟨Ad4, cd4, rfl⟩ := Rd.form hD4
          have hX4 := hX3.below hb4 hX3.lt
          have own4 := own_below hown3 hb4
          have hB4 := hB3.trans (hb4.mono hB3.size)
          clear hX3 hC3 hR3 hD3 hM3 hB3 hb4 x0 x1 x2 y0 y1 y2 m0 m1 m2 m3 m4 m5 m6 m7 hown3 hF2 f0 f1 f2 f3 hnews hmv own2
          obtain ⟨⟨x0, x1, x2⟩, y0, y1, y2⟩ := hX4.has3
          have hlN : ms.length < most.toNat := by omega
          go_wp2_with fail
          go_roundw
          case rel => exact ⟨_, _, _, afterB bs' f t, ms ++ [(f, t)], moves_next HMS.out hlN HS.out, by rw [List.length_append]; exact hlN, hX4.set3 _ _ _, hC4.far3 hX4 (by decide) _ _ _, hR4.far3 hX4 (by decide) _ _ _, hD4.far3 hX4 (by decide) _ _ _, (afterB_length bs' f t).trans HBL.out, hg'.after (by omega) f t, by rw [mvsCells_snoc, List.length_append]; exact own_far3 own4 hX4 (by decide) _ _ _, by (repeat (first | with_reducible exact Below.refl _ _ | with_reducible assumption | with_reducible refine below_drewN ?_ _ | with_reducible refine Below.drew ?_ | with_reducible refine Below.alloc ?_ (by first | omega | (simp; omega) | simp) _ | with_reducible refine Below.setCell ?_ (by first | omega | (simp; omega) | simp) _))⟩
          case measure => simp [sliceLen]; omega
    · have hk : most.toNat - ms.length = 0 := by omega
      have HF := Lib.hid (HMS.out.trans (by rw [hk, movesB, List.append_nil]))
      clear HMS hk
      go_wp2_with fail
      go_ret
      exact moves_fin HF.out hown hb

set_option maxHeartbeats 1000000 in
theorem ref_due_calls (w : World) (ch bl bd : Value) (cs : List Int) (bs : List Bk) (ds : List Int) (hC : RdI w ch cs) (hR : RdB w bl bs) (hD : RdI w bd ds)
    (hcn : cs.length ≤ 1000) (hn : bs.length ≤ 1000) (hdn : ds.length ≤ 1000) (hg : GenOk 2000000 bs) :
    Calls Try.prog 23 #[.agg #[ch, bl, bd]] w (IntsPost w (dueK bs 5)) := by
  obtain ⟨j0, hj0, hy0, hy1, hy2⟩ := info_parts int_info
  go_enter Try.func23, Try.ntmps23
  go_wp2_with fail
  go_loopw [3, 4] (fun v i wr => DueRel w #[ch, bl, bd] bs v i wr) (fun _ i _ => 5 - (intOf i).toNat)
  case atStart => exact ⟨0, none, 0, by omega, rfl, rfl, Cl.new _ _ _, World.ownsRow_nil _ _ _ _, by (repeat (first | with_reducible exact Below.refl _ _ | with_reducible assumption | with_reducible refine below_drewN ?_ _ | with_reducible refine Below.drew ?_ | with_reducible refine Below.alloc ?_ (by first | omega | (simp; omega) | simp) _ | with_reducible refine Below.setCell ?_ (by first | omega | (simp; omega) | simp) _))⟩
  case round =>
    obtain ⟨k, A, c, hk, rfl, rfl, hP, hown, hb⟩ := hrel
    obtain ⟨⟨p0, p1, p2⟩, -⟩ := hP.has3
    have hs := hP.lt
    have hl := dueK_length bs k
    by_cases hlt : k < 5
    · go_wp2_with fail
      refine (ref_moves_calls _ _ _ _ cs bs ds k 1 (hC.below hb) (hR.below hb) (hD.below hb) hcn hn hdn hg (by omega)).mono ?_
      rintro e w1 ⟨A1, c1, rfl, hr1, hb1⟩
      have hP1 := hP.below hb1 hP.lt
      have own1 := own_below hown hb1
      have hB1 := hb.trans (hb1.mono hb.size)
      have h1 : movesB (1 : Int).toNat bs k = movesB 1 bs k := rfl
      rw [h1]
      have hl1 := movesB_length 1 bs k
      clear hP hown hb hb1 p0 p1 p2 hr1 h1
      have hs1 := hP1.lt
      by_cases hz : (movesB 1 bs k).length = 0
      · have hE : Hid (dueK bs (k + 1) = dueK bs k) := by show _ = _; rw [dueK, if_pos hz, List.append_nil]
        have b1 : decide (0 < (movesB 1 bs k).length) = false := by simp [hz]
        clear hz
        generalize dueK bs k = us at *
        go_wp2_with fail
        go_roundw
        case rel => exact ⟨k + 1, A, c, by omega, by go_num, by rw [hE.out], hP1, by rw [hE.out]; exact own1, hB1⟩
        case measure => simp [intOf]; omega
      · have hE : Hid (dueK bs (k + 1) = dueK bs k ++ [(k : Int)]) := by show _ = _; rw [dueK, if_neg hz]
        have b1 : decide (0 < (movesB 1 bs k).length) = true := by simp; omega
        clear hz
        generalize dueK bs k = us at *
        go_wp2_with (at_builtin; refine wpList_append1 rfl (.tmp 14) (.tmp 16) 28 rfl (w.heap.size + 1) 3 j0 _ 1 8 Try.underlying28 hj0 hy0 hy1 hy2 rfl (by decide) (by decide) _ (us.length) (us.map (Value.int .i64)) rfl (own1.alloc _) (by omega) (w1.heap.size) #[.int .i64 (k : Int)] rfl (Cl.new_ _ _ _ _ (by simp)) rfl (by simp [Value.oneCell']) (by simp; omega) ?_; intro Aq cq wq ownq grq; (have hP3 := grq.cl (hP1.alloc _) (.inl (by decide))); (have hB3 := grq.below (show Below w.heap.size w _ by (repeat (first | with_reducible exact Below.refl _ _ | with_reducible assumption | with_reducible refine below_drewN ?_ _ | with_reducible refine Below.drew ?_ | with_reducible refine Below.alloc ?_ (by first | omega | (simp; omega) | simp) _ | with_reducible refine Below.setCell ?_ (by first | omega | (simp; omega) | simp) _))) (by simp; omega) (by omega)))
        go_roundw
        case rel => exact ⟨k + 1, Aq, cq, by omega, by go_num, by rw [hE.out]; simp, hP3, by rw [hE.out]; simpa using ownq, hB3⟩
        case measure => simp [intOf]; omega
    · obtain rfl : k = 5 := by omega
      go_wp2_with fail
      go_ret
      exact ⟨A, c, rfl, Rd.own hown, hb⟩


theorem run_equalIn_blk2 (w : World) (l c k g l' c' k' g' : Int) :
    (Op.equalIn 9999 25 (.agg #[.int .i64 l, .int .i64 c, .int .i64 k, .int .i64 g]) (.agg #[.int .i64 l', .int .i64 c', .int .i64 k', .int .i64 g'])).run Try.prog w = .ok (bkEq l c k g l' c' k' g') w := by
  have hu : Try.prog.underlying 25 = some (.struct (Try.prog.fieldsOf 25)) := by kernel_rfl
  have hs : Try.prog.stoodInHeld 25 = false := by kernel_rfl
  rw [run_equalIn_struct w 9998 _ _ _ hu hs]
  clear hu hs
  simp only [Program.fieldsOf, Try.underlying25]
  go_simp
  by_cases h0 : l = l' <;> by_cases h1 : c = c' <;> by_cases h2 : k = k' <;> by_cases h3 : g = g' <;> simp [bkEq, *]
theorem bkEq_self (x : Bk) : bkEq x.line x.cls x.kind x.gen x.line x.cls x.kind x.gen = true := (bkEq_iff x x).2 rfl
theorem run_equalIn_mv (w : World) (f t : Bk) : (Op.equalIn 10000 27 (.agg #[.int .i64 (Bk.line f), .int .i64 (Bk.cls f), .int .i64 (Bk.kind f), .int .i64 (Bk.gen f), .int .i64 (Bk.line t), .int .i64 (Bk.cls t), .int .i64 (Bk.kind t), .int .i64 (Bk.gen t)]) (.agg #[.int .i64 (Bk.line f), .int .i64 (Bk.cls f), .int .i64 (Bk.kind f), .int .i64 (Bk.gen f), .int .i64 (Bk.line t), .int .i64 (Bk.cls t), .int .i64 (Bk.kind t), .int .i64 (Bk.gen t)])).run Try.prog w = .ok true w := by
  have hu : Try.prog.underlying 27 = some (.struct (Try.prog.fieldsOf 27)) := by kernel_rfl
  have hs : Try.prog.stoodInHeld 27 = false := by kernel_rfl
  rw [run_equalIn_struct w 9999 _ _ _ hu hs]
  clear hu hs
  simp only [Program.fieldsOf, Try.underlying27]
  go_simp
theorem run_neq_mv (w : World) (f t : Bk) : (binOp .neq 27 (.agg #[.int .i64 (Bk.line f), .int .i64 (Bk.cls f), .int .i64 (Bk.kind f), .int .i64 (Bk.gen f), .int .i64 (Bk.line t), .int .i64 (Bk.cls t), .int .i64 (Bk.kind t), .int .i64 (Bk.gen t)]) (.agg #[.int .i64 (Bk.line f), .int .i64 (Bk.cls f), .int .i64 (Bk.kind f), .int .i64 (Bk.gen f), .int .i64 (Bk.line t), .int .i64 (Bk.cls t), .int .i64 (Bk.kind t), .int .i64 (Bk.gen t)])).run Try.prog w = .ok (.bool false) w := by
  rw [run_neq_struct, run_equalIn_mv]; rfl

attribute [go_sem high] run_neq_mv

set_option maxHeartbeats 1000000 in
theorem sameMoves_calls (w : World) (a b : Value) (ms : List (Bk × Bk)) (hX : RdM w a ms) (hY : RdM w b ms) (hn : ms.length ≤ 100000) :
    Calls Try.prog 18 #[a, b] w fun e w' => e = .returned (.bool true) ∧ Below w.heap.size w w' := by
  obtain ⟨A, ca, rfl, _, hA⟩ := hX.at_
  obtain ⟨B, cb, rfl, _, hB⟩ := hY.at_
  have b1 : ((ms.length : Int) != (ms.length : Int)) = false := by simp
  go_enter Try.func18, Try.ntmps18
  go_wp2
  go_loopw [5] (fun i wr => ∃ k : Nat, k ≤ ms.length ∧ i = .int .i64 k ∧ Below w.heap.size w wr) (fun i _ => ms.length - (intOf i).toNat)
  case atStart => exact ⟨0, Nat.zero_le _, rfl, Below.refl _ _⟩
  case round =>
    obtain ⟨k, hk, rfl, hb⟩ := hrel
    by_cases hlt : k < ms.length
    · obtain ⟨ba, oa, rfl, hla, hca⟩ := hA k hlt
      obtain ⟨bb, ob, rfl, hlb, hcb⟩ := hB k hlt
      obtain ⟨⟨f, t⟩, hx⟩ : ∃ x, ms[k]? = some x := ⟨_, List.getElem?_eq_getElem hlt⟩
      obtain ⟨c0, c1, c2, c3, c4, c5, c6, c7⟩ := hca f t hx
      obtain ⟨e0, e1, e2, e3, e4, e5, e6, e7⟩ := hcb f t hx
      have cA : ∀ o', wr.cell? ⟨ba, o', none⟩ = w.cell? ⟨ba, o', none⟩ := fun o' => hb.cell (p := ⟨ba, o', none⟩) hla
      have cB : ∀ o', wr.cell? ⟨bb, o', none⟩ = w.cell? ⟨bb, o', none⟩ := fun o' => hb.cell (p := ⟨bb, o', none⟩) hlb
      replace c0 := (cA _).trans c0
      replace c1 := (cA _).trans c1
      replace c2 := (cA _).trans c2
      replace c3 := (cA _).trans c3
      replace c4 := (cA _).trans c4
      replace c5 := (cA _).trans c5
      replace c6 := (cA _).trans c6
      replace c7 := (cA _).trans c7
      replace e0 := (cB _).trans e0
      replace e1 := (cB _).trans e1
      replace e2 := (cB _).trans e2
      replace e3 := (cB _).trans e3
      replace e4 := (cB _).trans e4
      replace e5 := (cB _).trans e5
      replace e6 := (cB _).trans e6
      replace e7 := (cB _).trans e7
      clear cA cB hca hcb hA hB hx hX hY
      go_wp2
      go_quiet (fail)
      go_wp2
      go_roundw
      case rel => exact ⟨k + 1, by omega, by go_num, by (repeat (first | with_reducible exact Below.refl _ _ | with_reducible assumption | with_reducible refine below_drewN ?_ _ | with_reducible refine Below.drew ?_ | with_reducible refine Below.alloc ?_ (by first | omega | (simp; omega) | simp) _ | with_reducible refine Below.setCell ?_ (by first | omega | (simp; omega) | simp) _))⟩
      case measure => simp [intOf]; omega
    · go_wp2
      go_ret
      exact ⟨rfl, hb⟩
end Go.Proofs.Ytidiapfmjalaiaa
