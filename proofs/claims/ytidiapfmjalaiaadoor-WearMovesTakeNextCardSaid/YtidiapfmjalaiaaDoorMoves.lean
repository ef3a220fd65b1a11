/-
  wear.Moves.
-/
import Derived.Test.YtidiapfmjalaiaaDoorPick
import Derived.Test.YtidiapfmjalaiaaDoorAfterB
namespace Go.Proofs.YtidiapfmjalaiaaDoor
open Go.RowKit

theorem mv_info : (Tryd.prog.info? 46).map (fun i => (i.zero, i.size, i.bytes)) = some (some (.agg #[.int .i64 0, .int .i64 0, .int .i64 0, .int .i64 0, .int .i64 0, .int .i64 0, .int .i64 0, .int .i64 0]), 8, 64) := by kernel_rfl
def MovesPost (w : World) (ms : List (Bk × Bk)) (e : Ending) (w' : World) : Prop := ∃ (A : Option Addr) (c : Nat), e = .returned (.slice A ms.length c) ∧ RdM w' (.slice A ms.length c) ms ∧ Below w.heap.size w w'

theorem after_no8 (w : World) (ch bl bd : Value) (bs : List Bk) (f t : Bk) (hR : RdB w bl bs) (hn : bs.length ≤ 1000) (h : ¬ okMove bs f t) :
    Calls Tryd.prog 11 #[.agg #[ch, bl, bd], .agg #[.int .i64 (Bk.line f), .int .i64 (Bk.cls f), .int .i64 (Bk.kind f), .int .i64 (Bk.gen f), .int .i64 (Bk.line t), .int .i64 (Bk.cls t), .int .i64 (Bk.kind t), .int .i64 (Bk.gen t)]] w (PicPost w [] [] [] 1) := by
  have := after_calls_no w ch bl bd bs f t hR hn h
  simp only [List.append_toArray, List.cons_append, List.nil_append] at this
  exact this
theorem after_ok8 (w : World) (ch bl bd : Value) (cs : List Int) (bs : List Bk) (ds : List Int) (f t : Bk) (hC : RdI w ch cs) (hR : RdB w bl bs) (hD : RdI w bd ds)
    (hcn : cs.length ≤ 1000) (hn : bs.length ≤ 1000) (hdn : ds.length ≤ 1000) (h : okMove bs f t) :
    Calls Tryd.prog 11 #[.agg #[ch, bl, bd], .agg #[.int .i64 (Bk.line f), .int .i64 (Bk.cls f), .int .i64 (Bk.kind f), .int .i64 (Bk.gen f), .int .i64 (Bk.line t), .int .i64 (Bk.cls t), .int .i64 (Bk.kind t), .int .i64 (Bk.gen t)]] w (PicPost w cs (afterB bs f t) ds 0) := by
  have := after_calls_ok w ch bl bd cs bs ds f t hC hR hD hcn hn hdn h
  simp only [List.append_toArray, List.cons_append, List.nil_append] at this
  exact this
theorem Rd.far3 {w : World} {e : TypeId} {size n g : Nat} {v : Value} {xs : List Value} {t : TypeId} {v0 v1 v2 : Value} (h : Rd w e size v n xs) (hg : Cl w g t #[v0, v1, v2]) (hne : e ≠ t) (u0 u1 u2 : Value) :
    Rd (((w.setCell ⟨g, 0, none⟩ u0).setCell ⟨g, 1, none⟩ u1).setCell ⟨g, 2, none⟩ u2) e size v n xs :=
  Rd.far (Rd.far (Rd.far h hg hne 0 u0) (hg.set_ 0 u0) hne 1 u1) ((hg.set_ 0 u0).set_ 1 u1) hne 2 u2
theorem moves_next {N : Nat} {all ms : List (Bk × Bk)} {bs' bs'' : List Bk} {c : Int} {m : Bk × Bk} (h : all = ms ++ movesB (N - ms.length) bs' c) (hl : ms.length < N) (hs : movesB (N - (ms.length + 1) + 1) bs' c = m :: movesB (N - (ms.length + 1)) bs'' c) :
    all = (ms ++ [m]) ++ movesB (N - (ms ++ [m]).length) bs'' c := by
  rw [h, show N - ms.length = N - (ms.length + 1) + 1 by omega, hs]
  simp
def sliceLen : Value → Nat | .slice _ n _ => n | _ => 0
theorem moves_fin {w wX : World} {all ms : List (Bk × Bk)} {A : Option Addr} {c base : Nat} (h : all = ms) (ho : wX.ownsRow base 46 8 (.slice A ms.length c) ms.length (mvsCells ms)) (hb : Below w.heap.size w wX) :
    MovesPost w all (.returned (.slice A ms.length c)) wX := by subst h; exact ⟨A, c, rfl, Rd.own ho, hb⟩
theorem Cl.news {w : World} {g : Nat} {t : TypeId} {cs : Array Value} (h : Cl w g t cs) {xs : List Value} (hx : cs.toList = xs) : ∀ j u, xs[j]? = some u → w.cell? ((⟨g, 0, none⟩ : Addr).add j) = some u := by
  intro j u hu
  subst hx
  rw [add_plain, Nat.zero_add, h.cell]
  simpa using hu
theorem mv_one (m : Bk × Bk) : ∀ u ∈ mvCells m, u.oneCell' = true := by
  intro u hu
  simp only [mvCells, bkCells, List.mem_append, List.mem_cons, List.not_mem_nil, or_false] at hu
  rcases hu with (rfl | rfl | rfl | rfl) | (rfl | rfl | rfl | rfl) <;> rfl
theorem own_ne {w : World} {base g : Nat} {e t : TypeId} {size n : Nat} {v : Value} {xs : List Value} {cs : Array Value} (h : w.ownsRow base e size v n xs) (hg : Cl w g t cs) (hne : e ≠ t) : some g ≠ v.ownBlock := by
  intro hb
  rcases h.2 with ⟨rfl, _⟩ | ⟨g', cap, cur', rfl, _, hh', _⟩
  · simp [Value.ownBlock] at hb
  · simp only [Value.ownBlock, Option.some.injEq] at hb
    subst hb
    unfold Cl at hg
    rw [hg] at hh'
    injection hh' with hh'
    injection hh' with _ ht
    exact hne ht.symm

set_option maxRecDepth 100000 in
set_option maxHeartbeats 2000000 in
theorem wear_moves_calls (w : World) (ch bl bd : Value) (cs : List Int) (bs : List Bk) (ds : List Int) (c most : Int) (hC : RdI w ch cs) (hR : RdB w bl bs) (hD : RdI w bd ds)
    (hcn : cs.length ≤ 1000) (hn : bs.length ≤ 1000) (hdn : ds.length ≤ 1000) (hg : GenOk 2000000 bs) (hm : most ≤ 1000) :
    Calls Tryd.prog 8 #[.agg #[ch, bl, bd], .int .i64 c, .int .i64 most] w (MovesPost w (movesB most.toNat bs c)) := by
  obtain ⟨i0, hi0, hz0, hz1, hz2⟩ := info_parts mv_info
  go_enter Tryd.func8, Tryd.ntmps8
  go_wp2_with fail
  go_loopw [7, 8, 9, 10, 11, 12] (fun v _ _ _ _ _ wr => ∃ (ch' bl' bd' : Value) (bs' : List Bk) (ms : List (Bk × Bk)), movesB most.toNat bs c = ms ++ movesB (most.toNat - ms.length) bs' c ∧ ms.length ≤ most.toNat ∧
      Cl wr w.heap.size 27 #[ch', bl', bd'] ∧ RdI wr ch' cs ∧ RdB wr bl' bs' ∧ RdI wr bd' ds ∧ bs'.length = bs.length ∧ GenOk 2000000 bs' ∧
      wr.ownsRow w.heap.size 46 8 v ms.length (mvsCells ms) ∧ Below w.heap.size w wr)
    (fun v _ _ _ _ _ _ => most.toNat - sliceLen v)
  case atStart => exact ⟨ch, bl, bd, bs, [], rfl, Nat.zero_le _, Cl.new _ _ _, hC.below (by (repeat (first | with_reducible exact Below.refl _ _ | with_reducible assumption | with_reducible refine below_drewN ?_ _ | with_reducible refine Below.drew ?_ | with_reducible refine Below.alloc ?_ (by first | omega | (simp; omega) | simp) _ | with_reducible refine Below.setCell ?_ (by first | omega | (simp; omega) | simp) _))), hR.below (by (repeat (first | with_reducible exact Below.refl _ _ | with_reducible assumption | with_reducible refine below_drewN ?_ _ | with_reducible refine Below.drew ?_ | with_reducible refine Below.alloc ?_ (by first | omega | (simp; omega) | simp) _ | with_reducible refine Below.setCell ?_ (by first | omega | (simp; omega) | simp) _))), hD.below (by (repeat (first | with_reducible exact Below.refl _ _ | with_reducible assumption | with_reducible refine below_drewN ?_ _ | with_reducible refine Below.drew ?_ | with_reducible refine Below.alloc ?_ (by first | omega | (simp; omega) | simp) _ | with_reducible refine Below.setCell ?_ (by first | omega | (simp; omega) | simp) _))), rfl, hg, World.ownsRow_nil _ _ _ _, by (repeat (first | with_reducible exact Below.refl _ _ | with_reducible assumption | with_reducible refine below_drewN ?_ _ | with_reducible refine Below.drew ?_ | with_reducible refine Below.alloc ?_ (by first | omega | (simp; omega) | simp) _ | with_reducible refine Below.setCell ?_ (by first | omega | (simp; omega) | simp) _))⟩
  case round =>
    obtain ⟨ch', bl', bd', bs', ms, hms, hle, hX, hC', hR', hD', hbl, hg', hown, hb⟩ := hrel
    obtain ⟨Ac, cc, rfl⟩ := Rd.form hC'
    obtain ⟨Ab, cb, rfl⟩ := Rd.form hR'
    obtain ⟨Ad, cd, rfl⟩ := Rd.form hD'
    obtain ⟨Av, cv, rfl⟩ := Rd.form (Rd.own hown)
    have HMS := Lib.hid hms
    have HBL := Lib.hid hbl
    have hbl' : bs'.length ≤ 1000 := by omega
    obtain ⟨⟨x0, x1, x2⟩, -⟩ := hX.has3
    clear hms hbl hC hR hD hg
    by_cases hlt : (ms.length : Int) < most
    · go_wp2_with fail
      refine (level_calls _ _ _ _ bs' c hR' hbl' hg').mono ?_
      rintro e w1 ⟨rfl, hb1⟩
      have hX1 := hX.below hb1 hX.lt
      have hC1 := hC'.below hb1
      have hR1 := hR'.below hb1
      have hD1 := hD'.below hb1
      have own1 := own_below hown hb1
      have hB1 := hb.trans (hb1.mono hb.size)
      clear hX hC' hR' hD' hown hb hb1 x0 x1 x2
      obtain ⟨⟨x0, x1, x2⟩, -⟩ := hX1.has3
      have hs1 := hX1.lt
      go_wp2_with fail
      refine (next_calls _ _ _ _ bs' c (hR1.below (by (repeat (first | with_reducible exact Below.refl _ _ | with_reducible assumption | with_reducible refine below_drewN ?_ _ | with_reducible refine Below.drew ?_ | with_reducible refine Below.alloc ?_ (by first | omega | (simp; omega) | simp) _ | with_reducible refine Below.setCell ?_ (by first | omega | (simp; omega) | simp) _)))) hbl').mono ?_
      rintro e w2 ⟨rfl, hb2⟩
      have hA2 : Below w1.heap.size w1 w2 := Below.trans (by (repeat (first | with_reducible exact Below.refl _ _ | with_reducible assumption | with_reducible refine below_drewN ?_ _ | with_reducible refine Below.drew ?_ | with_reducible refine Below.alloc ?_ (by first | omega | (simp; omega) | simp) _ | with_reducible refine Below.setCell ?_ (by first | omega | (simp; omega) | simp) _))) (hb2.mono (by simp))
      have hX2 := hX1.below hA2 hX1.lt
      have hC2 := hC1.below hA2
      have hR2 := hR1.below hA2
      have hD2 := hD1.below hA2
      have own2 := own_below own1 hA2
      have hB2 := hB1.trans (hA2.mono hB1.size)
      have hF2 := (Cl.new w1 40 #[.int .i64 (Bk.line (outBk (levelB bs' c))), .int .i64 (Bk.cls (outBk (levelB bs' c))), .int .i64 (Bk.kind (outBk (levelB bs' c))), .int .i64 (Bk.gen (outBk (levelB bs' c)))]).below hb2 (by simp)
      have hs2 := hA2.size
      have hsF := hF2.lt
      clear hX1 hC1 hR1 hD1 own1 hB1 hA2 hb2 x0 x1 x2
      cases hl : levelB bs' c with
      | none =>
        have HF := Lib.hid (HMS.out.trans (by rw [movesB_none (moveOf_cold hl), List.append_nil]))
        clear HMS hl
        go_wp2_with fail
        go_ret
        exact moves_fin HF.out (own2.alloc _) (by (repeat (first | with_reducible exact Below.refl _ _ | with_reducible assumption | with_reducible refine below_drewN ?_ _ | with_reducible refine Below.drew ?_ | with_reducible refine Below.alloc ?_ (by first | omega | (simp; omega) | simp) _ | with_reducible refine Below.setCell ?_ (by first | omega | (simp; omega) | simp) _)))
      | some f =>
        cases hn2 : nextB bs' c with
        | none =>
          have HF := Lib.hid (HMS.out.trans (by rw [movesB_none (moveOf_room hn2), List.append_nil]))
          clear HMS hl hn2
          go_wp2_with fail
          go_ret
          exact moves_fin HF.out (own2.alloc _) (by (repeat (first | with_reducible exact Below.refl _ _ | with_reducible assumption | with_reducible refine below_drewN ?_ _ | with_reducible refine Below.drew ?_ | with_reducible refine Below.alloc ?_ (by first | omega | (simp; omega) | simp) _ | with_reducible refine Below.setCell ?_ (by first | omega | (simp; omega) | simp) _)))
        | some t =>
          have hok := okMove_of hl hn2
          have HS := Lib.hid (movesB_some (n := most.toNat - (ms.length + 1)) (moveOf_some hl hn2))
          have ho1 : outBk (some f) = f := rfl
          have ho2 : outBk (some t) = t := rfl
          rw [hl] at hF2
          rw [ho1] at hF2 ⊢
          rw [ho2]
          obtain ⟨⟨f0, f1, f2, f3⟩, -⟩ := hF2.has4
          have HOK := Lib.hid hok
          clear hl hn2 hok ho1 ho2
          have hcl := Cl.new_ ((w2.alloc (.cells #[.int .i64 (Bk.line t), .int .i64 (Bk.cls t), .int .i64 (Bk.kind t), .int .i64 (Bk.gen t)] 40)).alloc (.cells #[.int .i64 (Bk.line f), .int .i64 (Bk.cls f), .int .i64 (Bk.kind f), .int .i64 (Bk.gen f), .int .i64 (Bk.line t), .int .i64 (Bk.cls t), .int .i64 (Bk.kind t), .int .i64 (Bk.gen t)] 46)) 46 #[.int .i64 (Bk.line f), .int .i64 (Bk.cls f), .int .i64 (Bk.kind f), .int .i64 (Bk.gen f), .int .i64 (Bk.line t), .int .i64 (Bk.cls t), .int .i64 (Bk.kind t), .int .i64 (Bk.gen t)] (w2.heap.size + 1 + 1) (by simp)
          have hnews := Lib.hid (Cl.news hcl (xs := mvCells (f, t)) rfl)
          have hmv := hcl
          have own3 := ((own2.alloc (.cells #[.int .i64 (Bk.line t), .int .i64 (Bk.cls t), .int .i64 (Bk.kind t), .int .i64 (Bk.gen t)] 40)).alloc (.cells #[.int .i64 (Bk.line f), .int .i64 (Bk.cls f), .int .i64 (Bk.kind f), .int .i64 (Bk.gen f), .int .i64 (Bk.line t), .int .i64 (Bk.cls t), .int .i64 (Bk.kind t), .int .i64 (Bk.gen t)] 46)).alloc (.cells #[.int .i64 (Bk.line f), .int .i64 (Bk.cls f), .int .i64 (Bk.kind f), .int .i64 (Bk.gen f), .int .i64 (Bk.line t), .int .i64 (Bk.cls t), .int .i64 (Bk.kind t), .int .i64 (Bk.gen t)] 46)
          clear hcl
          go_wp2_with (at_builtin; refine wpList_append_own _ rfl (.tmp 38) (.tmp 40) 37 rfl w.heap.size 46 i0 _ 8 64 Tryd.underlying37 hi0 hz0 hz1 hz2 rfl (by decide) _ ms.length (mvsCells ms) rfl own3 ⟨w2.heap.size + 1 + 1, 0, none⟩ 1 1 (mvCells (f, t)) rfl rfl hnews.out (mv_one (f, t)) (by unfold maxLen; omega) (by omega) (by have := hB2.size; simp; omega) ?_; intro v' w3 hown3 hg3 hv3; (have hX3 := (((hX2.alloc (.cells #[.int .i64 (Bk.line t), .int .i64 (Bk.cls t), .int .i64 (Bk.kind t), .int .i64 (Bk.gen t)] 40)).alloc (.cells #[.int .i64 (Bk.line f), .int .i64 (Bk.cls f), .int .i64 (Bk.kind f), .int .i64 (Bk.gen f), .int .i64 (Bk.line t), .int .i64 (Bk.cls t), .int .i64 (Bk.kind t), .int .i64 (Bk.gen t)] 46)).alloc (.cells #[.int .i64 (Bk.line f), .int .i64 (Bk.cls f), .int .i64 (Bk.kind f), .int .i64 (Bk.gen f), .int .i64 (Bk.line t), .int .i64 (Bk.cls t), .int .i64 (Bk.kind t), .int .i64 (Bk.gen t)] 46)).grown hg3 (own_ne own3 (((hX2.alloc _).alloc _).alloc _) (by decide))); (have hC3 := Rd.grown (hC2.below (show Below w2.heap.size w2 _ by (repeat (first | with_reducible exact Below.refl _ _ | with_reducible assumption | with_reducible refine below_drewN ?_ _ | with_reducible refine Below.drew ?_ | with_reducible refine Below.alloc ?_ (by first | omega | (simp; omega) | simp) _ | with_reducible refine Below.setCell ?_ (by first | omega | (simp; omega) | simp) _)))) hg3 own3 (by decide)); (have hR3 := Rd.grown (hR2.below (show Below w2.heap.size w2 _ by (repeat (first | with_reducible exact Below.refl _ _ | with_reducible assumption | with_reducible refine below_drewN ?_ _ | with_reducible refine Below.drew ?_ | with_reducible refine Below.alloc ?_ (by first | omega | (simp; omega) | simp) _ | with_reducible refine Below.setCell ?_ (by first | omega | (simp; omega) | simp) _)))) hg3 own3 (by decide)); (have hD3 := Rd.grown (hD2.below (show Below w2.heap.size w2 _ by (repeat (first | with_reducible exact Below.refl _ _ | with_reducible assumption | with_reducible refine below_drewN ?_ _ | with_reducible refine Below.drew ?_ | with_reducible refine Below.alloc ?_ (by first | omega | (simp; omega) | simp) _ | with_reducible refine Below.setCell ?_ (by first | omega | (simp; omega) | simp) _)))) hg3 own3 (by decide)); (have hM3 := ((Cl.new_ (w2.alloc (.cells #[.int .i64 (Bk.line t), .int .i64 (Bk.cls t), .int .i64 (Bk.kind t), .int .i64 (Bk.gen t)] 40)) 46 #[.int .i64 (Bk.line f), .int .i64 (Bk.cls f), .int .i64 (Bk.kind f), .int .i64 (Bk.gen f), .int .i64 (Bk.line t), .int .i64 (Bk.cls t), .int .i64 (Bk.kind t), .int .i64 (Bk.gen t)] (w2.heap.size + 1) (by simp)).alloc (.cells #[.int .i64 (Bk.line f), .int .i64 (Bk.cls f), .int .i64 (Bk.kind f), .int .i64 (Bk.gen f), .int .i64 (Bk.line t), .int .i64 (Bk.cls t), .int .i64 (Bk.kind t), .int .i64 (Bk.gen t)] 46)).grown hg3 (fun h => by have := (own2.lt _ h.symm).2; omega)); (have hB3 : Below w.heap.size w w3 := Below.grown (show Below w.heap.size w _ by (repeat (first | with_reducible exact Below.refl _ _ | with_reducible assumption | with_reducible refine below_drewN ?_ _ | with_reducible refine Below.drew ?_ | with_reducible refine Below.alloc ?_ (by first | omega | (simp; omega) | simp) _ | with_reducible refine Below.setCell ?_ (by first | omega | (simp; omega) | simp) _))) hg3 (by have := hB2.size; simp; omega) (fun k hk => (own2.lt k hk).1)); (obtain ⟨⟨x0, x1, x2⟩, y0, y1, y2⟩ := hX3.has3); (obtain ⟨m0, m1, m2, m3, m4, m5, m6, m7⟩ := hM3.has8); clear hg3 hv3 hX2 hC2 hR2 hD2 hB2 own3)
          obtain ⟨Av', cv', hv'⟩ := Rd.form (Rd.own hown3)
          subst hv'
          refine (after_ok8 _ _ _ _ cs bs' ds f t hC3 hR3 hD3 hcn hbl' hdn HOK.out).mono ?_
          rintro e w4 ⟨ch4, bl4, bd4, rfl, hC4, hR4, hD4, hb4⟩
          obtain ⟨Ac4, cc4, rfl⟩ := Rd.form hC4
          obtain ⟨Ab4, cb4, rfl⟩ := Rd.form hR4
          obtain ⟨Ad4, cd4, rfl⟩ := Rd.form hD4
          have hX4 := hX3.below hb4 hX3.lt
          have own4 := own_below hown3 hb4
          have hB4 := hB3.trans (hb4.mono hB3.size)
          clear hX3 hC3 hR3 hD3 hM3 hB3 hb4 x0 x1 x2 y0 y1 y2 m0 m1 m2 m3 m4 m5 m6 m7 hown3 hF2 f0 f1 f2 f3 hnews hmv own2
          obtain ⟨⟨x0, x1, x2⟩, y0, y1, y2⟩ := hX4.has3
          have hlN : ms.length < most.toNat := by omega
          go_wp2_with fail
          go_roundw
          case rel => exact ⟨_, _, _, afterB bs' f t, ms ++ [(f, t)], moves_next HMS.out hlN HS.out, by rw [List.length_append]; exact hlN, hX4.set3 _ _ _, hC4.far3 hX4 (by decide) _ _ _, hR4.far3 hX4 (by decide) _ _ _, hD4.far3 hX4 (by decide) _ _ _, (afterB_length bs' f t).trans HBL.out, hg'.after (by omega) f t, by rw [mvsCells_snoc, List.length_append]; exact own_far3 own4 hX4 (by decide) _ _ _, by (repeat (first | with_reducible exact Below.refl _ _ | with_reducible assumption | with_reducible refine below_drewN ?_ _ | with_reducible refine Below.drew ?_ | with_reducible refine Below.alloc ?_ (by first | omega | (simp; omega) | simp) _ | with_reducible refine Below.setCell ?_ (by first | omega | (simp; omega) | simp) _))⟩
          case measure => simp [sliceLen]; omega
    · have hk : most.toNat - ms.length = 0 := by omega
      have HF := Lib.hid (HMS.out.trans (by rw [hk, movesB, List.append_nil]))
      clear HMS hk
      go_wp2_with fail
      go_ret
      exact moves_fin HF.out hown hb
end Go.Proofs.YtidiapfmjalaiaaDoor
