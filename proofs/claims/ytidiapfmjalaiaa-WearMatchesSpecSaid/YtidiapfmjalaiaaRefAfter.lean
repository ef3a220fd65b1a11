/-
  The specification's After.
-/
import Derived.Test.YtidiapfmjalaiaaTaken
import Derived.Test.YtidiapfmjalaiaaRefPick
namespace Go.Proofs.Ytidiapfmjalaiaa
open Go.RowKit

set_option maxRecDepth 100000 in
set_option maxHeartbeats 2000000 in
theorem ref_after_no (w : World) (ch bl bd : Value) (bs : List Bk) (f t : Bk) (hR : RdB w bl bs) (hn : bs.length ≤ 1000) (h : ¬ okMove bs f t) :
    Calls Try.prog 15 #[.agg #[ch, bl, bd], .agg #[.int .i64 (Bk.line f), .int .i64 (Bk.cls f), .int .i64 (Bk.kind f), .int .i64 (Bk.gen f), .int .i64 (Bk.line t), .int .i64 (Bk.cls t), .int .i64 (Bk.kind t), .int .i64 (Bk.gen t)]] w (PicPost w [] [] [] 1) := by
  go_enter Try.func15, Try.ntmps15
  go_wp2_with fail
  refine (has_calls _ _ _ _ bs f (hR.below (by (repeat (first | with_reducible exact Below.refl _ _ | with_reducible assumption | with_reducible refine below_drewN ?_ _ | with_reducible refine Below.drew ?_ | with_reducible refine Below.alloc ?_ (by first | omega | (simp; omega) | simp) _ | with_reducible refine Below.setCell ?_ (by first | omega | (simp; omega) | simp) _)))) hn).mono ?_
  rintro e w1 ⟨rfl, hb1⟩
  have hB1 : Below w.heap.size w w1 := Below.trans (by (repeat (first | with_reducible exact Below.refl _ _ | with_reducible assumption | with_reducible refine below_drewN ?_ _ | with_reducible refine Below.drew ?_ | with_reducible refine Below.alloc ?_ (by first | omega | (simp; omega) | simp) _ | with_reducible refine Below.setCell ?_ (by first | omega | (simp; omega) | simp) _))) (hb1.mono (by (first | omega | (simp; omega) | simp)))
  have hP : Cl w1 w.heap.size 31 #[ch, bl, bd] := (((Cl.new_ _ _ _ _ rfl).alloc _).alloc _).below hb1 (by (first | omega | (simp; omega) | simp))
  have hM : Cl w1 (w.heap.size + 1) 27 #[.int .i64 (Bk.line f), .int .i64 (Bk.cls f), .int .i64 (Bk.kind f), .int .i64 (Bk.gen f), .int .i64 (Bk.line t), .int .i64 (Bk.cls t), .int .i64 (Bk.kind t), .int .i64 (Bk.gen t)] := ((Cl.new_ _ _ _ _ (by simp)).alloc _).below hb1 (by simp)
  have hZ : Cl w1 (w.heap.size + 2) 31 #[.slice none 0 0, .slice none 0 0, .slice none 0 0] := (Cl.new_ _ _ _ _ (by simp)).below hb1 (by simp)
  clear hb1
  obtain ⟨⟨p0, p1, p2⟩, -⟩ := hP.has3
  obtain ⟨m0, m1, m2, m3, m4, m5, m6, m7⟩ := hM.has8
  go_wp2_with fail
  refine (has_calls _ _ _ _ bs t (hR.below hB1) hn).mono ?_
  rintro e w2 ⟨rfl, hb2⟩
  have hB2 : Below w.heap.size w w2 := hB1.trans (hb2.mono hB1.size)
  have hZ2 := hZ.below hb2 hZ.lt
  have hM2 := hM.below hb2 hM.lt
  clear hb2 hZ hP hM p0 p1 p2 m0 m1 m2 m3 m4 m5 m6 m7 hB1
  obtain ⟨⟨z0, z1, z2⟩, z3, z4, z5⟩ := hZ2.has3
  obtain ⟨m0, m1, m2, m3, m4, m5, m6, m7⟩ := hM2.has8
  by_cases hf : f ∈ bs
  · simp only [decide_eq_true hf]
    by_cases ht : t ∈ bs
    · simp only [decide_eq_true ht]
      by_cases h2 : f.kind = 0
      · have b2 : (f.kind == 0) = true := by simp [h2]
        clear h h2
        go_wp2_with fail
        refine bodyPost_ret (v := .tuple #[.agg #[.slice none 0 0, .slice none 0 0, .slice none 0 0], .int .i64 1]) ?_ rfl ⟨_, _, _, rfl, Rd.nil_ _ _ _, Rd.nil_ _ _ _, Rd.nil_ _ _ _, ?_⟩
        · simp [results, Try.results15, go_sem, *]
        · (repeat (first | with_reducible exact Below.refl _ _ | with_reducible assumption | with_reducible refine below_drewN ?_ _ | with_reducible refine Below.drew ?_ | with_reducible refine Below.alloc ?_ (by first | omega | (simp; omega) | simp) _ | with_reducible refine Below.setCell ?_ (by first | omega | (simp; omega) | simp) _))
      · have b2 : (f.kind == 0) = false := by simp [h2]
        by_cases h3 : t.kind = 0
        · have b3 : (t.kind != 0) = false := by simp [h3]
          have h1 : ¬ f.cls = t.cls := fun h1 => h ⟨h1, h2, h3, hf, ht⟩
          have b1 : (f.cls != t.cls) = true := by simp [h1]
          clear h h2 h1 h3
          go_wp2_with fail
          refine bodyPost_ret (v := .tuple #[.agg #[.slice none 0 0, .slice none 0 0, .slice none 0 0], .int .i64 1]) ?_ rfl ⟨_, _, _, rfl, Rd.nil_ _ _ _, Rd.nil_ _ _ _, Rd.nil_ _ _ _, ?_⟩
          · simp [results, Try.results15, go_sem, *]
          · (repeat (first | with_reducible exact Below.refl _ _ | with_reducible assumption | with_reducible refine below_drewN ?_ _ | with_reducible refine Below.drew ?_ | with_reducible refine Below.alloc ?_ (by first | omega | (simp; omega) | simp) _ | with_reducible refine Below.setCell ?_ (by first | omega | (simp; omega) | simp) _))
        · have b3 : (t.kind != 0) = true := by simp [h3]
          clear h h2 h3
          go_wp2_with fail
          refine bodyPost_ret (v := .tuple #[.agg #[.slice none 0 0, .slice none 0 0, .slice none 0 0], .int .i64 1]) ?_ rfl ⟨_, _, _, rfl, Rd.nil_ _ _ _, Rd.nil_ _ _ _, Rd.nil_ _ _ _, ?_⟩
          · simp [results, Try.results15, go_sem, *]
          · (repeat (first | with_reducible exact Below.refl _ _ | with_reducible assumption | with_reducible refine below_drewN ?_ _ | with_reducible refine Below.drew ?_ | with_reducible refine Below.alloc ?_ (by first | omega | (simp; omega) | simp) _ | with_reducible refine Below.setCell ?_ (by first | omega | (simp; omega) | simp) _))
    · simp only [decide_eq_false ht]
      clear h
      go_wp2_with fail
      refine bodyPost_ret (v := .tuple #[.agg #[.slice none 0 0, .slice none 0 0, .slice none 0 0], .int .i64 1]) ?_ rfl ⟨_, _, _, rfl, Rd.nil_ _ _ _, Rd.nil_ _ _ _, Rd.nil_ _ _ _, ?_⟩
      · simp [results, Try.results15, go_sem, *]
      · (repeat (first | with_reducible exact Below.refl _ _ | with_reducible assumption | with_reducible refine below_drewN ?_ _ | with_reducible refine Below.drew ?_ | with_reducible refine Below.alloc ?_ (by first | omega | (simp; omega) | simp) _ | with_reducible refine Below.setCell ?_ (by first | omega | (simp; omega) | simp) _))
  · simp only [decide_eq_false hf]
    clear h
    go_wp2_with fail
    refine bodyPost_ret (v := .tuple #[.agg #[.slice none 0 0, .slice none 0 0, .slice none 0 0], .int .i64 1]) ?_ rfl ⟨_, _, _, rfl, Rd.nil_ _ _ _, Rd.nil_ _ _ _, Rd.nil_ _ _ _, ?_⟩
    · simp [results, Try.results15, go_sem, *]
    · (repeat (first | with_reducible exact Below.refl _ _ | with_reducible assumption | with_reducible refine below_drewN ?_ _ | with_reducible refine Below.drew ?_ | with_reducible refine Below.alloc ?_ (by first | omega | (simp; omega) | simp) _ | with_reducible refine Below.setCell ?_ (by first | omega | (simp; omega) | simp) _))

theorem own_drewN {w : World} {base : Nat} {e : TypeId} {size n : Nat} {v : Value} {xs : List Value} (h : w.ownsRow base e size v n xs) (k : Nat) : (w.drewN k).ownsRow base e size v n xs := h

def AftRel (w w2 : World) (pic mv : Array Value) (ch bd : Value) (bs : List Bk) (F : Bk → Bk) (i : Value) (wr : World) : Prop :=
  ∃ (k : Nat) (v : Value), k ≤ bs.length ∧ i = .int .i64 k ∧ Cl wr w2.heap.size 31 #[ch, v, bd] ∧
      Cl wr w.heap.size 31 pic ∧ Cl wr (w.heap.size + 1) 27 mv ∧
      Cl wr (w.heap.size + 2) 31 #[.slice none 0 0, .slice none 0 0, .slice none 0 0] ∧ wr.ownsRow (w2.heap.size + 1) 25 4 v k (bksCells ((bs.take k).map F)) ∧ Below w.heap.size w wr

set_option maxRecDepth 100000 in
set_option maxHeartbeats 4000000 in
theorem ref_after_ok (w : World) (ch bl bd : Value) (cs : List Int) (bs : List Bk) (ds : List Int) (f t : Bk) (hC : RdI w ch cs) (hR : RdB w bl bs) (hD : RdI w bd ds)
    (_hcn : cs.length ≤ 1000) (hn : bs.length ≤ 1000) (_hdn : ds.length ≤ 1000) (h : okMove bs f t) :
    Calls Try.prog 15 #[.agg #[ch, bl, bd], .agg #[.int .i64 (Bk.line f), .int .i64 (Bk.cls f), .int .i64 (Bk.kind f), .int .i64 (Bk.gen f), .int .i64 (Bk.line t), .int .i64 (Bk.cls t), .int .i64 (Bk.kind t), .int .i64 (Bk.gen t)]] w (PicPost w cs (afterB bs f t) ds 0) := by
  obtain ⟨i0, hi0, hz0, hz1, hz2⟩ := info_parts blk_info
  obtain ⟨Ac, cc, rfl⟩ := Rd.form hC
  obtain ⟨Ad, cd, rfl⟩ := Rd.form hD
  obtain ⟨Ab, cb, rfl, _, hcell⟩ := hR.at_
  obtain ⟨h1, h2, h3, hf, ht⟩ := h
  have b1 : (f.cls != t.cls) = false := by simp [h1]
  have b2 : (f.kind == 0) = false := by simp [h2]
  have b3 : (t.kind != 0) = false := by simp [h3]
  have hne : Hid (∀ x : Bk, x = f → ¬ x = t) := fun x hx hx2 => h2 (by rw [← hx, hx2]; exact h3)
  clear h1 h2 h3
  go_enter Try.func15, Try.ntmps15
  go_wp2_with fail
  refine (has_calls _ _ _ _ bs f (hR.below (by (repeat (first | with_reducible exact Below.refl _ _ | with_reducible assumption | with_reducible refine below_drewN ?_ _ | with_reducible refine Below.drew ?_ | with_reducible refine Below.alloc ?_ (by first | omega | (simp; omega) | simp) _ | with_reducible refine Below.setCell ?_ (by first | omega | (simp; omega) | simp) _)))) hn).mono ?_
  rintro e w1 ⟨rfl, hb1⟩
  have hB1 : Below w.heap.size w w1 := Below.trans (by (repeat (first | with_reducible exact Below.refl _ _ | with_reducible assumption | with_reducible refine below_drewN ?_ _ | with_reducible refine Below.drew ?_ | with_reducible refine Below.alloc ?_ (by first | omega | (simp; omega) | simp) _ | with_reducible refine Below.setCell ?_ (by first | omega | (simp; omega) | simp) _))) (hb1.mono (by (first | omega | (simp; omega) | simp)))
  have hP : Cl w1 w.heap.size 31 #[.slice Ac cs.length cc, .slice Ab bs.length cb, .slice Ad ds.length cd] := (((Cl.new_ _ _ _ _ rfl).alloc _).alloc _).below hb1 (by (first | omega | (simp; omega) | simp))
  have hM : Cl w1 (w.heap.size + 1) 27 #[.int .i64 (Bk.line f), .int .i64 (Bk.cls f), .int .i64 (Bk.kind f), .int .i64 (Bk.gen f), .int .i64 (Bk.line t), .int .i64 (Bk.cls t), .int .i64 (Bk.kind t), .int .i64 (Bk.gen t)] := ((Cl.new_ _ _ _ _ (by simp)).alloc _).below hb1 (by simp)
  have hZ : Cl w1 (w.heap.size + 2) 31 #[.slice none 0 0, .slice none 0 0, .slice none 0 0] := (Cl.new_ _ _ _ _ (by simp)).below hb1 (by simp)
  clear hb1
  simp only [decide_eq_true hf]
  obtain ⟨⟨p0, p1, p2⟩, -⟩ := hP.has3
  obtain ⟨m0, m1, m2, m3, m4, m5, m6, m7⟩ := hM.has8
  go_wp2_with fail
  refine (has_calls _ _ _ _ bs t (hR.below hB1) hn).mono ?_
  rintro e w2 ⟨rfl, hb2⟩
  simp only [decide_eq_true ht]
  have hB2 : Below w.heap.size w w2 := hB1.trans (hb2.mono hB1.size)
  have hZ2 := hZ.below hb2 hZ.lt
  have hM2 := hM.below hb2 hM.lt
  have hP2 := hP.below hb2 hP.lt
  clear hb2 hZ hP hM p0 p1 p2 m0 m1 m2 m3 m4 m5 m6 m7 hB1 hf ht
  have hs := hZ2.lt
  obtain ⟨⟨p0, p1, p2⟩, -⟩ := hP2.has3
  obtain ⟨m0, m1, m2, m3, m4, m5, m6, m7⟩ := hM2.has8
  go_wp2_with fail
  clear p0 p1 p2 m0 m1 m2 m3 m4 m5 m6 m7
  go_loopw [9, 10] (fun i _ wr => AftRel w w2 #[.slice Ac cs.length cc, .slice Ab bs.length cb, .slice Ad ds.length cd] #[.int .i64 (Bk.line f), .int .i64 (Bk.cls f), .int .i64 (Bk.kind f), .int .i64 (Bk.gen f), .int .i64 (Bk.line t), .int .i64 (Bk.cls t), .int .i64 (Bk.kind t), .int .i64 (Bk.gen t)] (.slice Ac cs.length cc) (.slice Ad ds.length cd) bs (afterF f t) i wr) (fun i _ _ => bs.length - (intOf i).toNat)
  case atStart => exact ⟨0, _, Nat.zero_le _, rfl, Cl.new_ _ _ _ _ (by simp), hP2.alloc _, hM2.alloc _, hZ2.alloc _, World.ownsRow_nil _ _ _ _, by (repeat (first | with_reducible exact Below.refl _ _ | with_reducible assumption | with_reducible refine below_drewN ?_ _ | with_reducible refine Below.drew ?_ | with_reducible refine Below.alloc ?_ (by first | omega | (simp; omega) | simp) _ | with_reducible refine Below.setCell ?_ (by first | omega | (simp; omega) | simp) _))⟩
  case round =>
    clear hP2 hZ2 hB2 hM2
    obtain ⟨k, v, hk, rfl, hO, hP, hM, hZ, hown, hb⟩ := hrel
    have hs1 := hO.lt
    have hs2 := hb.size
    have hs4 := hP.lt
    have hs5 := hZ.lt
    have hs6 := hM.lt
    obtain ⟨⟨p0, p1, p2⟩, -⟩ := hP.has3
    by_cases hlt : k < bs.length
    · obtain ⟨b, o, rfl, hlt2, hc⟩ := hcell k hlt
      obtain ⟨x, hx⟩ : ∃ x, bs[k]? = some x := ⟨_, List.getElem?_eq_getElem hlt⟩
      obtain ⟨c0', c1', c2', c3'⟩ := hc x hx
      have d0 := (hb.cell (p := ⟨b, o + k * 4, none⟩) hlt2).trans c0'
      have d1 := (hb.cell (p := ⟨b, o + k * 4 + 1, none⟩) hlt2).trans c1'
      have d2 := (hb.cell (p := ⟨b, o + k * 4 + 2, none⟩) hlt2).trans c2'
      have d3 := (hb.cell (p := ⟨b, o + k * 4 + 3, none⟩) hlt2).trans c3'
      have hbl : b < wr.heap.size := by omega
      have hS := Lib.hid (map_snoc (afterF f t) bs k x hx)
      have hfl := (Rd.own hown).form
      obtain ⟨Av, cv, rfl⟩ := hfl
      clear hc c0' c1' c2' c3' hcell hx hR hC hD
      obtain ⟨⟨q0, q1, q2⟩, q3, q4, q5⟩ := hO.has3
      obtain ⟨m0, m1, m2, m3, m4, m5, m6, m7⟩ := hM.has8
      cases hq : bkEq x.line x.cls x.kind x.gen f.line f.cls f.kind f.gen
      · cases hq2 : bkEq x.line x.cls x.kind x.gen t.line t.cls t.kind t.gen
        · rw [afterF_none hq hq2] at hS
          go_wp2_with fail
          go_quiet (fail)
          go_wp2_with fail
          go_quiet (fail)
          go_wp2_with (at_builtin; refine wpList_append1 rfl (.tmp 90) (.tmp 92) 29 rfl (w2.heap.size + 1) 25 i0 _ 4 32 Try.underlying29 hi0 hz0 hz1 hz2 rfl (by decide) (by decide) _ (k) (bksCells ((bs.take k).map (afterF f t))) rfl (own_below hown (by (repeat (first | with_reducible exact Below.refl _ _ | with_reducible assumption | with_reducible refine below_drewN ?_ _ | with_reducible refine Below.drew ?_ | with_reducible refine Below.alloc ?_ (by first | omega | (simp; omega) | simp) _ | with_reducible refine Below.setCell ?_ (by first | omega | (simp; omega) | simp) _)))) (by omega) (wr.heap.size + 1) #[.int .i64 (Bk.line x), .int .i64 (Bk.cls x), .int .i64 (Bk.kind x), .int .i64 (Bk.gen x)] rfl (Cl.new_ _ _ _ _ (by simp)) rfl (by simp [Value.oneCell']) (by simp; omega) ?_; intro Aq cq wq ownq grq; (have hO3 := grq.cl (hO.below (B := wr.heap.size) (by (repeat (first | with_reducible exact Below.refl _ _ | with_reducible assumption | with_reducible refine below_drewN ?_ _ | with_reducible refine Below.drew ?_ | with_reducible refine Below.alloc ?_ (by first | omega | (simp; omega) | simp) _ | with_reducible refine Below.setCell ?_ (by first | omega | (simp; omega) | simp) _))) hO.lt) (.inl (by decide))); (have hM3 := grq.cl (hM.below (B := wr.heap.size) (by (repeat (first | with_reducible exact Below.refl _ _ | with_reducible assumption | with_reducible refine below_drewN ?_ _ | with_reducible refine Below.drew ?_ | with_reducible refine Below.alloc ?_ (by first | omega | (simp; omega) | simp) _ | with_reducible refine Below.setCell ?_ (by first | omega | (simp; omega) | simp) _))) hM.lt) (.inl (by decide))); (have hP3 := grq.cl (hP.below (B := wr.heap.size) (by (repeat (first | with_reducible exact Below.refl _ _ | with_reducible assumption | with_reducible refine below_drewN ?_ _ | with_reducible refine Below.drew ?_ | with_reducible refine Below.alloc ?_ (by first | omega | (simp; omega) | simp) _ | with_reducible refine Below.setCell ?_ (by first | omega | (simp; omega) | simp) _))) hP.lt) (.inl (by decide))); (have hZ3 := grq.cl (hZ.below (B := wr.heap.size) (by (repeat (first | with_reducible exact Below.refl _ _ | with_reducible assumption | with_reducible refine below_drewN ?_ _ | with_reducible refine Below.drew ?_ | with_reducible refine Below.alloc ?_ (by first | omega | (simp; omega) | simp) _ | with_reducible refine Below.setCell ?_ (by first | omega | (simp; omega) | simp) _))) hZ.lt) (.inl (by decide))); (have hB3 := grq.below (show Below w.heap.size w _ by (repeat (first | with_reducible exact Below.refl _ _ | with_reducible assumption | with_reducible refine below_drewN ?_ _ | with_reducible refine Below.drew ?_ | with_reducible refine Below.alloc ?_ (by first | omega | (simp; omega) | simp) _ | with_reducible refine Below.setCell ?_ (by first | omega | (simp; omega) | simp) _))) (by simp; omega) (by omega)); (obtain ⟨⟨q0, q1, q2⟩, q3, q4, q5⟩ := hO3.has3))
          go_roundw
          case rel => exact ⟨k + 1, _, by omega, by go_num, hO3.set_ 1 _, hP3.far (by simp; omega) _, hM3.far (by simp; omega) _, hZ3.far (by simp; omega) _, by rw [hS.out, bksCells_snoc]; exact own_far ownq hO3 (by decide) _ _, by (repeat (first | with_reducible exact Below.refl _ _ | with_reducible assumption | with_reducible refine below_drewN ?_ _ | with_reducible refine Below.drew ?_ | with_reducible refine Below.alloc ?_ (by first | omega | (simp; omega) | simp) _ | with_reducible refine Below.setCell ?_ (by first | omega | (simp; omega) | simp) _))⟩
          case measure => simp [intOf]; omega
        · rw [afterF_to hq hq2] at hS
          go_wp2_with fail
          go_quiet (fail)
          go_wp2_with fail
          go_quiet (fail)
          go_wp2_with fail
          refine (rnext_calls _ _).mono ?_
          rintro e w' ⟨rfl, rfl⟩
          go_wp2_with (at_builtin; refine wpList_append1 rfl (.tmp 90) (.tmp 92) 29 rfl (w2.heap.size + 1) 25 i0 _ 4 32 Try.underlying29 hi0 hz0 hz1 hz2 rfl (by decide) (by decide) _ (k) (bksCells ((bs.take k).map (afterF f t))) rfl (own_below hown (by (repeat (first | with_reducible exact Below.refl _ _ | with_reducible assumption | with_reducible refine below_drewN ?_ _ | with_reducible refine Below.drew ?_ | with_reducible refine Below.alloc ?_ (by first | omega | (simp; omega) | simp) _ | with_reducible refine Below.setCell ?_ (by first | omega | (simp; omega) | simp) _)))) (by omega) (wr.heap.size + 1) #[.int .i64 x.line, .int .i64 x.cls, .int .i64 f.kind, .int .i64 (nextGen x.gen)] rfl (Cl.new_ _ _ _ _ (by simp)) rfl (by simp [Value.oneCell']) (by simp; omega) ?_; intro Aq cq wq ownq grq; (have hO3 := grq.cl (hO.below (B := wr.heap.size) (by (repeat (first | with_reducible exact Below.refl _ _ | with_reducible assumption | with_reducible refine below_drewN ?_ _ | with_reducible refine Below.drew ?_ | with_reducible refine Below.alloc ?_ (by first | omega | (simp; omega) | simp) _ | with_reducible refine Below.setCell ?_ (by first | omega | (simp; omega) | simp) _))) hO.lt) (.inl (by decide))); (have hM3 := grq.cl (hM.below (B := wr.heap.size) (by (repeat (first | with_reducible exact Below.refl _ _ | with_reducible assumption | with_reducible refine below_drewN ?_ _ | with_reducible refine Below.drew ?_ | with_reducible refine Below.alloc ?_ (by first | omega | (simp; omega) | simp) _ | with_reducible refine Below.setCell ?_ (by first | omega | (simp; omega) | simp) _))) hM.lt) (.inl (by decide))); (have hP3 := grq.cl (hP.below (B := wr.heap.size) (by (repeat (first | with_reducible exact Below.refl _ _ | with_reducible assumption | with_reducible refine below_drewN ?_ _ | with_reducible refine Below.drew ?_ | with_reducible refine Below.alloc ?_ (by first | omega | (simp; omega) | simp) _ | with_reducible refine Below.setCell ?_ (by first | omega | (simp; omega) | simp) _))) hP.lt) (.inl (by decide))); (have hZ3 := grq.cl (hZ.below (B := wr.heap.size) (by (repeat (first | with_reducible exact Below.refl _ _ | with_reducible assumption | with_reducible refine below_drewN ?_ _ | with_reducible refine Below.drew ?_ | with_reducible refine Below.alloc ?_ (by first | omega | (simp; omega) | simp) _ | with_reducible refine Below.setCell ?_ (by first | omega | (simp; omega) | simp) _))) hZ.lt) (.inl (by decide))); (have hB3 := grq.below (show Below w.heap.size w _ by (repeat (first | with_reducible exact Below.refl _ _ | with_reducible assumption | with_reducible refine below_drewN ?_ _ | with_reducible refine Below.drew ?_ | with_reducible refine Below.alloc ?_ (by first | omega | (simp; omega) | simp) _ | with_reducible refine Below.setCell ?_ (by first | omega | (simp; omega) | simp) _))) (by simp; omega) (by omega)); (obtain ⟨⟨q0, q1, q2⟩, q3, q4, q5⟩ := hO3.has3))
          go_roundw
          case rel => exact ⟨k + 1, _, by omega, by go_num, hO3.set_ 1 _, hP3.far (by simp; omega) _, hM3.far (by simp; omega) _, hZ3.far (by simp; omega) _, by rw [hS.out, bksCells_snoc]; exact own_far ownq hO3 (by decide) _ _, by (repeat (first | with_reducible exact Below.refl _ _ | with_reducible assumption | with_reducible refine below_drewN ?_ _ | with_reducible refine Below.drew ?_ | with_reducible refine Below.alloc ?_ (by first | omega | (simp; omega) | simp) _ | with_reducible refine Below.setCell ?_ (by first | omega | (simp; omega) | simp) _))⟩
          case measure => simp [intOf]; omega
      · have hq2 : bkEq x.line x.cls x.kind x.gen t.line t.cls t.kind t.gen = false := by
          cases hh : bkEq x.line x.cls x.kind x.gen t.line t.cls t.kind t.gen
          · rfl
          · exact absurd ((bkEq_iff x t).1 hh) (hne.out x ((bkEq_iff x f).1 hq))
        rw [afterF_from hq] at hS
        go_wp2_with fail
        go_quiet (fail)
        go_wp2_with fail
        go_quiet (fail)
        go_wp2_with (at_builtin; refine wpList_append1 rfl (.tmp 90) (.tmp 92) 29 rfl (w2.heap.size + 1) 25 i0 _ 4 32 Try.underlying29 hi0 hz0 hz1 hz2 rfl (by decide) (by decide) _ (k) (bksCells ((bs.take k).map (afterF f t))) rfl (own_below hown (by (repeat (first | with_reducible exact Below.refl _ _ | with_reducible assumption | with_reducible refine below_drewN ?_ _ | with_reducible refine Below.drew ?_ | with_reducible refine Below.alloc ?_ (by first | omega | (simp; omega) | simp) _ | with_reducible refine Below.setCell ?_ (by first | omega | (simp; omega) | simp) _)))) (by omega) (wr.heap.size + 1) #[.int .i64 x.line, .int .i64 x.cls, .int .i64 0, .int .i64 x.gen] rfl (Cl.new_ _ _ _ _ (by simp)) rfl (by simp [Value.oneCell']) (by simp; omega) ?_; intro Aq cq wq ownq grq; (have hO3 := grq.cl (hO.below (B := wr.heap.size) (by (repeat (first | with_reducible exact Below.refl _ _ | with_reducible assumption | with_reducible refine below_drewN ?_ _ | with_reducible refine Below.drew ?_ | with_reducible refine Below.alloc ?_ (by first | omega | (simp; omega) | simp) _ | with_reducible refine Below.setCell ?_ (by first | omega | (simp; omega) | simp) _))) hO.lt) (.inl (by decide))); (have hM3 := grq.cl (hM.below (B := wr.heap.size) (by (repeat (first | with_reducible exact Below.refl _ _ | with_reducible assumption | with_reducible refine below_drewN ?_ _ | with_reducible refine Below.drew ?_ | with_reducible refine Below.alloc ?_ (by first | omega | (simp; omega) | simp) _ | with_reducible refine Below.setCell ?_ (by first | omega | (simp; omega) | simp) _))) hM.lt) (.inl (by decide))); (have hP3 := grq.cl (hP.below (B := wr.heap.size) (by (repeat (first | with_reducible exact Below.refl _ _ | with_reducible assumption | with_reducible refine below_drewN ?_ _ | with_reducible refine Below.drew ?_ | with_reducible refine Below.alloc ?_ (by first | omega | (simp; omega) | simp) _ | with_reducible refine Below.setCell ?_ (by first | omega | (simp; omega) | simp) _))) hP.lt) (.inl (by decide))); (have hZ3 := grq.cl (hZ.below (B := wr.heap.size) (by (repeat (first | with_reducible exact Below.refl _ _ | with_reducible assumption | with_reducible refine below_drewN ?_ _ | with_reducible refine Below.drew ?_ | with_reducible refine Below.alloc ?_ (by first | omega | (simp; omega) | simp) _ | with_reducible refine Below.setCell ?_ (by first | omega | (simp; omega) | simp) _))) hZ.lt) (.inl (by decide))); (have hB3 := grq.below (show Below w.heap.size w _ by (repeat (first | with_reducible exact Below.refl _ _ | with_reducible assumption | with_reducible refine below_drewN ?_ _ | with_reducible refine Below.drew ?_ | with_reducible refine Below.alloc ?_ (by first | omega | (simp; omega) | simp) _ | with_reducible refine Below.setCell ?_ (by first | omega | (simp; omega) | simp) _))) (by simp; omega) (by omega)); (obtain ⟨⟨q0, q1, q2⟩, q3, q4, q5⟩ := hO3.has3))
        go_roundw
        case rel => exact ⟨k + 1, _, by omega, by go_num, hO3.set_ 1 _, hP3.far (by simp; omega) _, hM3.far (by simp; omega) _, hZ3.far (by simp; omega) _, by rw [hS.out, bksCells_snoc]; exact own_far ownq hO3 (by decide) _ _, by (repeat (first | with_reducible exact Below.refl _ _ | with_reducible assumption | with_reducible refine below_drewN ?_ _ | with_reducible refine Below.drew ?_ | with_reducible refine Below.alloc ?_ (by first | omega | (simp; omega) | simp) _ | with_reducible refine Below.setCell ?_ (by first | omega | (simp; omega) | simp) _))⟩
        case measure => simp [intOf]; omega
    · rw [List.take_of_length_le (by omega)] at hown
      obtain rfl : k = bs.length := by omega
      obtain ⟨Av, cv, rfl⟩ := (Rd.own hown).form
      obtain ⟨⟨q0, q1, q2⟩, -⟩ := hO.has3
      obtain ⟨⟨z0, z1, z2⟩, z3, z4, z5⟩ := hZ.has3
      have hl : (bs.map (afterF f t)).length = bs.length := List.length_map _
      have HL := Lib.hid hl
      clear hl
      go_wp2_with fail
      refine bodyPost_ret (v := .tuple #[.agg #[.slice Ac cs.length cc, .slice Av bs.length cv, .slice Ad ds.length cd], .int .i64 0]) ?_ rfl ⟨_, _, _, rfl, hC.below (by (repeat (first | with_reducible exact Below.refl _ _ | with_reducible assumption | with_reducible refine below_drewN ?_ _ | with_reducible refine Below.drew ?_ | with_reducible refine Below.alloc ?_ (by first | omega | (simp; omega) | simp) _ | with_reducible refine Below.setCell ?_ (by first | omega | (simp; omega) | simp) _))), ?_, hD.below (by (repeat (first | with_reducible exact Below.refl _ _ | with_reducible assumption | with_reducible refine below_drewN ?_ _ | with_reducible refine Below.drew ?_ | with_reducible refine Below.alloc ?_ (by first | omega | (simp; omega) | simp) _ | with_reducible refine Below.setCell ?_ (by first | omega | (simp; omega) | simp) _))), by (repeat (first | with_reducible exact Below.refl _ _ | with_reducible assumption | with_reducible refine below_drewN ?_ _ | with_reducible refine Below.drew ?_ | with_reducible refine Below.alloc ?_ (by first | omega | (simp; omega) | simp) _ | with_reducible refine Below.setCell ?_ (by first | omega | (simp; omega) | simp) _))⟩
      · simp [results, Try.results15, go_sem, *]
      · have := Rd.own (own_far3 hown hZ (by decide) (.slice Ac cs.length cc) (.slice Av bs.length cv) (.slice Ad ds.length cd))
        unfold RdB afterB
        rw [HL.out]
        exact this
end Go.Proofs.Ytidiapfmjalaiaa
