/-
  taken: the picture in which the next block of a class is taken.
-/
import Derived.Test.YtidiapfmjalaiaaAppend
import Derived.Test.YtidiapfmjalaiaaPlainB
namespace Go.Proofs.Ytidiapfmjalaiaa
open Go.RowKit

theorem bksCells_snoc (bs : List Bk) (x : Bk) : bksCells (bs ++ [x]) = bksCells bs ++ bkCells x := by simp [bksCells]
theorem bk_one (x : Bk) : ∀ u ∈ bkCells x, u.oneCell' = true := by
  intro u hu
  simp only [bkCells, List.mem_cons, List.not_mem_nil, or_false] at hu
  rcases hu with rfl | rfl | rfl | rfl <;> rfl

/-- A picture that was returned, with a yes or no. -/
def PicB (w : World) (cs : List Int) (bs : List Bk) (ds : List Int) (yes : Bool) (e : Ending) (w' : World) : Prop :=
  ∃ ch bl bd, e = .returned (.tuple #[.agg #[ch, bl, bd], .bool yes]) ∧ RdI w' ch cs ∧ RdB w' bl bs ∧ RdI w' bd ds ∧ Below w.heap.size w w'

set_option maxHeartbeats 1000000 in
theorem taken_none (w : World) (ch bl bd : Value) (cs : List Int) (bs : List Bk) (ds : List Int) (c : Int) (hC : RdI w ch cs) (hR : RdB w bl bs) (hD : RdI w bd ds) (hn : bs.length ≤ 1000) (h : nextB bs c = none) :
    Calls Try.prog 25 #[.agg #[ch, bl, bd], .int .i64 c] w (PicB w cs bs ds false) := by
  obtain ⟨Ac, cc, rfl⟩ := Rd.form hC
  obtain ⟨Ab, cb, rfl⟩ := Rd.form hR
  obtain ⟨Ad, cd, rfl⟩ := Rd.form hD
  go_enter Try.func25, Try.ntmps25
  go_wp2_with fail
  refine (next_calls _ _ _ _ bs c (hR.below (by (repeat (first | with_reducible exact Below.refl _ _ | with_reducible assumption | with_reducible refine below_drewN ?_ _ | with_reducible refine Below.drew ?_ | with_reducible refine Below.alloc ?_ (by first | omega | (simp; omega) | simp) _ | with_reducible refine Below.setCell ?_ (by first | omega | (simp; omega) | simp) _)))) hn).mono ?_
  rintro e w1 ⟨rfl, hb1⟩
  simp only [h]
  have hP := ((Cl.new w 31 #[.slice Ac cs.length cc, .slice Ab bs.length cb, .slice Ad ds.length cd]).alloc _).below hb1 (by simp; omega)
  have hZ := (Cl.new_ (w.alloc (.cells #[.slice Ac cs.length cc, .slice Ab bs.length cb, .slice Ad ds.length cd] 31)) 31 #[.slice none 0 0, .slice none 0 0, .slice none 0 0] (w.heap.size + 1) (by simp)).below hb1 (by simp)
  have hB : Below w.heap.size w w1 := Below.trans (by (repeat (first | with_reducible exact Below.refl _ _ | with_reducible assumption | with_reducible refine below_drewN ?_ _ | with_reducible refine Below.drew ?_ | with_reducible refine Below.alloc ?_ (by first | omega | (simp; omega) | simp) _ | with_reducible refine Below.setCell ?_ (by first | omega | (simp; omega) | simp) _))) (hb1.mono (by simp; omega))
  clear hb1
  obtain ⟨⟨x0, x1, x2⟩, -⟩ := hP.has3
  obtain ⟨⟨z0, z1, z2⟩, y0, y1, y2⟩ := hZ.has3
  have hs := hZ.lt
  have hs0 := hP.lt
  have hZ' := hZ.alloc (.cells #[.int .i64 0, .int .i64 0, .int .i64 0, .int .i64 0] 25)
  go_wp2_with fail
  refine bodyPost_ret (v := .tuple #[.agg #[.slice Ac cs.length cc, .slice Ab bs.length cb, .slice Ad ds.length cd], .bool false]) ?_ rfl ⟨_, _, _, rfl, hC.below (by (repeat (first | with_reducible exact Below.refl _ _ | with_reducible assumption | with_reducible refine below_drewN ?_ _ | with_reducible refine Below.drew ?_ | with_reducible refine Below.alloc ?_ (by first | omega | (simp; omega) | simp) _ | with_reducible refine Below.setCell ?_ (by first | omega | (simp; omega) | simp) _))), hR.below (by (repeat (first | with_reducible exact Below.refl _ _ | with_reducible assumption | with_reducible refine below_drewN ?_ _ | with_reducible refine Below.drew ?_ | with_reducible refine Below.alloc ?_ (by first | omega | (simp; omega) | simp) _ | with_reducible refine Below.setCell ?_ (by first | omega | (simp; omega) | simp) _))), hD.below (by (repeat (first | with_reducible exact Below.refl _ _ | with_reducible assumption | with_reducible refine below_drewN ?_ _ | with_reducible refine Below.drew ?_ | with_reducible refine Below.alloc ?_ (by first | omega | (simp; omega) | simp) _ | with_reducible refine Below.setCell ?_ (by first | omega | (simp; omega) | simp) _))), by (repeat (first | with_reducible exact Below.refl _ _ | with_reducible assumption | with_reducible refine below_drewN ?_ _ | with_reducible refine Below.drew ?_ | with_reducible refine Below.alloc ?_ (by first | omega | (simp; omega) | simp) _ | with_reducible refine Below.setCell ?_ (by first | omega | (simp; omega) | simp) _))⟩
  simp [results, Try.results25, go_sem, *]

def TakenRel (w w1 : World) (pic : Array Value) (ch bd : Value) (bs : List Bk) (n : Bk) (F : Bk → Bk) (i : Value) (wr : World) : Prop :=
  ∃ (k : Nat) (v : Value), k ≤ bs.length ∧ i = .int .i64 k ∧ Cl wr (w1.heap.size + 1) 31 #[ch, v, bd] ∧
      Cl wr w1.heap.size 25 #[.int .i64 (Bk.line n), .int .i64 (Bk.cls n), .int .i64 (Bk.kind n), .int .i64 (Bk.gen n)] ∧ Cl wr w.heap.size 31 pic ∧
      Cl wr (w.heap.size + 1) 31 #[.slice none 0 0, .slice none 0 0, .slice none 0 0] ∧ wr.ownsRow (w1.heap.size + 2) 25 4 v k (bksCells ((bs.take k).map F)) ∧ Below w.heap.size w wr

set_option maxHeartbeats 2000000 in
theorem taken_some (w : World) (ch bl bd : Value) (cs : List Int) (bs : List Bk) (ds : List Int) (c : Int) (n : Bk) (hC : RdI w ch cs) (hR : RdB w bl bs) (hD : RdI w bd ds) (hn : bs.length ≤ 1000) (hg : GenOk 2000000 bs) (h : nextB bs c = some n) :
    Calls Try.prog 25 #[.agg #[ch, bl, bd], .int .i64 c] w (PicB w cs (bs.map (takenF n)) ds true) := by
  obtain ⟨i0, hi0, hz0, hz1, hz2⟩ := info_parts blk_info
  obtain ⟨Ac, cc, rfl⟩ := Rd.form hC
  obtain ⟨Ad, cd, rfl⟩ := Rd.form hD
  obtain ⟨Ab, cb, rfl, _, hcell⟩ := hR.at_
  go_enter Try.func25, Try.ntmps25
  go_wp2_with fail
  refine (next_calls _ _ _ _ bs c (hR.below (by (repeat (first | with_reducible exact Below.refl _ _ | with_reducible assumption | with_reducible refine below_drewN ?_ _ | with_reducible refine Below.drew ?_ | with_reducible refine Below.alloc ?_ (by first | omega | (simp; omega) | simp) _ | with_reducible refine Below.setCell ?_ (by first | omega | (simp; omega) | simp) _)))) hn).mono ?_
  rintro e w1 ⟨rfl, hb1⟩
  simp only [h]
  have hP := ((Cl.new w 31 #[.slice Ac cs.length cc, .slice Ab bs.length cb, .slice Ad ds.length cd]).alloc _).below hb1 (by simp; omega)
  have hZ := (Cl.new_ (w.alloc (.cells #[.slice Ac cs.length cc, .slice Ab bs.length cb, .slice Ad ds.length cd] 31)) 31 #[.slice none 0 0, .slice none 0 0, .slice none 0 0] (w.heap.size + 1) (by simp)).below hb1 (by simp)
  have hB : Below w.heap.size w w1 := Below.trans (by (repeat (first | with_reducible exact Below.refl _ _ | with_reducible assumption | with_reducible refine below_drewN ?_ _ | with_reducible refine Below.drew ?_ | with_reducible refine Below.alloc ?_ (by first | omega | (simp; omega) | simp) _ | with_reducible refine Below.setCell ?_ (by first | omega | (simp; omega) | simp) _))) (hb1.mono (by simp; omega))
  have ho : outBk (some n) = n := rfl
  rw [ho]
  clear hb1 h ho
  obtain ⟨⟨x0, x1, x2⟩, -⟩ := hP.has3
  have hs := hZ.lt
  have hs0 := hP.lt
  go_wp2_with fail
  go_loopw [9, 10] (fun i _ wr => TakenRel w w1 #[.slice Ac cs.length cc, .slice Ab bs.length cb, .slice Ad ds.length cd] (.slice Ac cs.length cc) (.slice Ad ds.length cd) bs n (takenF n) i wr)
    (fun i _ _ => bs.length - (intOf i).toNat)
  case atStart => exact ⟨0, _, Nat.zero_le _, rfl, Cl.new_ _ _ _ _ (by simp), (Cl.new _ _ _).alloc _, (hP.alloc _).alloc _, (hZ.alloc _).alloc _, World.ownsRow_nil _ _ _ _, by (repeat (first | with_reducible exact Below.refl _ _ | with_reducible assumption | with_reducible refine below_drewN ?_ _ | with_reducible refine Below.drew ?_ | with_reducible refine Below.alloc ?_ (by first | omega | (simp; omega) | simp) _ | with_reducible refine Below.setCell ?_ (by first | omega | (simp; omega) | simp) _))⟩
  case round =>
    clear hP hZ hB x0 x1 x2
    obtain ⟨k, v, hk, rfl, hO, hN, hP, hZ, hown, hb⟩ := hrel
    have hs1 := hO.lt
    have hs2 := hb.size
    have hs3 := hN.lt
    have hs4 := hP.lt
    have hs5 := hZ.lt
    obtain ⟨⟨p0, p1, p2⟩, -⟩ := hP.has3
    by_cases hlt : k < bs.length
    · obtain ⟨b, o, rfl, hlt2, hc⟩ := hcell k hlt
      obtain ⟨x, hx⟩ : ∃ x, bs[k]? = some x := ⟨_, List.getElem?_eq_getElem hlt⟩
      obtain ⟨c0', c1', c2', c3'⟩ := hc x hx
      have d0 := (hb.cell (p := ⟨b, o + k * 4, none⟩) hlt2).trans c0'
      have d1 := (hb.cell (p := ⟨b, o + k * 4 + 1, none⟩) hlt2).trans c1'
      have d2 := (hb.cell (p := ⟨b, o + k * 4 + 2, none⟩) hlt2).trans c2'
      have d3 := (hb.cell (p := ⟨b, o + k * 4 + 3, none⟩) hlt2).trans c3'
      obtain ⟨hg0, hg1⟩ := hg x (List.mem_of_getElem? hx)
      have hS := Lib.hid (map_snoc (takenF n) bs k x hx)
      have hfl := (Rd.own hown).form
      obtain ⟨Av, cv, rfl⟩ := hfl
      clear hc c0' c1' c2' c3' hcell hx hR hC hD
      obtain ⟨⟨q0, q1, q2⟩, q3, q4, q5⟩ := hO.has3
      obtain ⟨⟨n0, n1, n2, n3⟩, -⟩ := hN.has4
      cases hq : bkEq x.line x.cls x.kind x.gen n.line n.cls n.kind n.gen
      · have hF : takenF n x = x := by
          have : ¬ x = n := fun h => by rw [(bkEq_iff x n).2 h] at hq; cases hq
          simp [takenF, this]
        rw [hF] at hS
        clear hF
        go_wp2_with (at_builtin; refine wpList_append1 rfl (.tmp 46) (.tmp 48) 29 rfl (w1.heap.size + 2) 25 i0 _ 4 32 Try.underlying29 hi0 hz0 hz1 hz2 rfl (by decide) (by decide) _ (k) (bksCells ((bs.take k).map (takenF n))) rfl ((hown.alloc _).alloc _) (by omega) (wr.heap.size + 1) #[.int .i64 (Bk.line x), .int .i64 (Bk.cls x), .int .i64 (Bk.kind x), .int .i64 (Bk.gen x)] rfl (Cl.new_ _ _ _ _ (by simp)) rfl (by simp [Value.oneCell']) (by simp; omega) ?_; intro Aq cq wq ownq grq; (have hO3 := grq.cl ((hO.alloc _).alloc _) (.inl (by decide))); (have hN3 := grq.cl ((hN.alloc _).alloc _) (.inr (by omega))); (have hP3 := grq.cl ((hP.alloc _).alloc _) (.inl (by decide))); (have hZ3 := grq.cl ((hZ.alloc _).alloc _) (.inl (by decide))); (have hB3 := grq.below (show Below w.heap.size w _ by (repeat (first | with_reducible exact Below.refl _ _ | with_reducible assumption | with_reducible refine below_drewN ?_ _ | with_reducible refine Below.drew ?_ | with_reducible refine Below.alloc ?_ (by first | omega | (simp; omega) | simp) _ | with_reducible refine Below.setCell ?_ (by first | omega | (simp; omega) | simp) _))) (by simp; omega) (by omega)); (obtain ⟨⟨q0, q1, q2⟩, q3, q4, q5⟩ := hO3.has3))
        go_roundw
        case rel => exact ⟨k + 1, _, by omega, by go_num, hO3.set_ 1 _, hN3.far (by simp) _, hP3.far (by simp; omega) _, hZ3.far (by simp; omega) _, by rw [hS.out, bksCells_snoc]; exact own_far ownq hO3 (by decide) _ _, by (repeat (first | with_reducible exact Below.refl _ _ | with_reducible assumption | with_reducible refine below_drewN ?_ _ | with_reducible refine Below.drew ?_ | with_reducible refine Below.alloc ?_ (by first | omega | (simp; omega) | simp) _ | with_reducible refine Below.setCell ?_ (by first | omega | (simp; omega) | simp) _))⟩
        case measure => simp [intOf]; omega
      · have hF : takenF n x = (x.line, x.cls, 2, x.gen + 1) := by simp [takenF, (bkEq_iff x n).1 hq]
        rw [hF] at hS
        clear hF
        go_wp2_with (at_builtin; refine wpList_append1 rfl (.tmp 46) (.tmp 48) 29 rfl (w1.heap.size + 2) 25 i0 _ 4 32 Try.underlying29 hi0 hz0 hz1 hz2 rfl (by decide) (by decide) _ (k) (bksCells ((bs.take k).map (takenF n))) rfl ((hown.alloc _).alloc _) (by omega) (wr.heap.size + 1) #[.int .i64 x.line, .int .i64 x.cls, .int .i64 2, .int .i64 (x.gen + 1)] rfl (Cl.new_ _ _ _ _ (by simp)) rfl (by simp [Value.oneCell']) (by simp; omega) ?_; intro Aq cq wq ownq grq; (have hO3 := grq.cl ((hO.alloc _).alloc _) (.inl (by decide))); (have hN3 := grq.cl ((hN.alloc _).alloc _) (.inr (by omega))); (have hP3 := grq.cl ((hP.alloc _).alloc _) (.inl (by decide))); (have hZ3 := grq.cl ((hZ.alloc _).alloc _) (.inl (by decide))); (have hB3 := grq.below (show Below w.heap.size w _ by (repeat (first | with_reducible exact Below.refl _ _ | with_reducible assumption | with_reducible refine below_drewN ?_ _ | with_reducible refine Below.drew ?_ | with_reducible refine Below.alloc ?_ (by first | omega | (simp; omega) | simp) _ | with_reducible refine Below.setCell ?_ (by first | omega | (simp; omega) | simp) _))) (by simp; omega) (by omega)); (obtain ⟨⟨q0, q1, q2⟩, q3, q4, q5⟩ := hO3.has3))
        go_roundw
        case rel => exact ⟨k + 1, _, by omega, by go_num, hO3.set_ 1 _, hN3.far (by simp) _, hP3.far (by simp; omega) _, hZ3.far (by simp; omega) _, by rw [hS.out, bksCells_snoc]; exact own_far ownq hO3 (by decide) _ _, by (repeat (first | with_reducible exact Below.refl _ _ | with_reducible assumption | with_reducible refine below_drewN ?_ _ | with_reducible refine Below.drew ?_ | with_reducible refine Below.alloc ?_ (by first | omega | (simp; omega) | simp) _ | with_reducible refine Below.setCell ?_ (by first | omega | (simp; omega) | simp) _))⟩
        case measure => simp [intOf]; omega
    · rw [List.take_of_length_le (by omega)] at hown
      obtain rfl : k = bs.length := by omega
      obtain ⟨Av, cv, rfl⟩ := (Rd.own hown).form
      obtain ⟨⟨q0, q1, q2⟩, -⟩ := hO.has3
      obtain ⟨⟨z0, z1, z2⟩, z3, z4, z5⟩ := hZ.has3
      go_wp2_with fail
      refine bodyPost_ret (v := .tuple #[.agg #[.slice Ac cs.length cc, .slice Av bs.length cv, .slice Ad ds.length cd], .bool true]) ?_ rfl ⟨_, _, _, rfl, hC.below (by (repeat (first | with_reducible exact Below.refl _ _ | with_reducible assumption | with_reducible refine below_drewN ?_ _ | with_reducible refine Below.drew ?_ | with_reducible refine Below.alloc ?_ (by first | omega | (simp; omega) | simp) _ | with_reducible refine Below.setCell ?_ (by first | omega | (simp; omega) | simp) _))), ?_, hD.below (by (repeat (first | with_reducible exact Below.refl _ _ | with_reducible assumption | with_reducible refine below_drewN ?_ _ | with_reducible refine Below.drew ?_ | with_reducible refine Below.alloc ?_ (by first | omega | (simp; omega) | simp) _ | with_reducible refine Below.setCell ?_ (by first | omega | (simp; omega) | simp) _))), by (repeat (first | with_reducible exact Below.refl _ _ | with_reducible assumption | with_reducible refine below_drewN ?_ _ | with_reducible refine Below.drew ?_ | with_reducible refine Below.alloc ?_ (by first | omega | (simp; omega) | simp) _ | with_reducible refine Below.setCell ?_ (by first | omega | (simp; omega) | simp) _))⟩
      · simp [results, Try.results25, go_sem, *]
      · have hl : (bs.map (takenF n)).length = bs.length := List.length_map _
        have := Rd.own (own_far3 hown hZ (by decide) (.slice Ac cs.length cc) (.slice Av bs.length cv) (.slice Ad ds.length cd))
        unfold RdB
        rw [hl]
        exact this
end Go.Proofs.Ytidiapfmjalaiaa
