/-
  wear.Due; three: the picture of the examples; even.
-/
import Derived.Test.YtidiapfmjalaiaaDoorPicture
namespace Go.Proofs.YtidiapfmjalaiaaDoor
open Go.RowKit

/-- The classes below k of which a block is to be moved. -/
def dueK (bs : List Bk) : Nat → List Int
  | 0 => []
  | k + 1 => dueK bs k ++ (if (movesB 1 bs k).length = 0 then [] else [(k : Int)])
theorem dueK_length (bs : List Bk) (k : Nat) : (dueK bs k).length ≤ k := by
  induction k with
  | zero => simp [dueK]
  | succ k ih => simp only [dueK, List.length_append]; split <;> simp <;> omega

def IntsPost (w : World) (xs : List Int) (e : Ending) (w' : World) : Prop := ∃ (A : Option Addr) (c : Nat), e = .returned (.slice A xs.length c) ∧ RdI w' (.slice A xs.length c) xs ∧ Below w.heap.size w w'
def DueRel (w : World) (pic : Array Value) (bs : List Bk) (v i : Value) (wr : World) : Prop :=
  ∃ (k : Nat) (A : Option Addr) (c : Nat), k ≤ 5 ∧ i = .int .i64 k ∧ v = .slice A (dueK bs k).length c ∧ Cl wr w.heap.size 27 pic ∧ wr.ownsRow (w.heap.size + 1) 3 1 (.slice A (dueK bs k).length c) (dueK bs k).length ((dueK bs k).map (Value.int .i64)) ∧ Below w.heap.size w wr

set_option maxHeartbeats 1000000 in
theorem due_calls (w : World) (ch bl bd : Value) (cs : List Int) (bs : List Bk) (ds : List Int) (hC : RdI w ch cs) (hR : RdB w bl bs) (hD : RdI w bd ds)
    (hcn : cs.length ≤ 1000) (hn : bs.length ≤ 1000) (hdn : ds.length ≤ 1000) (hg : GenOk 2000000 bs) :
    Calls Tryd.prog 19 #[.agg #[ch, bl, bd]] w (IntsPost w (dueK bs 5)) := by
  obtain ⟨j0, hj0, hy0, hy1, hy2⟩ := info_parts int_info
  go_enter Tryd.func19, Tryd.ntmps19
  go_wp2_with fail
  go_loopw [3, 4, 5] (fun v _ i wr => DueRel w #[ch, bl, bd] bs v i wr) (fun _ _ i _ => 5 - (intOf i).toNat)
  case atStart => exact ⟨0, none, 0, by omega, rfl, rfl, Cl.new _ _ _, World.ownsRow_nil _ _ _ _, by (repeat (first | with_reducible exact Below.refl _ _ | with_reducible assumption | with_reducible refine below_drewN ?_ _ | with_reducible refine Below.drew ?_ | with_reducible refine Below.alloc ?_ (by first | omega | (simp; omega) | simp) _ | with_reducible refine Below.setCell ?_ (by first | omega | (simp; omega) | simp) _))⟩
  case round =>
    obtain ⟨k, A, c, hk, rfl, rfl, hP, hown, hb⟩ := hrel
    obtain ⟨⟨p0, p1, p2⟩, -⟩ := hP.has3
    have hs := hP.lt
    have hl := dueK_length bs k
    by_cases hlt : k < 5
    · go_wp2_with fail
      refine (wear_moves_calls _ _ _ _ cs bs ds k 1 (hC.below hb) (hR.below hb) (hD.below hb) hcn hn hdn hg (by omega)).mono ?_
      rintro e w1 ⟨A1, c1, rfl, hr1, hb1⟩
      have hP1 := hP.below hb1 hP.lt
      have own1 := own_below hown hb1
      have hB1 := hb.trans (hb1.mono hb.size)
      have h1 : movesB (1 : Int).toNat bs k = movesB 1 bs k := rfl
      rw [h1]
      have hl1 := movesB_length 1 bs k
      clear hP hown hb hb1 p0 p1 p2 hr1 h1
      have hs1 := hP1.lt
      by_cases hz : (movesB 1 bs k).length = 0
      · have hE : Hid (dueK bs (k + 1) = dueK bs k) := by show _ = _; rw [dueK, if_pos hz, List.append_nil]
        have b1 : decide (0 < (movesB 1 bs k).length) = false := by simp [hz]
        clear hz
        generalize dueK bs k = us at *
        go_wp2_with fail
        go_roundw
        case rel => exact ⟨k + 1, A, c, by omega, by go_num, by rw [hE.out], hP1, by rw [hE.out]; exact own1, hB1⟩
        case measure => simp [intOf]; omega
      · have hE : Hid (dueK bs (k + 1) = dueK bs k ++ [(k : Int)]) := by show _ = _; rw [dueK, if_neg hz]
        have b1 : decide (0 < (movesB 1 bs k).length) = true := by simp; omega
        clear hz
        generalize dueK bs k = us at *
        go_wp2_with (at_builtin; refine wpList_append1 rfl (.tmp 13) (.tmp 15) 24 rfl (w.heap.size + 1) 3 j0 _ 1 8 Tryd.underlying24 hj0 hy0 hy1 hy2 rfl (by decide) (by decide) _ (us.length) (us.map (Value.int .i64)) rfl (own1.alloc _) (by omega) (w1.heap.size) #[.int .i64 (k : Int)] rfl (Cl.new_ _ _ _ _ (by simp)) rfl (by simp [Value.oneCell']) (by simp; omega) ?_; intro Aq cq wq ownq grq; (have hP3 := grq.cl (hP1.alloc _) (.inl (by decide))); (have hB3 := grq.below (show Below w.heap.size w _ by (repeat (first | with_reducible exact Below.refl _ _ | with_reducible assumption | with_reducible refine below_drewN ?_ _ | with_reducible refine Below.drew ?_ | with_reducible refine Below.alloc ?_ (by first | omega | (simp; omega) | simp) _ | with_reducible refine Below.setCell ?_ (by first | omega | (simp; omega) | simp) _))) (by simp; omega) (by omega)))
        go_roundw
        case rel => exact ⟨k + 1, Aq, cq, by omega, by go_num, by rw [hE.out]; simp, hP3, by rw [hE.out]; simpa using ownq, hB3⟩
        case measure => simp [intOf]; omega
    · obtain rfl : k = 5 := by omega
      go_wp2_with fail
      go_ret
      exact ⟨A, c, rfl, Rd.own hown, hb⟩

theorem Rd.cl {w : World} {g : Nat} {e : TypeId} {cs : Array Value} {size n : Nat} (h : Cl w g e cs) (hl : cs.size = n * size) (hn : n ≤ 1000000) : Rd w e size (.slice (some ⟨g, 0, none⟩) n n) n cs.toList :=
  ⟨by simpa using hl, _, n, rfl, Nat.le_refl _, by unfold maxLen; omega, by simp, fun _ => ⟨g, 0, cs, (0, 0), rfl, h, fun j u hu => by simpa using hu⟩⟩

set_option maxHeartbeats 1000000 in
theorem three_calls (w : World) (a0 a1 k0 g0 b0 b1 k1 g1 c0 c1 k2 g2 : Int) :
    Calls Tryd.prog 15 #[.agg #[.int .i64 a0, .int .i64 a1, .int .i64 k0, .int .i64 g0], .agg #[.int .i64 b0, .int .i64 b1, .int .i64 k1, .int .i64 g1], .agg #[.int .i64 c0, .int .i64 c1, .int .i64 k2, .int .i64 g2]] w
      (PicOne w [4, 4, 4] [(16, 4, k0, g0), (32, 4, k1, g1), (48, 4, k2, g2)] []) := by
  go_enter Tryd.func15, Tryd.ntmps15
  go_wp2_with fail
  refine bodyPost_ret (v := .agg #[.slice (some ⟨w.heap.size + 1 + 1 + 1 + 1, 0, none⟩) 3 3, .slice (some ⟨w.heap.size + 1 + 1 + 1 + 1 + 1, 0, none⟩) 3 3, .slice none 0 0]) ?_ rfl ⟨_, _, _, rfl, Rd.cl (cs := #[.int .i64 4, .int .i64 4, .int .i64 4]) ?_ rfl (by omega), Rd.cl (cs := #[.int .i64 16, .int .i64 4, .int .i64 k0, .int .i64 g0, .int .i64 32, .int .i64 4, .int .i64 k1, .int .i64 g1, .int .i64 48, .int .i64 4, .int .i64 k2, .int .i64 g2]) ?_ rfl (by omega), Rd.nil_ _ _ _, by (repeat (first | with_reducible exact Below.refl _ _ | with_reducible assumption | with_reducible refine below_drewN ?_ _ | with_reducible refine Below.drew ?_ | with_reducible refine Below.alloc ?_ (by first | omega | (simp; omega) | simp) _ | with_reducible refine Below.setCell ?_ (by first | omega | (simp; omega) | simp) _))⟩
  · simp [results, Tryd.results15, go_sem, *]
  · exact (Cl.new_ _ _ _ _ (by simp)).alloc _
  · exact Cl.new_ _ _ _ _ (by simp)

theorem PicB.forms {w w' : World} {cs : List Int} {bs : List Bk} {ds : List Int} {yes : Bool} {e : Ending} (h : PicB w cs bs ds yes e w') :
    ∃ A1 c1 A2 c2 A3 c3, e = .returned (.tuple #[.agg #[.slice A1 cs.length c1, .slice A2 bs.length c2, .slice A3 ds.length c3], .bool yes]) ∧ RdI w' (.slice A1 cs.length c1) cs ∧ RdB w' (.slice A2 bs.length c2) bs ∧ RdI w' (.slice A3 ds.length c3) ds ∧ Below w.heap.size w w' := by
  obtain ⟨ch, bl, bd, he, h1, h2, h3, hb⟩ := h
  obtain ⟨A1, c1, rfl⟩ := Rd.form h1
  obtain ⟨A2, c2, rfl⟩ := Rd.form h2
  obtain ⟨A3, c3, rfl⟩ := Rd.form h3
  exact ⟨A1, c1, A2, c2, A3, c3, he, h1, h2, h3, hb⟩
end Go.Proofs.YtidiapfmjalaiaaDoor
