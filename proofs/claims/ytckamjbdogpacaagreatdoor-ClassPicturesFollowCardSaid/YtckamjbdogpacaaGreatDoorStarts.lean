/-
  wear.Due; three: the picture of the examples; even.
  pointer.Lines and class.Starts.
-/
import Derived.Test.YtckamjbdogpacaaGreatDoorGiven
import Derived.Test.YtckamjbdogpacaaGreatDoorPlan
import Derived.Test.YtckamjbdogpacaaGreatDoorAppend
import Derived.Test.YtckamjbdogpacaaGreatDoorTakeLaw
namespace Go.Proofs.YtckamjbdogpacaaGreatDoor
open Go.RowKit

/-- The classes below k of which a block is to be moved. -/
def dueK (bs : List Bk) : Nat → List Int
  | 0 => []
  | k + 1 => dueK bs k ++ (if (movesB 1 bs k).length = 0 then [] else [(k : Int)])
theorem dueK_length (bs : List Bk) (k : Nat) : (dueK bs k).length ≤ k := by
  induction k with
  | zero => simp [dueK]
  | succ k ih => simp only [dueK, List.length_append]; split <;> simp <;> omega

def IntsPost (w : World) (xs : List Int) (e : Ending) (w' : World) : Prop := ∃ (A : Option Addr) (c : Nat), e = .returned (.slice A xs.length c) ∧ RdI w' (.slice A xs.length c) xs ∧ Below w.heap.size w w'
def DueRel (w : World) (pic : Array Value) (bs : List Bk) (v i : Value) (wr : World) : Prop :=
  ∃ (k : Nat) (A : Option Addr) (c : Nat), k ≤ 5 ∧ i = .int .i64 k ∧ v = .slice A (dueK bs k).length c ∧ Cl wr w.heap.size 40 pic ∧ wr.ownsRow (w.heap.size + 1) 3 1 (.slice A (dueK bs k).length c) (dueK bs k).length ((dueK bs k).map (Value.int .i64)) ∧ Below w.heap.size w wr

theorem Rd.cl {w : World} {g : Nat} {e : TypeId} {cs : Array Value} {size n : Nat} (h : Cl w g e cs) (hl : cs.size = n * size) (hn : n ≤ 1000000) : Rd w e size (.slice (some ⟨g, 0, none⟩) n n) n cs.toList :=
  ⟨by simpa using hl, _, n, rfl, Nat.le_refl _, by unfold maxLen; omega, by simp, fun _ => ⟨g, 0, cs, (0, 0), rfl, h, fun j u hu => by simpa using hu⟩⟩

theorem PicB.forms {w w' : World} {cs : List Int} {bs : List Bk} {ds : List Int} {yes : Bool} {e : Ending} (h : PicB w cs bs ds yes e w') :
    ∃ A1 c1 A2 c2 A3 c3, e = .returned (.tuple #[.agg #[.slice A1 cs.length c1, .slice A2 bs.length c2, .slice A3 ds.length c3], .bool yes]) ∧ RdI w' (.slice A1 cs.length c1) cs ∧ RdB w' (.slice A2 bs.length c2) bs ∧ RdI w' (.slice A3 ds.length c3) ds ∧ Below w.heap.size w w' := by
  obtain ⟨ch, bl, bd, he, h1, h2, h3, hb⟩ := h
  obtain ⟨A1, c1, rfl⟩ := Rd.form h1
  obtain ⟨A2, c2, rfl⟩ := Rd.form h2
  obtain ⟨A3, c3, rfl⟩ := Rd.form h3
  exact ⟨A1, c1, A2, c2, A3, c3, he, h1, h2, h3, hb⟩
end Go.Proofs.YtckamjbdogpacaaGreatDoor

namespace Go.Proofs.YtckamjbdogpacaaGreatDoor
open Go.RowKit

set_option maxHeartbeats 400000 in
theorem plines0 (w : World) : Calls Tryz.prog 41 #[.int .i64 0] w fun e w' => e = .returned (.int .i64 1) ∧ w = w' := by
  go_enter Tryz.func41, Tryz.ntmps41
  go_wp2
  go_ret
  exact ⟨rfl, rfl⟩
set_option maxHeartbeats 400000 in
theorem plines1 (w : World) : Calls Tryz.prog 41 #[.int .i64 1] w fun e w' => e = .returned (.int .i64 2) ∧ w = w' := by
  go_enter Tryz.func41, Tryz.ntmps41
  go_wp2
  go_ret
  exact ⟨rfl, rfl⟩
set_option maxHeartbeats 400000 in
theorem plines2 (w : World) : Calls Tryz.prog 41 #[.int .i64 2] w fun e w' => e = .returned (.int .i64 4) ∧ w = w' := by
  go_enter Tryz.func41, Tryz.ntmps41
  go_wp2
  go_ret
  exact ⟨rfl, rfl⟩
set_option maxHeartbeats 400000 in
theorem plines3 (w : World) : Calls Tryz.prog 41 #[.int .i64 3] w fun e w' => e = .returned (.int .i64 8) ∧ w = w' := by
  go_enter Tryz.func41, Tryz.ntmps41
  go_wp2
  go_ret
  exact ⟨rfl, rfl⟩
set_option maxHeartbeats 400000 in
theorem plines4 (w : World) : Calls Tryz.prog 41 #[.int .i64 4] w fun e w' => e = .returned (.int .i64 16) ∧ w = w' := by
  go_enter Tryz.func41, Tryz.ntmps41
  go_wp2
  go_ret
  exact ⟨rfl, rfl⟩
set_option maxHeartbeats 400000 in
theorem plines_out (w : World) (c : Int) (h : c < 0 ∨ 4 < c) : Calls Tryz.prog 41 #[.int .i64 c] w fun e w' => e = .returned (.int .i64 0) ∧ w = w' := by
  by_cases h1 : c < 0
  · clear h
    go_enter Tryz.func41, Tryz.ntmps41
    go_wp2
    go_ret
    exact ⟨rfl, rfl⟩
  · have h2 : 4 < c := by omega
    clear h
    go_enter Tryz.func41, Tryz.ntmps41
    go_wp2
    go_ret
    exact ⟨rfl, rfl⟩

def StRel (w : World) (lay : Array Value) (base c s : Int) (m : Nat) (v i : Value) (wr : World) : Prop :=
  ∃ (j : Nat) (A : Option Addr) (cp : Nat), j ≤ m ∧ i = .int .i64 j ∧ v = .slice A j cp ∧ Cl wr w.heap.size 29 lay ∧
    wr.ownsRow (w.heap.size + 1) 3 1 (.slice A j cp) j (((spotsN base c s j).map (·.1)).map (Value.int .i64)) ∧ Below w.heap.size w wr
theorem spotsN_snoc (base c s : Int) (j : Nat) : ((spotsN base c s (j + 1)).map (·.1)).map (Value.int .i64) = ((spotsN base c s j).map (·.1)).map (Value.int .i64) ++ [.int .i64 (base + j * s)] := by simp [spotsN]

set_option maxRecDepth 100000 in
set_option maxHeartbeats 1000000 in
theorem starts0 (w : World) (l0 l1 l2 l3 l4 l5 heap : Int) (chunks k : Nat) (hk : k < chunks) (hc : chunks ≤ 300) (hh0 : 0 ≤ heap) (hh1 : heap ≤ 5000) :
    Calls Tryz.prog 14 #[.agg #[.int .i64 l0, .int .i64 l1, .int .i64 l2, .int .i64 l3, .int .i64 l4, .int .i64 l5, .int .i64 heap, .int .i64 (chunks : Int)], .int .i64 (k : Int), .int .i64 0] w (IntsPost w ((chunkSpots heap k 0).map (·.1))) := by
  obtain ⟨j0, hj0, hy0, hy1, hy2⟩ := info_parts int_info
  have hE : (chunkSpots heap k 0).map (·.1) = (spotsN (heap + 16 * k) 0 1 16).map (·.1) := rfl
  rw [hE]
  have hL : ((spotsN (heap + 16 * k) 0 1 16).map (·.1)).length = 16 := by rw [List.length_map, spotsN_length]
  have HL := Lib.hid hL
  clear hE hL
  go_enter Tryz.func14, Tryz.ntmps14
  go_wp2_with fail
  refine (plines0 _).mono ?_
  rintro e w1 ⟨rfl, rfl⟩
  go_wp2_with fail
  go_loopw [8, 9, 26] (fun v _ i wr => StRel w #[.int .i64 l0, .int .i64 l1, .int .i64 l2, .int .i64 l3, .int .i64 l4, .int .i64 l5, .int .i64 heap, .int .i64 (chunks : Int)] (heap + 16 * k) 0 1 16 v i wr) (fun _ _ i _ => 16 - (intOf i).toNat)
  case atStart => exact ⟨0, none, 0, by omega, rfl, rfl, Cl.new _ _ _, World.ownsRow_nil _ _ _ _, by (repeat (first | with_reducible exact Below.refl _ _ | with_reducible assumption | with_reducible refine below_drewN ?_ _ | with_reducible refine Below.drew ?_ | with_reducible refine Below.alloc ?_ (by first | omega | (simp; omega) | simp) _ | with_reducible refine Below.setCell ?_ (by first | omega | (simp; omega) | simp) _))⟩
  case round =>
    obtain ⟨j, A, cp, hj, rfl, rfl, hP, hown, hb⟩ := hrel
    have p6 := hP.cell 6
    simp only [List.getElem?_toArray, List.getElem?_cons_succ, List.getElem?_cons_zero] at p6
    have hs := hP.lt
    by_cases hlt : j < 16
    · have hS := Lib.hid (spotsN_snoc (heap + 16 * k) 0 1 j)
      go_wp2_with (at_builtin; refine wpList_append1 rfl (.tmp 29) (.tmp 39) 37 rfl (w.heap.size + 1) 3 j0 _ 1 8 Tryz.underlying37 hj0 hy0 hy1 hy2 rfl (by decide) (by decide) _ (j) (((spotsN (heap + 16 * k) 0 1 j).map (·.1)).map (Value.int .i64)) rfl (hown.alloc _) (by omega) (wr.heap.size) #[.int .i64 (heap + 16 * k + j)] rfl (Cl.new_ _ _ _ _ (by simp)) rfl (by simp [Value.oneCell']) (by simp; omega) ?_; intro Aq cq wq ownq grq; (have hP3 := grq.cl (hP.alloc _) (.inl (by decide))); (have hB3 := grq.below (show Below w.heap.size w _ by (repeat (first | with_reducible exact Below.refl _ _ | with_reducible assumption | with_reducible refine below_drewN ?_ _ | with_reducible refine Below.drew ?_ | with_reducible refine Below.alloc ?_ (by first | omega | (simp; omega) | simp) _ | with_reducible refine Below.setCell ?_ (by first | omega | (simp; omega) | simp) _))) (by simp; omega) (by omega)))
      go_roundw
      case rel =>
        have hfin : StRel w #[.int .i64 l0, .int .i64 l1, .int .i64 l2, .int .i64 l3, .int .i64 l4, .int .i64 l5, .int .i64 heap, .int .i64 (chunks : Int)] (heap + 16 * k) 0 1 16 (.slice Aq (j + 1) cq) (.int .i64 ((j : Int) + 1)) wq := ⟨j + 1, Aq, cq, by omega, by go_num, rfl, hP3, by rw [hS.out]; simpa using ownq, hB3⟩
        first
          | exact hfin
          | ((repeat apply Exists.intro); first | exact ⟨hfin, rfl⟩ | exact ⟨hfin, rfl, rfl, rfl⟩)
      case measure => simp [intOf]; omega
    · obtain rfl : j = 16 := by omega
      go_wp2_with fail
      go_ret
      exact ⟨A, cp, by rw [HL.out]; rfl, by unfold RdI; rw [HL.out]; exact Rd.own hown, hb⟩
set_option maxRecDepth 100000 in
set_option maxHeartbeats 1000000 in
theorem starts1 (w : World) (l0 l1 l2 l3 l4 l5 heap : Int) (chunks k : Nat) (hk : k < chunks) (hc : chunks ≤ 300) (hh0 : 0 ≤ heap) (hh1 : heap ≤ 5000) :
    Calls Tryz.prog 14 #[.agg #[.int .i64 l0, .int .i64 l1, .int .i64 l2, .int .i64 l3, .int .i64 l4, .int .i64 l5, .int .i64 heap, .int .i64 (chunks : Int)], .int .i64 (k : Int), .int .i64 1] w (IntsPost w ((chunkSpots heap k 1).map (·.1))) := by
  obtain ⟨j0, hj0, hy0, hy1, hy2⟩ := info_parts int_info
  have hE : (chunkSpots heap k 1).map (·.1) = (spotsN (heap + 16 * k) 1 2 8).map (·.1) := rfl
  rw [hE]
  have hL : ((spotsN (heap + 16 * k) 1 2 8).map (·.1)).length = 8 := by rw [List.length_map, spotsN_length]
  have HL := Lib.hid hL
  clear hE hL
  go_enter Tryz.func14, Tryz.ntmps14
  go_wp2_with fail
  refine (plines1 _).mono ?_
  rintro e w1 ⟨rfl, rfl⟩
  go_wp2_with fail
  go_loopw [8, 9, 26] (fun v _ i wr => StRel w #[.int .i64 l0, .int .i64 l1, .int .i64 l2, .int .i64 l3, .int .i64 l4, .int .i64 l5, .int .i64 heap, .int .i64 (chunks : Int)] (heap + 16 * k) 1 2 8 v i wr) (fun _ _ i _ => 8 - (intOf i).toNat)
  case atStart => exact ⟨0, none, 0, by omega, rfl, rfl, Cl.new _ _ _, World.ownsRow_nil _ _ _ _, by (repeat (first | with_reducible exact Below.refl _ _ | with_reducible assumption | with_reducible refine below_drewN ?_ _ | with_reducible refine Below.drew ?_ | with_reducible refine Below.alloc ?_ (by first | omega | (simp; omega) | simp) _ | with_reducible refine Below.setCell ?_ (by first | omega | (simp; omega) | simp) _))⟩
  case round =>
    obtain ⟨j, A, cp, hj, rfl, rfl, hP, hown, hb⟩ := hrel
    have p6 := hP.cell 6
    simp only [List.getElem?_toArray, List.getElem?_cons_succ, List.getElem?_cons_zero] at p6
    have hs := hP.lt
    by_cases hlt : j < 8
    · have hS := Lib.hid (spotsN_snoc (heap + 16 * k) 1 2 j)
      go_wp2_with (at_builtin; refine wpList_append1 rfl (.tmp 29) (.tmp 39) 37 rfl (w.heap.size + 1) 3 j0 _ 1 8 Tryz.underlying37 hj0 hy0 hy1 hy2 rfl (by decide) (by decide) _ (j) (((spotsN (heap + 16 * k) 1 2 j).map (·.1)).map (Value.int .i64)) rfl (hown.alloc _) (by omega) (wr.heap.size) #[.int .i64 (heap + 16 * k + j*2)] rfl (Cl.new_ _ _ _ _ (by simp)) rfl (by simp [Value.oneCell']) (by simp; omega) ?_; intro Aq cq wq ownq grq; (have hP3 := grq.cl (hP.alloc _) (.inl (by decide))); (have hB3 := grq.below (show Below w.heap.size w _ by (repeat (first | with_reducible exact Below.refl _ _ | with_reducible assumption | with_reducible refine below_drewN ?_ _ | with_reducible refine Below.drew ?_ | with_reducible refine Below.alloc ?_ (by first | omega | (simp; omega) | simp) _ | with_reducible refine Below.setCell ?_ (by first | omega | (simp; omega) | simp) _))) (by simp; omega) (by omega)))
      go_roundw
      case rel =>
        have hfin : StRel w #[.int .i64 l0, .int .i64 l1, .int .i64 l2, .int .i64 l3, .int .i64 l4, .int .i64 l5, .int .i64 heap, .int .i64 (chunks : Int)] (heap + 16 * k) 1 2 8 (.slice Aq (j + 1) cq) (.int .i64 ((j : Int) + 1)) wq := ⟨j + 1, Aq, cq, by omega, by go_num, rfl, hP3, by rw [hS.out]; simpa using ownq, hB3⟩
        first
          | exact hfin
          | ((repeat apply Exists.intro); first | exact ⟨hfin, rfl⟩ | exact ⟨hfin, rfl, rfl, rfl⟩)
      case measure => simp [intOf]; omega
    · obtain rfl : j = 8 := by omega
      go_wp2_with fail
      go_ret
      exact ⟨A, cp, by rw [HL.out]; rfl, by unfold RdI; rw [HL.out]; exact Rd.own hown, hb⟩
set_option maxRecDepth 100000 in
set_option maxHeartbeats 1000000 in
theorem starts2 (w : World) (l0 l1 l2 l3 l4 l5 heap : Int) (chunks k : Nat) (hk : k < chunks) (hc : chunks ≤ 300) (hh0 : 0 ≤ heap) (hh1 : heap ≤ 5000) :
    Calls Tryz.prog 14 #[.agg #[.int .i64 l0, .int .i64 l1, .int .i64 l2, .int .i64 l3, .int .i64 l4, .int .i64 l5, .int .i64 heap, .int .i64 (chunks : Int)], .int .i64 (k : Int), .int .i64 2] w (IntsPost w ((chunkSpots heap k 2).map (·.1))) := by
  obtain ⟨j0, hj0, hy0, hy1, hy2⟩ := info_parts int_info
  have hE : (chunkSpots heap k 2).map (·.1) = (spotsN (heap + 16 * k) 2 4 4).map (·.1) := rfl
  rw [hE]
  have hL : ((spotsN (heap + 16 * k) 2 4 4).map (·.1)).length = 4 := by rw [List.length_map, spotsN_length]
  have HL := Lib.hid hL
  clear hE hL
  go_enter Tryz.func14, Tryz.ntmps14
  go_wp2_with fail
  refine (plines2 _).mono ?_
  rintro e w1 ⟨rfl, rfl⟩
  go_wp2_with fail
  go_loopw [8, 9, 26] (fun v _ i wr => StRel w #[.int .i64 l0, .int .i64 l1, .int .i64 l2, .int .i64 l3, .int .i64 l4, .int .i64 l5, .int .i64 heap, .int .i64 (chunks : Int)] (heap + 16 * k) 2 4 4 v i wr) (fun _ _ i _ => 4 - (intOf i).toNat)
  case atStart => exact ⟨0, none, 0, by omega, rfl, rfl, Cl.new _ _ _, World.ownsRow_nil _ _ _ _, by (repeat (first | with_reducible exact Below.refl _ _ | with_reducible assumption | with_reducible refine below_drewN ?_ _ | with_reducible refine Below.drew ?_ | with_reducible refine Below.alloc ?_ (by first | omega | (simp; omega) | simp) _ | with_reducible refine Below.setCell ?_ (by first | omega | (simp; omega) | simp) _))⟩
  case round =>
    obtain ⟨j, A, cp, hj, rfl, rfl, hP, hown, hb⟩ := hrel
    have p6 := hP.cell 6
    simp only [List.getElem?_toArray, List.getElem?_cons_succ, List.getElem?_cons_zero] at p6
    have hs := hP.lt
    by_cases hlt : j < 4
    · have hS := Lib.hid (spotsN_snoc (heap + 16 * k) 2 4 j)
      go_wp2_with (at_builtin; refine wpList_append1 rfl (.tmp 29) (.tmp 39) 37 rfl (w.heap.size + 1) 3 j0 _ 1 8 Tryz.underlying37 hj0 hy0 hy1 hy2 rfl (by decide) (by decide) _ (j) (((spotsN (heap + 16 * k) 2 4 j).map (·.1)).map (Value.int .i64)) rfl (hown.alloc _) (by omega) (wr.heap.size) #[.int .i64 (heap + 16 * k + j*4)] rfl (Cl.new_ _ _ _ _ (by simp)) rfl (by simp [Value.oneCell']) (by simp; omega) ?_; intro Aq cq wq ownq grq; (have hP3 := grq.cl (hP.alloc _) (.inl (by decide))); (have hB3 := grq.below (show Below w.heap.size w _ by (repeat (first | with_reducible exact Below.refl _ _ | with_reducible assumption | with_reducible refine below_drewN ?_ _ | with_reducible refine Below.drew ?_ | with_reducible refine Below.alloc ?_ (by first | omega | (simp; omega) | simp) _ | with_reducible refine Below.setCell ?_ (by first | omega | (simp; omega) | simp) _))) (by simp; omega) (by omega)))
      go_roundw
      case rel =>
        have hfin : StRel w #[.int .i64 l0, .int .i64 l1, .int .i64 l2, .int .i64 l3, .int .i64 l4, .int .i64 l5, .int .i64 heap, .int .i64 (chunks : Int)] (heap + 16 * k) 2 4 4 (.slice Aq (j + 1) cq) (.int .i64 ((j : Int) + 1)) wq := ⟨j + 1, Aq, cq, by omega, by go_num, rfl, hP3, by rw [hS.out]; simpa using ownq, hB3⟩
        first
          | exact hfin
          | ((repeat apply Exists.intro); first | exact ⟨hfin, rfl⟩ | exact ⟨hfin, rfl, rfl, rfl⟩)
      case measure => simp [intOf]; omega
    · obtain rfl : j = 4 := by omega
      go_wp2_with fail
      go_ret
      exact ⟨A, cp, by rw [HL.out]; rfl, by unfold RdI; rw [HL.out]; exact Rd.own hown, hb⟩
set_option maxRecDepth 100000 in
set_option maxHeartbeats 1000000 in
theorem starts3 (w : World) (l0 l1 l2 l3 l4 l5 heap : Int) (chunks k : Nat) (hk : k < chunks) (hc : chunks ≤ 300) (hh0 : 0 ≤ heap) (hh1 : heap ≤ 5000) :
    Calls Tryz.prog 14 #[.agg #[.int .i64 l0, .int .i64 l1, .int .i64 l2, .int .i64 l3, .int .i64 l4, .int .i64 l5, .int .i64 heap, .int .i64 (chunks : Int)], .int .i64 (k : Int), .int .i64 3] w (IntsPost w ((chunkSpots heap k 3).map (·.1))) := by
  obtain ⟨j0, hj0, hy0, hy1, hy2⟩ := info_parts int_info
  have hE : (chunkSpots heap k 3).map (·.1) = (spotsN (heap + 16 * k) 3 8 2).map (·.1) := rfl
  rw [hE]
  have hL : ((spotsN (heap + 16 * k) 3 8 2).map (·.1)).length = 2 := by rw [List.length_map, spotsN_length]
  have HL := Lib.hid hL
  clear hE hL
  go_enter Tryz.func14, Tryz.ntmps14
  go_wp2_with fail
  refine (plines3 _).mono ?_
  rintro e w1 ⟨rfl, rfl⟩
  go_wp2_with fail
  go_loopw [8, 9, 26] (fun v _ i wr => StRel w #[.int .i64 l0, .int .i64 l1, .int .i64 l2, .int .i64 l3, .int .i64 l4, .int .i64 l5, .int .i64 heap, .int .i64 (chunks : Int)] (heap + 16 * k) 3 8 2 v i wr) (fun _ _ i _ => 2 - (intOf i).toNat)
  case atStart => exact ⟨0, none, 0, by omega, rfl, rfl, Cl.new _ _ _, World.ownsRow_nil _ _ _ _, by (repeat (first | with_reducible exact Below.refl _ _ | with_reducible assumption | with_reducible refine below_drewN ?_ _ | with_reducible refine Below.drew ?_ | with_reducible refine Below.alloc ?_ (by first | omega | (simp; omega) | simp) _ | with_reducible refine Below.setCell ?_ (by first | omega | (simp; omega) | simp) _))⟩
  case round =>
    obtain ⟨j, A, cp, hj, rfl, rfl, hP, hown, hb⟩ := hrel
    have p6 := hP.cell 6
    simp only [List.getElem?_toArray, List.getElem?_cons_succ, List.getElem?_cons_zero] at p6
    have hs := hP.lt
    by_cases hlt : j < 2
    · have hS := Lib.hid (spotsN_snoc (heap + 16 * k) 3 8 j)
      go_wp2_with (at_builtin; refine wpList_append1 rfl (.tmp 29) (.tmp 39) 37 rfl (w.heap.size + 1) 3 j0 _ 1 8 Tryz.underlying37 hj0 hy0 hy1 hy2 rfl (by decide) (by decide) _ (j) (((spotsN (heap + 16 * k) 3 8 j).map (·.1)).map (Value.int .i64)) rfl (hown.alloc _) (by omega) (wr.heap.size) #[.int .i64 (heap + 16 * k + j*8)] rfl (Cl.new_ _ _ _ _ (by simp)) rfl (by simp [Value.oneCell']) (by simp; omega) ?_; intro Aq cq wq ownq grq; (have hP3 := grq.cl (hP.alloc _) (.inl (by decide))); (have hB3 := grq.below (show Below w.heap.size w _ by (repeat (first | with_reducible exact Below.refl _ _ | with_reducible assumption | with_reducible refine below_drewN ?_ _ | with_reducible refine Below.drew ?_ | with_reducible refine Below.alloc ?_ (by first | omega | (simp; omega) | simp) _ | with_reducible refine Below.setCell ?_ (by first | omega | (simp; omega) | simp) _))) (by simp; omega) (by omega)))
      go_roundw
      case rel =>
        have hfin : StRel w #[.int .i64 l0, .int .i64 l1, .int .i64 l2, .int .i64 l3, .int .i64 l4, .int .i64 l5, .int .i64 heap, .int .i64 (chunks : Int)] (heap + 16 * k) 3 8 2 (.slice Aq (j + 1) cq) (.int .i64 ((j : Int) + 1)) wq := ⟨j + 1, Aq, cq, by omega, by go_num, rfl, hP3, by rw [hS.out]; simpa using ownq, hB3⟩
        first
          | exact hfin
          | ((repeat apply Exists.intro); first | exact ⟨hfin, rfl⟩ | exact ⟨hfin, rfl, rfl, rfl⟩)
      case measure => simp [intOf]; omega
    · obtain rfl : j = 2 := by omega
      go_wp2_with fail
      go_ret
      exact ⟨A, cp, by rw [HL.out]; rfl, by unfold RdI; rw [HL.out]; exact Rd.own hown, hb⟩
set_option maxRecDepth 100000 in
set_option maxHeartbeats 1000000 in
theorem starts4 (w : World) (l0 l1 l2 l3 l4 l5 heap : Int) (chunks k : Nat) (hk : k < chunks) (hc : chunks ≤ 300) (hh0 : 0 ≤ heap) (hh1 : heap ≤ 5000) :
    Calls Tryz.prog 14 #[.agg #[.int .i64 l0, .int .i64 l1, .int .i64 l2, .int .i64 l3, .int .i64 l4, .int .i64 l5, .int .i64 heap, .int .i64 (chunks : Int)], .int .i64 (k : Int), .int .i64 4] w (IntsPost w ((chunkSpots heap k 4).map (·.1))) := by
  obtain ⟨j0, hj0, hy0, hy1, hy2⟩ := info_parts int_info
  have hE : (chunkSpots heap k 4).map (·.1) = (spotsN (heap + 16 * k) 4 16 1).map (·.1) := rfl
  rw [hE]
  have hL : ((spotsN (heap + 16 * k) 4 16 1).map (·.1)).length = 1 := by rw [List.length_map, spotsN_length]
  have HL := Lib.hid hL
  clear hE hL
  go_enter Tryz.func14, Tryz.ntmps14
  go_wp2_with fail
  refine (plines4 _).mono ?_
  rintro e w1 ⟨rfl, rfl⟩
  go_wp2_with fail
  go_loopw [8, 9, 26] (fun v _ i wr => StRel w #[.int .i64 l0, .int .i64 l1, .int .i64 l2, .int .i64 l3, .int .i64 l4, .int .i64 l5, .int .i64 heap, .int .i64 (chunks : Int)] (heap + 16 * k) 4 16 1 v i wr) (fun _ _ i _ => 1 - (intOf i).toNat)
  case atStart => exact ⟨0, none, 0, by omega, rfl, rfl, Cl.new _ _ _, World.ownsRow_nil _ _ _ _, by (repeat (first | with_reducible exact Below.refl _ _ | with_reducible assumption | with_reducible refine below_drewN ?_ _ | with_reducible refine Below.drew ?_ | with_reducible refine Below.alloc ?_ (by first | omega | (simp; omega) | simp) _ | with_reducible refine Below.setCell ?_ (by first | omega | (simp; omega) | simp) _))⟩
  case round =>
    obtain ⟨j, A, cp, hj, rfl, rfl, hP, hown, hb⟩ := hrel
    have p6 := hP.cell 6
    simp only [List.getElem?_toArray, List.getElem?_cons_succ, List.getElem?_cons_zero] at p6
    have hs := hP.lt
    by_cases hlt : j < 1
    · have hS := Lib.hid (spotsN_snoc (heap + 16 * k) 4 16 j)
      go_wp2_with (at_builtin; refine wpList_append1 rfl (.tmp 29) (.tmp 39) 37 rfl (w.heap.size + 1) 3 j0 _ 1 8 Tryz.underlying37 hj0 hy0 hy1 hy2 rfl (by decide) (by decide) _ (j) (((spotsN (heap + 16 * k) 4 16 j).map (·.1)).map (Value.int .i64)) rfl (hown.alloc _) (by omega) (wr.heap.size) #[.int .i64 (heap + 16 * k + j*16)] rfl (Cl.new_ _ _ _ _ (by simp)) rfl (by simp [Value.oneCell']) (by simp; omega) ?_; intro Aq cq wq ownq grq; (have hP3 := grq.cl (hP.alloc _) (.inl (by decide))); (have hB3 := grq.below (show Below w.heap.size w _ by (repeat (first | with_reducible exact Below.refl _ _ | with_reducible assumption | with_reducible refine below_drewN ?_ _ | with_reducible refine Below.drew ?_ | with_reducible refine Below.alloc ?_ (by first | omega | (simp; omega) | simp) _ | with_reducible refine Below.setCell ?_ (by first | omega | (simp; omega) | simp) _))) (by simp; omega) (by omega)))
      go_roundw
      case rel =>
        have hfin : StRel w #[.int .i64 l0, .int .i64 l1, .int .i64 l2, .int .i64 l3, .int .i64 l4, .int .i64 l5, .int .i64 heap, .int .i64 (chunks : Int)] (heap + 16 * k) 4 16 1 (.slice Aq (j + 1) cq) (.int .i64 ((j : Int) + 1)) wq := ⟨j + 1, Aq, cq, by omega, by go_num, rfl, hP3, by rw [hS.out]; simpa using ownq, hB3⟩
        first
          | exact hfin
          | ((repeat apply Exists.intro); first | exact ⟨hfin, rfl⟩ | exact ⟨hfin, rfl, rfl, rfl⟩)
      case measure => simp [intOf]; omega
    · obtain rfl : j = 1 := by omega
      go_wp2_with fail
      go_ret
      exact ⟨A, cp, by rw [HL.out]; rfl, by unfold RdI; rw [HL.out]; exact Rd.own hown, hb⟩

set_option maxRecDepth 100000 in
set_option maxHeartbeats 400000 in
theorem starts_out (w : World) (lay : Array Value) (k : Nat) (c : Int) (h : c < 0 ∨ 4 < c) :
    Calls Tryz.prog 14 #[.agg lay, .int .i64 (k : Int), .int .i64 c] w (IntsPost w []) := by
  go_enter Tryz.func14, Tryz.ntmps14
  go_wp2_with fail
  refine (plines_out _ c h).mono ?_
  rintro e w1 ⟨rfl, rfl⟩
  go_wp2_with fail
  go_ret
  exact ⟨none, 0, rfl, Rd.nil_ _ _ _, by (repeat (first | with_reducible exact Below.refl _ _ | with_reducible assumption | with_reducible refine below_drewN ?_ _ | with_reducible refine Below.drew ?_ | with_reducible refine Below.alloc ?_ (by first | omega | (simp; omega) | simp) _ | with_reducible refine Below.setCell ?_ (by first | omega | (simp; omega) | simp) _))⟩

theorem starts_calls (w : World) (l0 l1 l2 l3 l4 l5 heap : Int) (chunks k c : Nat) (hk : k < chunks) (hc : chunks ≤ 300) (hh0 : 0 ≤ heap) (hh1 : heap ≤ 5000) (h4 : c ≤ 4) :
    Calls Tryz.prog 14 #[.agg #[.int .i64 l0, .int .i64 l1, .int .i64 l2, .int .i64 l3, .int .i64 l4, .int .i64 l5, .int .i64 heap, .int .i64 (chunks : Int)], .int .i64 (k : Int), .int .i64 (c : Int)] w (IntsPost w ((chunkSpots heap k c).map (·.1))) := by
  match c, h4 with
  | 0, _ => exact starts0 w l0 l1 l2 l3 l4 l5 heap chunks k hk hc hh0 hh1
  | 1, _ => exact starts1 w l0 l1 l2 l3 l4 l5 heap chunks k hk hc hh0 hh1
  | 2, _ => exact starts2 w l0 l1 l2 l3 l4 l5 heap chunks k hk hc hh0 hh1
  | 3, _ => exact starts3 w l0 l1 l2 l3 l4 l5 heap chunks k hk hc hh0 hh1
  | 4, _ => exact starts4 w l0 l1 l2 l3 l4 l5 heap chunks k hk hc hh0 hh1
end Go.Proofs.YtckamjbdogpacaaGreatDoor
