/-
  class.Starts: the result is a row of the call's own; every class of a chunk.
-/
import Derived.Test.YtckamjbdogpacaaGreatDoorStarts
namespace Go.Proofs.YtckamjbdogpacaaGreatDoor
open Go.RowKit
set_option linter.unusedSimpArgs false
set_option linter.unusedVariables false

def IntsOwn (w : World) (xs : List Int) (e : Ending) (w' : World) : Prop := ∃ (A : Option Addr) (c : Nat), e = .returned (.slice A xs.length c) ∧ w'.ownsRow w.heap.size 3 1 (.slice A xs.length c) xs.length (xs.map (Value.int .i64)) ∧ Below w.heap.size w w'

set_option maxRecDepth 100000 in
set_option maxHeartbeats 1000000 in
theorem ostarts0 (w : World) (l0 l1 l2 l3 l4 l5 heap : Int) (chunks k : Nat) (hk : k < chunks) (hc : chunks ≤ 300) (hh0 : 0 ≤ heap) (hh1 : heap ≤ 5000) :
    Calls Tryz.prog 14 #[.agg #[.int .i64 l0, .int .i64 l1, .int .i64 l2, .int .i64 l3, .int .i64 l4, .int .i64 l5, .int .i64 heap, .int .i64 (chunks : Int)], .int .i64 (k : Int), .int .i64 0] w (IntsOwn w ((chunkSpots heap k 0).map (·.1))) := by
  obtain ⟨j0, hj0, hy0, hy1, hy2⟩ := info_parts int_info
  have hE : (chunkSpots heap k 0).map (·.1) = (spotsN (heap + 16 * k) 0 1 16).map (·.1) := rfl
  rw [hE]
  have hL : ((spotsN (heap + 16 * k) 0 1 16).map (·.1)).length = 16 := by rw [List.length_map, spotsN_length]
  have HL := Lib.hid hL
  clear hE hL
  go_enter Tryz.func14, Tryz.ntmps14
  go_wp2_with fail
  refine (plines0 _).mono ?_
  rintro e w1 ⟨rfl, rfl⟩
  go_wp2_with fail
  go_loopw [8, 9, 26] (fun v _ i wr => StRel w #[.int .i64 l0, .int .i64 l1, .int .i64 l2, .int .i64 l3, .int .i64 l4, .int .i64 l5, .int .i64 heap, .int .i64 (chunks : Int)] (heap + 16 * k) 0 1 16 v i wr) (fun _ _ i _ => 16 - (intOf i).toNat)
  case atStart => exact ⟨0, none, 0, by omega, rfl, rfl, Cl.new _ _ _, World.ownsRow_nil _ _ _ _, by (repeat (first | with_reducible exact Below.refl _ _ | with_reducible assumption | with_reducible refine below_drewN ?_ _ | with_reducible refine Below.drew ?_ | with_reducible refine Below.alloc ?_ (by first | omega | (simp; omega) | simp) _ | with_reducible refine Below.setCell ?_ (by first | omega | (simp; omega) | simp) _))⟩
  case round =>
    obtain ⟨j, A, cp, hj, rfl, rfl, hP, hown, hb⟩ := hrel
    have p6 := hP.cell 6
    simp only [List.getElem?_toArray, List.getElem?_cons_succ, List.getElem?_cons_zero] at p6
    have hs := hP.lt
    by_cases hlt : j < 16
    · have hS := Lib.hid (spotsN_snoc (heap + 16 * k) 0 1 j)
      go_wp2_with (at_builtin; refine wpList_append1 rfl (.tmp 29) (.tmp 39) 37 rfl (w.heap.size + 1) 3 j0 _ 1 8 Tryz.underlying37 hj0 hy0 hy1 hy2 rfl (by decide) (by decide) _ (j) (((spotsN (heap + 16 * k) 0 1 j).map (·.1)).map (Value.int .i64)) rfl (hown.alloc _) (by omega) (wr.heap.size) #[.int .i64 (heap + 16 * k + j)] rfl (Cl.new_ _ _ _ _ (by simp)) rfl (by simp [Value.oneCell']) (by simp; omega) ?_; intro Aq cq wq ownq grq; (have hP3 := grq.cl (hP.alloc _) (.inl (by decide))); (have hB3 := grq.below (show Below w.heap.size w _ by (repeat (first | with_reducible exact Below.refl _ _ | with_reducible assumption | with_reducible refine below_drewN ?_ _ | with_reducible refine Below.drew ?_ | with_reducible refine Below.alloc ?_ (by first | omega | (simp; omega) | simp) _ | with_reducible refine Below.setCell ?_ (by first | omega | (simp; omega) | simp) _))) (by simp; omega) (by omega)))
      go_roundw
      case rel =>
        have hfin : StRel w #[.int .i64 l0, .int .i64 l1, .int .i64 l2, .int .i64 l3, .int .i64 l4, .int .i64 l5, .int .i64 heap, .int .i64 (chunks : Int)] (heap + 16 * k) 0 1 16 (.slice Aq (j + 1) cq) (.int .i64 ((j : Int) + 1)) wq := ⟨j + 1, Aq, cq, by omega, by go_num, rfl, hP3, by rw [hS.out]; simpa using ownq, hB3⟩
        first
          | exact hfin
          | ((repeat apply Exists.intro); first | exact ⟨hfin, rfl⟩ | exact ⟨hfin, rfl, rfl, rfl⟩)
      case measure => simp [intOf]; omega
    · obtain rfl : j = 16 := by omega
      go_wp2_with fail
      go_ret
      exact ⟨A, cp, by rw [HL.out]; rfl, by rw [HL.out]; exact own_base hown (by omega), hb⟩
set_option maxRecDepth 100000 in
set_option maxHeartbeats 1000000 in
theorem ostarts1 (w : World) (l0 l1 l2 l3 l4 l5 heap : Int) (chunks k : Nat) (hk : k < chunks) (hc : chunks ≤ 300) (hh0 : 0 ≤ heap) (hh1 : heap ≤ 5000) :
    Calls Tryz.prog 14 #[.agg #[.int .i64 l0, .int .i64 l1, .int .i64 l2, .int .i64 l3, .int .i64 l4, .int .i64 l5, .int .i64 heap, .int .i64 (chunks : Int)], .int .i64 (k : Int), .int .i64 1] w (IntsOwn w ((chunkSpots heap k 1).map (·.1))) := by
  obtain ⟨j0, hj0, hy0, hy1, hy2⟩ := info_parts int_info
  have hE : (chunkSpots heap k 1).map (·.1) = (spotsN (heap + 16 * k) 1 2 8).map (·.1) := rfl
  rw [hE]
  have hL : ((spotsN (heap + 16 * k) 1 2 8).map (·.1)).length = 8 := by rw [List.length_map, spotsN_length]
  have HL := Lib.hid hL
  clear hE hL
  go_enter Tryz.func14, Tryz.ntmps14
  go_wp2_with fail
  refine (plines1 _).mono ?_
  rintro e w1 ⟨rfl, rfl⟩
  go_wp2_with fail
  go_loopw [8, 9, 26] (fun v _ i wr => StRel w #[.int .i64 l0, .int .i64 l1, .int .i64 l2, .int .i64 l3, .int .i64 l4, .int .i64 l5, .int .i64 heap, .int .i64 (chunks : Int)] (heap + 16 * k) 1 2 8 v i wr) (fun _ _ i _ => 8 - (intOf i).toNat)
  case atStart => exact ⟨0, none, 0, by omega, rfl, rfl, Cl.new _ _ _, World.ownsRow_nil _ _ _ _, by (repeat (first | with_reducible exact Below.refl _ _ | with_reducible assumption | with_reducible refine below_drewN ?_ _ | with_reducible refine Below.drew ?_ | with_reducible refine Below.alloc ?_ (by first | omega | (simp; omega) | simp) _ | with_reducible refine Below.setCell ?_ (by first | omega | (simp; omega) | simp) _))⟩
  case round =>
    obtain ⟨j, A, cp, hj, rfl, rfl, hP, hown, hb⟩ := hrel
    have p6 := hP.cell 6
    simp only [List.getElem?_toArray, List.getElem?_cons_succ, List.getElem?_cons_zero] at p6
    have hs := hP.lt
    by_cases hlt : j < 8
    · have hS := Lib.hid (spotsN_snoc (heap + 16 * k) 1 2 j)
      go_wp2_with (at_builtin; refine wpList_append1 rfl (.tmp 29) (.tmp 39) 37 rfl (w.heap.size + 1) 3 j0 _ 1 8 Tryz.underlying37 hj0 hy0 hy1 hy2 rfl (by decide) (by decide) _ (j) (((spotsN (heap + 16 * k) 1 2 j).map (·.1)).map (Value.int .i64)) rfl (hown.alloc _) (by omega) (wr.heap.size) #[.int .i64 (heap + 16 * k + j*2)] rfl (Cl.new_ _ _ _ _ (by simp)) rfl (by simp [Value.oneCell']) (by simp; omega) ?_; intro Aq cq wq ownq grq; (have hP3 := grq.cl (hP.alloc _) (.inl (by decide))); (have hB3 := grq.below (show Below w.heap.size w _ by (repeat (first | with_reducible exact Below.refl _ _ | with_reducible assumption | with_reducible refine below_drewN ?_ _ | with_reducible refine Below.drew ?_ | with_reducible refine Below.alloc ?_ (by first | omega | (simp; omega) | simp) _ | with_reducible refine Below.setCell ?_ (by first | omega | (simp; omega) | simp) _))) (by simp; omega) (by omega)))
      go_roundw
      case rel =>
        have hfin : StRel w #[.int .i64 l0, .int .i64 l1, .int .i64 l2, .int .i64 l3, .int .i64 l4, .int .i64 l5, .int .i64 heap, .int .i64 (chunks : Int)] (heap + 16 * k) 1 2 8 (.slice Aq (j + 1) cq) (.int .i64 ((j : Int) + 1)) wq := ⟨j + 1, Aq, cq, by omega, by go_num, rfl, hP3, by rw [hS.out]; simpa using ownq, hB3⟩
        first
          | exact hfin
          | ((repeat apply Exists.intro); first | exact ⟨hfin, rfl⟩ | exact ⟨hfin, rfl, rfl, rfl⟩)
      case measure => simp [intOf]; omega
    · obtain rfl : j = 8 := by omega
      go_wp2_with fail
      go_ret
      exact ⟨A, cp, by rw [HL.out]; rfl, by rw [HL.out]; exact own_base hown (by omega), hb⟩
set_option maxRecDepth 100000 in
set_option maxHeartbeats 1000000 in
theorem ostarts2 (w : World) (l0 l1 l2 l3 l4 l5 heap : Int) (chunks k : Nat) (hk : k < chunks) (hc : chunks ≤ 300) (hh0 : 0 ≤ heap) (hh1 : heap ≤ 5000) :
    Calls Tryz.prog 14 #[.agg #[.int .i64 l0, .int .i64 l1, .int .i64 l2, .int .i64 l3, .int .i64 l4, .int .i64 l5, .int .i64 heap, .int .i64 (chunks : Int)], .int .i64 (k : Int), .int .i64 2] w (IntsOwn w ((chunkSpots heap k 2).map (·.1))) := by
  obtain ⟨j0, hj0, hy0, hy1, hy2⟩ := info_parts int_info
  have hE : (chunkSpots heap k 2).map (·.1) = (spotsN (heap + 16 * k) 2 4 4).map (·.1) := rfl
  rw [hE]
  have hL : ((spotsN (heap + 16 * k) 2 4 4).map (·.1)).length = 4 := by rw [List.length_map, spotsN_length]
  have HL := Lib.hid hL
  clear hE hL
  go_enter Tryz.func14, Tryz.ntmps14
  go_wp2_with fail
  refine (plines2 _).mono ?_
  rintro e w1 ⟨rfl, rfl⟩
  go_wp2_with fail
  go_loopw [8, 9, 26] (fun v _ i wr => StRel w #[.int .i64 l0, .int .i64 l1, .int .i64 l2, .int .i64 l3, .int .i64 l4, .int .i64 l5, .int .i64 heap, .int .i64 (chunks : Int)] (heap + 16 * k) 2 4 4 v i wr) (fun _ _ i _ => 4 - (intOf i).toNat)
  case atStart => exact ⟨0, none, 0, by omega, rfl, rfl, Cl.new _ _ _, World.ownsRow_nil _ _ _ _, by (repeat (first | with_reducible exact Below.refl _ _ | with_reducible assumption | with_reducible refine below_drewN ?_ _ | with_reducible refine Below.drew ?_ | with_reducible refine Below.alloc ?_ (by first | omega | (simp; omega) | simp) _ | with_reducible refine Below.setCell ?_ (by first | omega | (simp; omega) | simp) _))⟩
  case round =>
    obtain ⟨j, A, cp, hj, rfl, rfl, hP, hown, hb⟩ := hrel
    have p6 := hP.cell 6
    simp only [List.getElem?_toArray, List.getElem?_cons_succ, List.getElem?_cons_zero] at p6
    have hs := hP.lt
    by_cases hlt : j < 4
    · have hS := Lib.hid (spotsN_snoc (heap + 16 * k) 2 4 j)
      go_wp2_with (at_builtin; refine wpList_append1 rfl (.tmp 29) (.tmp 39) 37 rfl (w.heap.size + 1) 3 j0 _ 1 8 Tryz.underlying37 hj0 hy0 hy1 hy2 rfl (by decide) (by decide) _ (j) (((spotsN (heap + 16 * k) 2 4 j).map (·.1)).map (Value.int .i64)) rfl (hown.alloc _) (by omega) (wr.heap.size) #[.int .i64 (heap + 16 * k + j*4)] rfl (Cl.new_ _ _ _ _ (by simp)) rfl (by simp [Value.oneCell']) (by simp; omega) ?_; intro Aq cq wq ownq grq; (have hP3 := grq.cl (hP.alloc _) (.inl (by decide))); (have hB3 := grq.below (show Below w.heap.size w _ by (repeat (first | with_reducible exact Below.refl _ _ | with_reducible assumption | with_reducible refine below_drewN ?_ _ | with_reducible refine Below.drew ?_ | with_reducible refine Below.alloc ?_ (by first | omega | (simp; omega) | simp) _ | with_reducible refine Below.setCell ?_ (by first | omega | (simp; omega) | simp) _))) (by simp; omega) (by omega)))
      go_roundw
      case rel =>
        have hfin : StRel w #[.int .i64 l0, .int .i64 l1, .int .i64 l2, .int .i64 l3, .int .i64 l4, .int .i64 l5, .int .i64 heap, .int .i64 (chunks : Int)] (heap + 16 * k) 2 4 4 (.slice Aq (j + 1) cq) (.int .i64 ((j : Int) + 1)) wq := ⟨j + 1, Aq, cq, by omega, by go_num, rfl, hP3, by rw [hS.out]; simpa using ownq, hB3⟩
        first
          | exact hfin
          | ((repeat apply Exists.intro); first | exact ⟨hfin, rfl⟩ | exact ⟨hfin, rfl, rfl, rfl⟩)
      case measure => simp [intOf]; omega
    · obtain rfl : j = 4 := by omega
      go_wp2_with fail
      go_ret
      exact ⟨A, cp, by rw [HL.out]; rfl, by rw [HL.out]; exact own_base hown (by omega), hb⟩
set_option maxRecDepth 100000 in
set_option maxHeartbeats 1000000 in
theorem ostarts3 (w : World) (l0 l1 l2 l3 l4 l5 heap : Int) (chunks k : Nat) (hk : k < chunks) (hc : chunks ≤ 300) (hh0 : 0 ≤ heap) (hh1 : heap ≤ 5000) :
    Calls Tryz.prog 14 #[.agg #[.int .i64 l0, .int .i64 l1, .int .i64 l2, .int .i64 l3, .int .i64 l4, .int .i64 l5, .int .i64 heap, .int .i64 (chunks : Int)], .int .i64 (k : Int), .int .i64 3] w (IntsOwn w ((chunkSpots heap k 3).map (·.1))) := by
  obtain ⟨j0, hj0, hy0, hy1, hy2⟩ := info_parts int_info
  have hE : (chunkSpots heap k 3).map (·.1) = (spotsN (heap + 16 * k) 3 8 2).map (·.1) := rfl
  rw [hE]
  have hL : ((spotsN (heap + 16 * k) 3 8 2).map (·.1)).length = 2 := by rw [List.length_map, spotsN_length]
  have HL := Lib.hid hL
  clear hE hL
  go_enter Tryz.func14, Tryz.ntmps14
  go_wp2_with fail
  refine (plines3 _).mono ?_
  rintro e w1 ⟨rfl, rfl⟩
  go_wp2_with fail
  go_loopw [8, 9, 26] (fun v _ i wr => StRel w #[.int .i64 l0, .int .i64 l1, .int .i64 l2, .int .i64 l3, .int .i64 l4, .int .i64 l5, .int .i64 heap, .int .i64 (chunks : Int)] (heap + 16 * k) 3 8 2 v i wr) (fun _ _ i _ => 2 - (intOf i).toNat)
  case atStart => exact ⟨0, none, 0, by omega, rfl, rfl, Cl.new _ _ _, World.ownsRow_nil _ _ _ _, by (repeat (first | with_reducible exact Below.refl _ _ | with_reducible assumption | with_reducible refine below_drewN ?_ _ | with_reducible refine Below.drew ?_ | with_reducible refine Below.alloc ?_ (by first | omega | (simp; omega) | simp) _ | with_reducible refine Below.setCell ?_ (by first | omega | (simp; omega) | simp) _))⟩
  case round =>
    obtain ⟨j, A, cp, hj, rfl, rfl, hP, hown, hb⟩ := hrel
    have p6 := hP.cell 6
    simp only [List.getElem?_toArray, List.getElem?_cons_succ, List.getElem?_cons_zero] at p6
    have hs := hP.lt
    by_cases hlt : j < 2
    · have hS := Lib.hid (spotsN_snoc (heap + 16 * k) 3 8 j)
      go_wp2_with (at_builtin; refine wpList_append1 rfl (.tmp 29) (.tmp 39) 37 rfl (w.heap.size + 1) 3 j0 _ 1 8 Tryz.underlying37 hj0 hy0 hy1 hy2 rfl (by decide) (by decide) _ (j) (((spotsN (heap + 16 * k) 3 8 j).map (·.1)).map (Value.int .i64)) rfl (hown.alloc _) (by omega) (wr.heap.size) #[.int .i64 (heap + 16 * k + j*8)] rfl (Cl.new_ _ _ _ _ (by simp)) rfl (by simp [Value.oneCell']) (by simp; omega) ?_; intro Aq cq wq ownq grq; (have hP3 := grq.cl (hP.alloc _) (.inl (by decide))); (have hB3 := grq.below (show Below w.heap.size w _ by (repeat (first | with_reducible exact Below.refl _ _ | with_reducible assumption | with_reducible refine below_drewN ?_ _ | with_reducible refine Below.drew ?_ | with_reducible refine Below.alloc ?_ (by first | omega | (simp; omega) | simp) _ | with_reducible refine Below.setCell ?_ (by first | omega | (simp; omega) | simp) _))) (by simp; omega) (by omega)))
      go_roundw
      case rel =>
        have hfin : StRel w #[.int .i64 l0, .int .i64 l1, .int .i64 l2, .int .i64 l3, .int .i64 l4, .int .i64 l5, .int .i64 heap, .int .i64 (chunks : Int)] (heap + 16 * k) 3 8 2 (.slice Aq (j + 1) cq) (.int .i64 ((j : Int) + 1)) wq := ⟨j + 1, Aq, cq, by omega, by go_num, rfl, hP3, by rw [hS.out]; simpa using ownq, hB3⟩
        first
          | exact hfin
          | ((repeat apply Exists.intro); first | exact ⟨hfin, rfl⟩ | exact ⟨hfin, rfl, rfl, rfl⟩)
      case measure => simp [intOf]; omega
    · obtain rfl : j = 2 := by omega
      go_wp2_with fail
      go_ret
      exact ⟨A, cp, by rw [HL.out]; rfl, by rw [HL.out]; exact own_base hown (by omega), hb⟩
set_option maxRecDepth 100000 in
set_option maxHeartbeats 1000000 in
theorem ostarts4 (w : World) (l0 l1 l2 l3 l4 l5 heap : Int) (chunks k : Nat) (hk : k < chunks) (hc : chunks ≤ 300) (hh0 : 0 ≤ heap) (hh1 : heap ≤ 5000) :
    Calls Tryz.prog 14 #[.agg #[.int .i64 l0, .int .i64 l1, .int .i64 l2, .int .i64 l3, .int .i64 l4, .int .i64 l5, .int .i64 heap, .int .i64 (chunks : Int)], .int .i64 (k : Int), .int .i64 4] w (IntsOwn w ((chunkSpots heap k 4).map (·.1))) := by
  obtain ⟨j0, hj0, hy0, hy1, hy2⟩ := info_parts int_info
  have hE : (chunkSpots heap k 4).map (·.1) = (spotsN (heap + 16 * k) 4 16 1).map (·.1) := rfl
  rw [hE]
  have hL : ((spotsN (heap + 16 * k) 4 16 1).map (·.1)).length = 1 := by rw [List.length_map, spotsN_length]
  have HL := Lib.hid hL
  clear hE hL
  go_enter Tryz.func14, Tryz.ntmps14
  go_wp2_with fail
  refine (plines4 _).mono ?_
  rintro e w1 ⟨rfl, rfl⟩
  go_wp2_with fail
  go_loopw [8, 9, 26] (fun v _ i wr => StRel w #[.int .i64 l0, .int .i64 l1, .int .i64 l2, .int .i64 l3, .int .i64 l4, .int .i64 l5, .int .i64 heap, .int .i64 (chunks : Int)] (heap + 16 * k) 4 16 1 v i wr) (fun _ _ i _ => 1 - (intOf i).toNat)
  case atStart => exact ⟨0, none, 0, by omega, rfl, rfl, Cl.new _ _ _, World.ownsRow_nil _ _ _ _, by (repeat (first | with_reducible exact Below.refl _ _ | with_reducible assumption | with_reducible refine below_drewN ?_ _ | with_reducible refine Below.drew ?_ | with_reducible refine Below.alloc ?_ (by first | omega | (simp; omega) | simp) _ | with_reducible refine Below.setCell ?_ (by first | omega | (simp; omega) | simp) _))⟩
  case round =>
    obtain ⟨j, A, cp, hj, rfl, rfl, hP, hown, hb⟩ := hrel
    have p6 := hP.cell 6
    simp only [List.getElem?_toArray, List.getElem?_cons_succ, List.getElem?_cons_zero] at p6
    have hs := hP.lt
    by_cases hlt : j < 1
    · have hS := Lib.hid (spotsN_snoc (heap + 16 * k) 4 16 j)
      go_wp2_with (at_builtin; refine wpList_append1 rfl (.tmp 29) (.tmp 39) 37 rfl (w.heap.size + 1) 3 j0 _ 1 8 Tryz.underlying37 hj0 hy0 hy1 hy2 rfl (by decide) (by decide) _ (j) (((spotsN (heap + 16 * k) 4 16 j).map (·.1)).map (Value.int .i64)) rfl (hown.alloc _) (by omega) (wr.heap.size) #[.int .i64 (heap + 16 * k + j*16)] rfl (Cl.new_ _ _ _ _ (by simp)) rfl (by simp [Value.oneCell']) (by simp; omega) ?_; intro Aq cq wq ownq grq; (have hP3 := grq.cl (hP.alloc _) (.inl (by decide))); (have hB3 := grq.below (show Below w.heap.size w _ by (repeat (first | with_reducible exact Below.refl _ _ | with_reducible assumption | with_reducible refine below_drewN ?_ _ | with_reducible refine Below.drew ?_ | with_reducible refine Below.alloc ?_ (by first | omega | (simp; omega) | simp) _ | with_reducible refine Below.setCell ?_ (by first | omega | (simp; omega) | simp) _))) (by simp; omega) (by omega)))
      go_roundw
      case rel =>
        have hfin : StRel w #[.int .i64 l0, .int .i64 l1, .int .i64 l2, .int .i64 l3, .int .i64 l4, .int .i64 l5, .int .i64 heap, .int .i64 (chunks : Int)] (heap + 16 * k) 4 16 1 (.slice Aq (j + 1) cq) (.int .i64 ((j : Int) + 1)) wq := ⟨j + 1, Aq, cq, by omega, by go_num, rfl, hP3, by rw [hS.out]; simpa using ownq, hB3⟩
        first
          | exact hfin
          | ((repeat apply Exists.intro); first | exact ⟨hfin, rfl⟩ | exact ⟨hfin, rfl, rfl, rfl⟩)
      case measure => simp [intOf]; omega
    · obtain rfl : j = 1 := by omega
      go_wp2_with fail
      go_ret
      exact ⟨A, cp, by rw [HL.out]; rfl, by rw [HL.out]; exact own_base hown (by omega), hb⟩

set_option maxRecDepth 100000 in
set_option maxHeartbeats 400000 in
theorem ostarts_out (w : World) (lay : Array Value) (k : Nat) (c : Int) (h : c < 0 ∨ 4 < c) :
    Calls Tryz.prog 14 #[.agg lay, .int .i64 (k : Int), .int .i64 c] w (IntsOwn w []) := by
  go_enter Tryz.func14, Tryz.ntmps14
  go_wp2_with fail
  refine (plines_out _ c h).mono ?_
  rintro e w1 ⟨rfl, rfl⟩
  go_wp2_with fail
  go_ret
  exact ⟨none, 0, rfl, World.ownsRow_nil _ _ _ _, by (repeat (first | with_reducible exact Below.refl _ _ | with_reducible assumption | with_reducible refine below_drewN ?_ _ | with_reducible refine Below.drew ?_ | with_reducible refine Below.alloc ?_ (by first | omega | (simp; omega) | simp) _ | with_reducible refine Below.setCell ?_ (by first | omega | (simp; omega) | simp) _))⟩

/-- The first lines of the blocks of a chunk whose class is c (none, if c is no class). -/
def lsOf (k : Nat) (c : Int) : List Int := if c < 0 then [] else (chunkSpots 16 k c.toNat).map (·.1)
theorem ostarts_calls (w : World) (lL : Int) (k C : Nat) (c : Int) (hk : k < C) (hC : C ≤ 5) (hc0 : -2 ≤ c) (hc1 : c ≤ 4) :
    Calls Tryz.prog 14 #[.agg #[.int .i64 lL, .int .i64 2, .int .i64 8, .int .i64 10, .int .i64 4, .int .i64 14, .int .i64 16, .int .i64 (C : Int)], .int .i64 (k : Int), .int .i64 c] w (IntsOwn w (lsOf k c)) := by
  by_cases h : c < 0
  · rw [lsOf, if_pos h]
    exact ostarts_out w _ k c (.inl h)
  · rw [lsOf, if_neg h]
    have h5 : c = 0 ∨ c = 1 ∨ c = 2 ∨ c = 3 ∨ c = 4 := by omega
    rcases h5 with rfl | rfl | rfl | rfl | rfl
    · exact ostarts0 w lL 2 8 10 4 14 16 C k hk (by omega) (by omega) (by omega)
    · exact ostarts1 w lL 2 8 10 4 14 16 C k hk (by omega) (by omega) (by omega)
    · exact ostarts2 w lL 2 8 10 4 14 16 C k hk (by omega) (by omega) (by omega)
    · exact ostarts3 w lL 2 8 10 4 14 16 C k hk (by omega) (by omega) (by omega)
    · exact ostarts4 w lL 2 8 10 4 14 16 C k hk (by omega) (by omega) (by omega)

theorem spotsN_mem {base c s x : Int} {n : Nat} (h : x ∈ (spotsN base c s n).map (·.1)) : ∃ j : Nat, j < n ∧ x = base + j * s := by
  induction n with
  | zero => simp [spotsN] at h
  | succ n ih =>
    rw [spotsN, List.map_append, List.mem_append] at h
    rcases h with h | h
    · obtain ⟨j, hj, e⟩ := ih h
      exact ⟨j, by omega, e⟩
    · simp at h
      exact ⟨n, by omega, h⟩
/-- Where the lines of a chunk lie. -/
theorem lsOf_mem {k : Nat} {c ln : Int} (hc1 : c ≤ 4) (h : ln ∈ lsOf k c) : 0 ≤ c ∧ 16 + 16 * (k : Int) ≤ ln ∧ ln < 16 + 16 * (k : Int) + 16 ∧ (ln - 16) % 2 ^ c.toNat = 0 := by
  unfold lsOf at h
  split at h
  · simp at h
  · rename_i hc
    have h5 : c = 0 ∨ c = 1 ∨ c = 2 ∨ c = 3 ∨ c = 4 := by omega
    unfold chunkSpots at h
    obtain ⟨j, hj, e⟩ := spotsN_mem h
    rcases h5 with rfl | rfl | rfl | rfl | rfl
    all_goals
      simp at hj e
      refine ⟨by omega, by omega, by omega, ?_⟩
      simp
      try omega
theorem lsOf_length (k : Nat) (c : Int) (hc1 : c ≤ 4) : (lsOf k c).length ≤ 16 := by
  unfold lsOf
  split
  · simp
  · rename_i hc
    have h5 : c = 0 ∨ c = 1 ∨ c = 2 ∨ c = 3 ∨ c = 4 := by omega
    rw [List.length_map, chunkSpots, spotsN_length]
    rcases h5 with rfl | rfl | rfl | rfl | rfl <;> simp
end Go.Proofs.YtckamjbdogpacaaGreatDoor
