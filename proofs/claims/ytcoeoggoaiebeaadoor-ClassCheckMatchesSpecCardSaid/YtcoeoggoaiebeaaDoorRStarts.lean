/-
  class.Starts and the specification's Starts, at every two integers.
-/
import Derived.Test.YtcoeoggoaiebeaaDoorStarts
namespace Go.Proofs.YtcoeoggoaiebeaaDoor
open Go.RowKit
set_option linter.unusedSimpArgs false
set_option linter.unusedVariables false

theorem rlines0 (w : World) : Calls Tryd.prog 34 #[.int .i64 0] w fun e w' => e = .returned (.int .i64 1) ∧ w = w' := rlines_calls w 0 (by omega)
theorem rlines1 (w : World) : Calls Tryd.prog 34 #[.int .i64 1] w fun e w' => e = .returned (.int .i64 2) ∧ w = w' := rlines_calls w 1 (by omega)
theorem rlines2 (w : World) : Calls Tryd.prog 34 #[.int .i64 2] w fun e w' => e = .returned (.int .i64 4) ∧ w = w' := rlines_calls w 2 (by omega)
theorem rlines3 (w : World) : Calls Tryd.prog 34 #[.int .i64 3] w fun e w' => e = .returned (.int .i64 8) ∧ w = w' := rlines_calls w 3 (by omega)
theorem rlines4 (w : World) : Calls Tryd.prog 34 #[.int .i64 4] w fun e w' => e = .returned (.int .i64 16) ∧ w = w' := rlines_calls w 4 (by omega)
theorem five' (c : Int) : (c < 0 ∨ 4 < c) ∨ c = 0 ∨ c = 1 ∨ c = 2 ∨ c = 3 ∨ c = 4 := by omega
def inCh (chunks : Nat) (k : Int) : Prop := 0 ≤ k ∧ k < chunks

set_option maxRecDepth 100000 in
set_option maxHeartbeats 400000 in
theorem startsC_out (w : World) (lay : Array Value) (k : Int) (c : Int) (h : c < 0 ∨ 4 < c) :
    Calls Tryd.prog 15 #[.agg lay, .int .i64 k, .int .i64 c] w (IntsPost w []) := by
  go_enter Tryd.func15, Tryd.ntmps15
  go_wp2_with fail
  refine (plines_out _ c h).mono ?_
  rintro e w1 ⟨rfl, rfl⟩
  go_wp2_with fail
  go_ret
  exact ⟨none, 0, rfl, Rd.nil_ _ _ _, by (repeat (first | with_reducible exact Below.refl _ _ | with_reducible assumption | with_reducible refine below_drewN ?_ _ | with_reducible refine Below.drew ?_ | with_reducible refine Below.alloc ?_ (by first | omega | (simp; omega) | simp) _ | with_reducible refine Below.setCell ?_ (by first | omega | (simp; omega) | simp) _))⟩

set_option maxRecDepth 100000 in
set_option maxHeartbeats 400000 in
theorem startsK_neg0 (w : World) (l0 l1 l2 l3 l4 l5 heap : Int) (chunks : Nat) (k : Int) (h : k < 0) :
    Calls Tryd.prog 15 #[.agg #[.int .i64 l0, .int .i64 l1, .int .i64 l2, .int .i64 l3, .int .i64 l4, .int .i64 l5, .int .i64 heap, .int .i64 (chunks : Int)], .int .i64 k, .int .i64 0] w (IntsPost w []) := by
  go_enter Tryd.func15, Tryd.ntmps15
  go_wp2_with fail
  refine (plines0 _).mono ?_
  rintro e w1 ⟨rfl, rfl⟩
  go_wp2_with fail
  go_ret
  exact ⟨none, 0, rfl, Rd.nil_ _ _ _, by (repeat (first | with_reducible exact Below.refl _ _ | with_reducible assumption | with_reducible refine below_drewN ?_ _ | with_reducible refine Below.drew ?_ | with_reducible refine Below.alloc ?_ (by first | omega | (simp; omega) | simp) _ | with_reducible refine Below.setCell ?_ (by first | omega | (simp; omega) | simp) _))⟩
set_option maxRecDepth 100000 in
set_option maxHeartbeats 400000 in
theorem startsK_big0 (w : World) (l0 l1 l2 l3 l4 l5 heap : Int) (chunks : Nat) (k : Int) (h0 : ¬ k < 0) (h : (chunks : Int) ≤ k) :
    Calls Tryd.prog 15 #[.agg #[.int .i64 l0, .int .i64 l1, .int .i64 l2, .int .i64 l3, .int .i64 l4, .int .i64 l5, .int .i64 heap, .int .i64 (chunks : Int)], .int .i64 k, .int .i64 0] w (IntsPost w []) := by
  go_enter Tryd.func15, Tryd.ntmps15
  go_wp2_with fail
  refine (plines0 _).mono ?_
  rintro e w1 ⟨rfl, rfl⟩
  go_wp2_with fail
  go_ret
  exact ⟨none, 0, rfl, Rd.nil_ _ _ _, by (repeat (first | with_reducible exact Below.refl _ _ | with_reducible assumption | with_reducible refine below_drewN ?_ _ | with_reducible refine Below.drew ?_ | with_reducible refine Below.alloc ?_ (by first | omega | (simp; omega) | simp) _ | with_reducible refine Below.setCell ?_ (by first | omega | (simp; omega) | simp) _))⟩
set_option maxRecDepth 100000 in
set_option maxHeartbeats 400000 in
theorem startsK_neg1 (w : World) (l0 l1 l2 l3 l4 l5 heap : Int) (chunks : Nat) (k : Int) (h : k < 0) :
    Calls Tryd.prog 15 #[.agg #[.int .i64 l0, .int .i64 l1, .int .i64 l2, .int .i64 l3, .int .i64 l4, .int .i64 l5, .int .i64 heap, .int .i64 (chunks : Int)], .int .i64 k, .int .i64 1] w (IntsPost w []) := by
  go_enter Tryd.func15, Tryd.ntmps15
  go_wp2_with fail
  refine (plines1 _).mono ?_
  rintro e w1 ⟨rfl, rfl⟩
  go_wp2_with fail
  go_ret
  exact ⟨none, 0, rfl, Rd.nil_ _ _ _, by (repeat (first | with_reducible exact Below.refl _ _ | with_reducible assumption | with_reducible refine below_drewN ?_ _ | with_reducible refine Below.drew ?_ | with_reducible refine Below.alloc ?_ (by first | omega | (simp; omega) | simp) _ | with_reducible refine Below.setCell ?_ (by first | omega | (simp; omega) | simp) _))⟩
set_option maxRecDepth 100000 in
set_option maxHeartbeats 400000 in
theorem startsK_big1 (w : World) (l0 l1 l2 l3 l4 l5 heap : Int) (chunks : Nat) (k : Int) (h0 : ¬ k < 0) (h : (chunks : Int) ≤ k) :
    Calls Tryd.prog 15 #[.agg #[.int .i64 l0, .int .i64 l1, .int .i64 l2, .int .i64 l3, .int .i64 l4, .int .i64 l5, .int .i64 heap, .int .i64 (chunks : Int)], .int .i64 k, .int .i64 1] w (IntsPost w []) := by
  go_enter Tryd.func15, Tryd.ntmps15
  go_wp2_with fail
  refine (plines1 _).mono ?_
  rintro e w1 ⟨rfl, rfl⟩
  go_wp2_with fail
  go_ret
  exact ⟨none, 0, rfl, Rd.nil_ _ _ _, by (repeat (first | with_reducible exact Below.refl _ _ | with_reducible assumption | with_reducible refine below_drewN ?_ _ | with_reducible refine Below.drew ?_ | with_reducible refine Below.alloc ?_ (by first | omega | (simp; omega) | simp) _ | with_reducible refine Below.setCell ?_ (by first | omega | (simp; omega) | simp) _))⟩
set_option maxRecDepth 100000 in
set_option maxHeartbeats 400000 in
theorem startsK_neg2 (w : World) (l0 l1 l2 l3 l4 l5 heap : Int) (chunks : Nat) (k : Int) (h : k < 0) :
    Calls Tryd.prog 15 #[.agg #[.int .i64 l0, .int .i64 l1, .int .i64 l2, .int .i64 l3, .int .i64 l4, .int .i64 l5, .int .i64 heap, .int .i64 (chunks : Int)], .int .i64 k, .int .i64 2] w (IntsPost w []) := by
  go_enter Tryd.func15, Tryd.ntmps15
  go_wp2_with fail
  refine (plines2 _).mono ?_
  rintro e w1 ⟨rfl, rfl⟩
  go_wp2_with fail
  go_ret
  exact ⟨none, 0, rfl, Rd.nil_ _ _ _, by (repeat (first | with_reducible exact Below.refl _ _ | with_reducible assumption | with_reducible refine below_drewN ?_ _ | with_reducible refine Below.drew ?_ | with_reducible refine Below.alloc ?_ (by first | omega | (simp; omega) | simp) _ | with_reducible refine Below.setCell ?_ (by first | omega | (simp; omega) | simp) _))⟩
set_option maxRecDepth 100000 in
set_option maxHeartbeats 400000 in
theorem startsK_big2 (w : World) (l0 l1 l2 l3 l4 l5 heap : Int) (chunks : Nat) (k : Int) (h0 : ¬ k < 0) (h : (chunks : Int) ≤ k) :
    Calls Tryd.prog 15 #[.agg #[.int .i64 l0, .int .i64 l1, .int .i64 l2, .int .i64 l3, .int .i64 l4, .int .i64 l5, .int .i64 heap, .int .i64 (chunks : Int)], .int .i64 k, .int .i64 2] w (IntsPost w []) := by
  go_enter Tryd.func15, Tryd.ntmps15
  go_wp2_with fail
  refine (plines2 _).mono ?_
  rintro e w1 ⟨rfl, rfl⟩
  go_wp2_with fail
  go_ret
  exact ⟨none, 0, rfl, Rd.nil_ _ _ _, by (repeat (first | with_reducible exact Below.refl _ _ | with_reducible assumption | with_reducible refine below_drewN ?_ _ | with_reducible refine Below.drew ?_ | with_reducible refine Below.alloc ?_ (by first | omega | (simp; omega) | simp) _ | with_reducible refine Below.setCell ?_ (by first | omega | (simp; omega) | simp) _))⟩
set_option maxRecDepth 100000 in
set_option maxHeartbeats 400000 in
theorem startsK_neg3 (w : World) (l0 l1 l2 l3 l4 l5 heap : Int) (chunks : Nat) (k : Int) (h : k < 0) :
    Calls Tryd.prog 15 #[.agg #[.int .i64 l0, .int .i64 l1, .int .i64 l2, .int .i64 l3, .int .i64 l4, .int .i64 l5, .int .i64 heap, .int .i64 (chunks : Int)], .int .i64 k, .int .i64 3] w (IntsPost w []) := by
  go_enter Tryd.func15, Tryd.ntmps15
  go_wp2_with fail
  refine (plines3 _).mono ?_
  rintro e w1 ⟨rfl, rfl⟩
  go_wp2_with fail
  go_ret
  exact ⟨none, 0, rfl, Rd.nil_ _ _ _, by (repeat (first | with_reducible exact Below.refl _ _ | with_reducible assumption | with_reducible refine below_drewN ?_ _ | with_reducible refine Below.drew ?_ | with_reducible refine Below.alloc ?_ (by first | omega | (simp; omega) | simp) _ | with_reducible refine Below.setCell ?_ (by first | omega | (simp; omega) | simp) _))⟩
set_option maxRecDepth 100000 in
set_option maxHeartbeats 400000 in
theorem startsK_big3 (w : World) (l0 l1 l2 l3 l4 l5 heap : Int) (chunks : Nat) (k : Int) (h0 : ¬ k < 0) (h : (chunks : Int) ≤ k) :
    Calls Tryd.prog 15 #[.agg #[.int .i64 l0, .int .i64 l1, .int .i64 l2, .int .i64 l3, .int .i64 l4, .int .i64 l5, .int .i64 heap, .int .i64 (chunks : Int)], .int .i64 k, .int .i64 3] w (IntsPost w []) := by
  go_enter Tryd.func15, Tryd.ntmps15
  go_wp2_with fail
  refine (plines3 _).mono ?_
  rintro e w1 ⟨rfl, rfl⟩
  go_wp2_with fail
  go_ret
  exact ⟨none, 0, rfl, Rd.nil_ _ _ _, by (repeat (first | with_reducible exact Below.refl _ _ | with_reducible assumption | with_reducible refine below_drewN ?_ _ | with_reducible refine Below.drew ?_ | with_reducible refine Below.alloc ?_ (by first | omega | (simp; omega) | simp) _ | with_reducible refine Below.setCell ?_ (by first | omega | (simp; omega) | simp) _))⟩
set_option maxRecDepth 100000 in
set_option maxHeartbeats 400000 in
theorem startsK_neg4 (w : World) (l0 l1 l2 l3 l4 l5 heap : Int) (chunks : Nat) (k : Int) (h : k < 0) :
    Calls Tryd.prog 15 #[.agg #[.int .i64 l0, .int .i64 l1, .int .i64 l2, .int .i64 l3, .int .i64 l4, .int .i64 l5, .int .i64 heap, .int .i64 (chunks : Int)], .int .i64 k, .int .i64 4] w (IntsPost w []) := by
  go_enter Tryd.func15, Tryd.ntmps15
  go_wp2_with fail
  refine (plines4 _).mono ?_
  rintro e w1 ⟨rfl, rfl⟩
  go_wp2_with fail
  go_ret
  exact ⟨none, 0, rfl, Rd.nil_ _ _ _, by (repeat (first | with_reducible exact Below.refl _ _ | with_reducible assumption | with_reducible refine below_drewN ?_ _ | with_reducible refine Below.drew ?_ | with_reducible refine Below.alloc ?_ (by first | omega | (simp; omega) | simp) _ | with_reducible refine Below.setCell ?_ (by first | omega | (simp; omega) | simp) _))⟩
set_option maxRecDepth 100000 in
set_option maxHeartbeats 400000 in
theorem startsK_big4 (w : World) (l0 l1 l2 l3 l4 l5 heap : Int) (chunks : Nat) (k : Int) (h0 : ¬ k < 0) (h : (chunks : Int) ≤ k) :
    Calls Tryd.prog 15 #[.agg #[.int .i64 l0, .int .i64 l1, .int .i64 l2, .int .i64 l3, .int .i64 l4, .int .i64 l5, .int .i64 heap, .int .i64 (chunks : Int)], .int .i64 k, .int .i64 4] w (IntsPost w []) := by
  go_enter Tryd.func15, Tryd.ntmps15
  go_wp2_with fail
  refine (plines4 _).mono ?_
  rintro e w1 ⟨rfl, rfl⟩
  go_wp2_with fail
  go_ret
  exact ⟨none, 0, rfl, Rd.nil_ _ _ _, by (repeat (first | with_reducible exact Below.refl _ _ | with_reducible assumption | with_reducible refine below_drewN ?_ _ | with_reducible refine Below.drew ?_ | with_reducible refine Below.alloc ?_ (by first | omega | (simp; omega) | simp) _ | with_reducible refine Below.setCell ?_ (by first | omega | (simp; omega) | simp) _))⟩
set_option maxRecDepth 100000 in
set_option maxHeartbeats 400000 in
theorem rstarts_a (w : World) (l0 l1 l2 l3 l4 l5 heap : Int) (chunks : Nat) (k c : Int) (h : (k<0)) :
    Calls Tryd.prog 16 #[.agg #[.int .i64 l0, .int .i64 l1, .int .i64 l2, .int .i64 l3, .int .i64 l4, .int .i64 l5, .int .i64 heap, .int .i64 (chunks : Int)], .int .i64 k, .int .i64 c] w (IntsPost w []) := by
  go_enter Tryd.func16, Tryd.ntmps16
  go_wp2_with fail
  go_ret
  exact ⟨none, 0, rfl, Rd.nil_ _ _ _, by (repeat (first | with_reducible exact Below.refl _ _ | with_reducible assumption | with_reducible refine below_drewN ?_ _ | with_reducible refine Below.drew ?_ | with_reducible refine Below.alloc ?_ (by first | omega | (simp; omega) | simp) _ | with_reducible refine Below.setCell ?_ (by first | omega | (simp; omega) | simp) _))⟩
set_option maxRecDepth 100000 in
set_option maxHeartbeats 400000 in
theorem rstarts_b (w : World) (l0 l1 l2 l3 l4 l5 heap : Int) (chunks : Nat) (k c : Int) (h : (0≤k∧(chunks:Int)≤k)) :
    Calls Tryd.prog 16 #[.agg #[.int .i64 l0, .int .i64 l1, .int .i64 l2, .int .i64 l3, .int .i64 l4, .int .i64 l5, .int .i64 heap, .int .i64 (chunks : Int)], .int .i64 k, .int .i64 c] w (IntsPost w []) := by
  go_enter Tryd.func16, Tryd.ntmps16
  go_wp2_with fail
  go_ret
  exact ⟨none, 0, rfl, Rd.nil_ _ _ _, by (repeat (first | with_reducible exact Below.refl _ _ | with_reducible assumption | with_reducible refine below_drewN ?_ _ | with_reducible refine Below.drew ?_ | with_reducible refine Below.alloc ?_ (by first | omega | (simp; omega) | simp) _ | with_reducible refine Below.setCell ?_ (by first | omega | (simp; omega) | simp) _))⟩
set_option maxRecDepth 100000 in
set_option maxHeartbeats 400000 in
theorem rstarts_c (w : World) (l0 l1 l2 l3 l4 l5 heap : Int) (chunks : Nat) (k c : Int) (h : (0≤k∧k<chunks∧c<0)) :
    Calls Tryd.prog 16 #[.agg #[.int .i64 l0, .int .i64 l1, .int .i64 l2, .int .i64 l3, .int .i64 l4, .int .i64 l5, .int .i64 heap, .int .i64 (chunks : Int)], .int .i64 k, .int .i64 c] w (IntsPost w []) := by
  go_enter Tryd.func16, Tryd.ntmps16
  go_wp2_with fail
  go_ret
  exact ⟨none, 0, rfl, Rd.nil_ _ _ _, by (repeat (first | with_reducible exact Below.refl _ _ | with_reducible assumption | with_reducible refine below_drewN ?_ _ | with_reducible refine Below.drew ?_ | with_reducible refine Below.alloc ?_ (by first | omega | (simp; omega) | simp) _ | with_reducible refine Below.setCell ?_ (by first | omega | (simp; omega) | simp) _))⟩
set_option maxRecDepth 100000 in
set_option maxHeartbeats 400000 in
theorem rstarts_d (w : World) (l0 l1 l2 l3 l4 l5 heap : Int) (chunks : Nat) (k c : Int) (h : (0≤k∧k<chunks∧4<c)) :
    Calls Tryd.prog 16 #[.agg #[.int .i64 l0, .int .i64 l1, .int .i64 l2, .int .i64 l3, .int .i64 l4, .int .i64 l5, .int .i64 heap, .int .i64 (chunks : Int)], .int .i64 k, .int .i64 c] w (IntsPost w []) := by
  go_enter Tryd.func16, Tryd.ntmps16
  go_wp2_with fail
  go_ret
  exact ⟨none, 0, rfl, Rd.nil_ _ _ _, by (repeat (first | with_reducible exact Below.refl _ _ | with_reducible assumption | with_reducible refine below_drewN ?_ _ | with_reducible refine Below.drew ?_ | with_reducible refine Below.alloc ?_ (by first | omega | (simp; omega) | simp) _ | with_reducible refine Below.setCell ?_ (by first | omega | (simp; omega) | simp) _))⟩

def RsRel (w : World) (lay : Array Value) (base c s : Int) (m : Nat) (v i : Value) (wr : World) : Prop :=
  ∃ (j : Nat) (A : Option Addr) (cp : Nat) (x : Int), j ≤ m ∧ i = .int .i64 x ∧ x = base + j * s ∧ v = .slice A j cp ∧ Cl wr w.heap.size 31 lay ∧
    wr.ownsRow (w.heap.size + 1) 3 1 (.slice A j cp) j (((spotsN base c s j).map (·.1)).map (Value.int .i64)) ∧ Below w.heap.size w wr

set_option maxRecDepth 100000 in
set_option maxHeartbeats 1000000 in
theorem rstarts0 (w : World) (l0 l1 l2 l3 l4 l5 heap : Int) (chunks k : Nat) (hk : k < chunks) (hc : chunks ≤ 300) (hh0 : 0 ≤ heap) (hh1 : heap ≤ 5000) :
    Calls Tryd.prog 16 #[.agg #[.int .i64 l0, .int .i64 l1, .int .i64 l2, .int .i64 l3, .int .i64 l4, .int .i64 l5, .int .i64 heap, .int .i64 (chunks : Int)], .int .i64 (k : Int), .int .i64 0] w (IntsPost w ((chunkSpots heap k 0).map (·.1))) := by
  obtain ⟨j0, hj0, hy0, hy1, hy2⟩ := info_parts int_info
  have hE : (chunkSpots heap k 0).map (·.1) = (spotsN (heap + 16 * k) 0 1 16).map (·.1) := rfl
  rw [hE]
  obtain ⟨fi, hfi⟩ : ∃ fi : Int, heap + 16 * (k : Int) = fi := ⟨_, rfl⟩
  rw [hfi]
  have hL : ((spotsN fi 0 1 16).map (·.1)).length = 16 := by rw [List.length_map, spotsN_length]
  have HL := Lib.hid hL
  have HB := Lib.hid (show 0 ≤ fi ∧ fi ≤ 10000 by omega)
  have HFI := Lib.hid hfi
  have q1 : decide ((k : Int) < 0) = false := by simp; try omega
  have q2 : decide (chunks ≤ k) = false := by simp; omega
  clear hE hL hfi
  go_enter Tryd.func16, Tryd.ntmps16
  go_upto_region 5 with (fail)
  obtain ⟨b0, b1⟩ := HB.out
  rw [HFI.out]
  clear HB HFI q1 q2
  go_wp2_with fail
  go_loopw [7, 9] (fun v i wr => RsRel w #[.int .i64 l0, .int .i64 l1, .int .i64 l2, .int .i64 l3, .int .i64 l4, .int .i64 l5, .int .i64 heap, .int .i64 (chunks : Int)] fi 0 1 16 v i wr) (fun _ i _ => (fi + 16 - intOf i).toNat)
  case atStart => exact ⟨0, none, 0, fi, by omega, rfl, by omega, rfl, Cl.new _ _ _, World.ownsRow_nil _ _ _ _, by (repeat (first | with_reducible exact Below.refl _ _ | with_reducible assumption | with_reducible refine below_drewN ?_ _ | with_reducible refine Below.drew ?_ | with_reducible refine Below.alloc ?_ (by first | omega | (simp; omega) | simp) _ | with_reducible refine Below.setCell ?_ (by first | omega | (simp; omega) | simp) _))⟩
  case round =>
    obtain ⟨j, A, cp, x, hj, rfl, hx, rfl, hP, hown, hb⟩ := hrel
    have hs := hP.lt
    by_cases hlt : j < 16
    · have hS := Lib.hid (spotsN_snoc fi 0 1 j)
      have x1 : x < fi + 16 := by omega
      have x2 : 0 ≤ x := by omega
      have HX := Lib.hid hx
      clear hx
      go_wp2_with (at_builtin; refine wpList_append1 rfl (.tmp 41) (.tmp 43) 35 rfl (w.heap.size + 1) 3 j0 _ 1 8 Tryd.underlying35 hj0 hy0 hy1 hy2 rfl (by decide) (by decide) _ (j) (((spotsN fi 0 1 j).map (·.1)).map (Value.int .i64)) rfl (hown.alloc _) (by omega) (wr.heap.size) #[.int .i64 x] rfl (Cl.new_ _ _ _ _ (by simp)) rfl (by simp [Value.oneCell']) (by simp; omega) ?_; intro Aq cq wq ownq grq; (have hP3 := grq.cl (hP.alloc _) (.inl (by decide))); (have hB3 := grq.below (show Below w.heap.size w _ by (repeat (first | with_reducible exact Below.refl _ _ | with_reducible assumption | with_reducible refine below_drewN ?_ _ | with_reducible refine Below.drew ?_ | with_reducible refine Below.alloc ?_ (by first | omega | (simp; omega) | simp) _ | with_reducible refine Below.setCell ?_ (by first | omega | (simp; omega) | simp) _))) (by simp; omega) (by omega)))
      refine (rlines0 _).mono ?_
      rintro e w9 ⟨rfl, rfl⟩
      go_wp2_with fail
      go_roundw
      case rel =>
        have hx := HX.out
        have hown3 : wq.ownsRow (w.heap.size + 1) 3 1 (.slice Aq (j + 1) cq) (j + 1) (((spotsN fi 0 1 (j + 1)).map (·.1)).map (Value.int .i64)) := by rw [hS.out, ← hx]; simpa using ownq
        have hfin : RsRel w #[.int .i64 l0, .int .i64 l1, .int .i64 l2, .int .i64 l3, .int .i64 l4, .int .i64 l5, .int .i64 heap, .int .i64 (chunks : Int)] fi 0 1 16 (.slice Aq (j + 1) cq) (.int .i64 (x + 1)) wq := ⟨j + 1, Aq, cq, x + 1, by omega, rfl, by omega, rfl, hP3, hown3, hB3⟩
        clear HX hx hS hown3 ownq
        first
          | exact hfin
          | ((repeat apply Exists.intro); exact ⟨hfin, rfl⟩)
      case measure => simp [intOf]; omega
    · obtain rfl : j = 16 := by omega
      have x1 : ¬ x < fi + 16 := by omega
      clear hx
      go_wp2_with fail
      go_ret
      exact ⟨A, cp, by rw [HL.out]; rfl, by unfold RdI; rw [HL.out]; exact Rd.own hown, hb⟩
set_option maxRecDepth 100000 in
set_option maxHeartbeats 1000000 in
theorem rstarts1 (w : World) (l0 l1 l2 l3 l4 l5 heap : Int) (chunks k : Nat) (hk : k < chunks) (hc : chunks ≤ 300) (hh0 : 0 ≤ heap) (hh1 : heap ≤ 5000) :
    Calls Tryd.prog 16 #[.agg #[.int .i64 l0, .int .i64 l1, .int .i64 l2, .int .i64 l3, .int .i64 l4, .int .i64 l5, .int .i64 heap, .int .i64 (chunks : Int)], .int .i64 (k : Int), .int .i64 1] w (IntsPost w ((chunkSpots heap k 1).map (·.1))) := by
  obtain ⟨j0, hj0, hy0, hy1, hy2⟩ := info_parts int_info
  have hE : (chunkSpots heap k 1).map (·.1) = (spotsN (heap + 16 * k) 1 2 8).map (·.1) := rfl
  rw [hE]
  obtain ⟨fi, hfi⟩ : ∃ fi : Int, heap + 16 * (k : Int) = fi := ⟨_, rfl⟩
  rw [hfi]
  have hL : ((spotsN fi 1 2 8).map (·.1)).length = 8 := by rw [List.length_map, spotsN_length]
  have HL := Lib.hid hL
  have HB := Lib.hid (show 0 ≤ fi ∧ fi ≤ 10000 by omega)
  have HFI := Lib.hid hfi
  have q1 : decide ((k : Int) < 0) = false := by simp; try omega
  have q2 : decide (chunks ≤ k) = false := by simp; omega
  clear hE hL hfi
  go_enter Tryd.func16, Tryd.ntmps16
  go_upto_region 5 with (fail)
  obtain ⟨b0, b1⟩ := HB.out
  rw [HFI.out]
  clear HB HFI q1 q2
  go_wp2_with fail
  go_loopw [7, 9] (fun v i wr => RsRel w #[.int .i64 l0, .int .i64 l1, .int .i64 l2, .int .i64 l3, .int .i64 l4, .int .i64 l5, .int .i64 heap, .int .i64 (chunks : Int)] fi 1 2 8 v i wr) (fun _ i _ => (fi + 16 - intOf i).toNat)
  case atStart => exact ⟨0, none, 0, fi, by omega, rfl, by omega, rfl, Cl.new _ _ _, World.ownsRow_nil _ _ _ _, by (repeat (first | with_reducible exact Below.refl _ _ | with_reducible assumption | with_reducible refine below_drewN ?_ _ | with_reducible refine Below.drew ?_ | with_reducible refine Below.alloc ?_ (by first | omega | (simp; omega) | simp) _ | with_reducible refine Below.setCell ?_ (by first | omega | (simp; omega) | simp) _))⟩
  case round =>
    obtain ⟨j, A, cp, x, hj, rfl, hx, rfl, hP, hown, hb⟩ := hrel
    have hs := hP.lt
    by_cases hlt : j < 8
    · have hS := Lib.hid (spotsN_snoc fi 1 2 j)
      have x1 : x < fi + 16 := by omega
      have x2 : 0 ≤ x := by omega
      have HX := Lib.hid hx
      clear hx
      go_wp2_with (at_builtin; refine wpList_append1 rfl (.tmp 41) (.tmp 43) 35 rfl (w.heap.size + 1) 3 j0 _ 1 8 Tryd.underlying35 hj0 hy0 hy1 hy2 rfl (by decide) (by decide) _ (j) (((spotsN fi 1 2 j).map (·.1)).map (Value.int .i64)) rfl (hown.alloc _) (by omega) (wr.heap.size) #[.int .i64 x] rfl (Cl.new_ _ _ _ _ (by simp)) rfl (by simp [Value.oneCell']) (by simp; omega) ?_; intro Aq cq wq ownq grq; (have hP3 := grq.cl (hP.alloc _) (.inl (by decide))); (have hB3 := grq.below (show Below w.heap.size w _ by (repeat (first | with_reducible exact Below.refl _ _ | with_reducible assumption | with_reducible refine below_drewN ?_ _ | with_reducible refine Below.drew ?_ | with_reducible refine Below.alloc ?_ (by first | omega | (simp; omega) | simp) _ | with_reducible refine Below.setCell ?_ (by first | omega | (simp; omega) | simp) _))) (by simp; omega) (by omega)))
      refine (rlines1 _).mono ?_
      rintro e w9 ⟨rfl, rfl⟩
      go_wp2_with fail
      go_roundw
      case rel =>
        have hx := HX.out
        have hown3 : wq.ownsRow (w.heap.size + 1) 3 1 (.slice Aq (j + 1) cq) (j + 1) (((spotsN fi 1 2 (j + 1)).map (·.1)).map (Value.int .i64)) := by rw [hS.out, ← hx]; simpa using ownq
        have hfin : RsRel w #[.int .i64 l0, .int .i64 l1, .int .i64 l2, .int .i64 l3, .int .i64 l4, .int .i64 l5, .int .i64 heap, .int .i64 (chunks : Int)] fi 1 2 8 (.slice Aq (j + 1) cq) (.int .i64 (x + 2)) wq := ⟨j + 1, Aq, cq, x + 2, by omega, rfl, by omega, rfl, hP3, hown3, hB3⟩
        clear HX hx hS hown3 ownq
        first
          | exact hfin
          | ((repeat apply Exists.intro); exact ⟨hfin, rfl⟩)
      case measure => simp [intOf]; omega
    · obtain rfl : j = 8 := by omega
      have x1 : ¬ x < fi + 16 := by omega
      clear hx
      go_wp2_with fail
      go_ret
      exact ⟨A, cp, by rw [HL.out]; rfl, by unfold RdI; rw [HL.out]; exact Rd.own hown, hb⟩
set_option maxRecDepth 100000 in
set_option maxHeartbeats 1000000 in
theorem rstarts2 (w : World) (l0 l1 l2 l3 l4 l5 heap : Int) (chunks k : Nat) (hk : k < chunks) (hc : chunks ≤ 300) (hh0 : 0 ≤ heap) (hh1 : heap ≤ 5000) :
    Calls Tryd.prog 16 #[.agg #[.int .i64 l0, .int .i64 l1, .int .i64 l2, .int .i64 l3, .int .i64 l4, .int .i64 l5, .int .i64 heap, .int .i64 (chunks : Int)], .int .i64 (k : Int), .int .i64 2] w (IntsPost w ((chunkSpots heap k 2).map (·.1))) := by
  obtain ⟨j0, hj0, hy0, hy1, hy2⟩ := info_parts int_info
  have hE : (chunkSpots heap k 2).map (·.1) = (spotsN (heap + 16 * k) 2 4 4).map (·.1) := rfl
  rw [hE]
  obtain ⟨fi, hfi⟩ : ∃ fi : Int, heap + 16 * (k : Int) = fi := ⟨_, rfl⟩
  rw [hfi]
  have hL : ((spotsN fi 2 4 4).map (·.1)).length = 4 := by rw [List.length_map, spotsN_length]
  have HL := Lib.hid hL
  have HB := Lib.hid (show 0 ≤ fi ∧ fi ≤ 10000 by omega)
  have HFI := Lib.hid hfi
  have q1 : decide ((k : Int) < 0) = false := by simp; try omega
  have q2 : decide (chunks ≤ k) = false := by simp; omega
  clear hE hL hfi
  go_enter Tryd.func16, Tryd.ntmps16
  go_upto_region 5 with (fail)
  obtain ⟨b0, b1⟩ := HB.out
  rw [HFI.out]
  clear HB HFI q1 q2
  go_wp2_with fail
  go_loopw [7, 9] (fun v i wr => RsRel w #[.int .i64 l0, .int .i64 l1, .int .i64 l2, .int .i64 l3, .int .i64 l4, .int .i64 l5, .int .i64 heap, .int .i64 (chunks : Int)] fi 2 4 4 v i wr) (fun _ i _ => (fi + 16 - intOf i).toNat)
  case atStart => exact ⟨0, none, 0, fi, by omega, rfl, by omega, rfl, Cl.new _ _ _, World.ownsRow_nil _ _ _ _, by (repeat (first | with_reducible exact Below.refl _ _ | with_reducible assumption | with_reducible refine below_drewN ?_ _ | with_reducible refine Below.drew ?_ | with_reducible refine Below.alloc ?_ (by first | omega | (simp; omega) | simp) _ | with_reducible refine Below.setCell ?_ (by first | omega | (simp; omega) | simp) _))⟩
  case round =>
    obtain ⟨j, A, cp, x, hj, rfl, hx, rfl, hP, hown, hb⟩ := hrel
    have hs := hP.lt
    by_cases hlt : j < 4
    · have hS := Lib.hid (spotsN_snoc fi 2 4 j)
      have x1 : x < fi + 16 := by omega
      have x2 : 0 ≤ x := by omega
      have HX := Lib.hid hx
      clear hx
      go_wp2_with (at_builtin; refine wpList_append1 rfl (.tmp 41) (.tmp 43) 35 rfl (w.heap.size + 1) 3 j0 _ 1 8 Tryd.underlying35 hj0 hy0 hy1 hy2 rfl (by decide) (by decide) _ (j) (((spotsN fi 2 4 j).map (·.1)).map (Value.int .i64)) rfl (hown.alloc _) (by omega) (wr.heap.size) #[.int .i64 x] rfl (Cl.new_ _ _ _ _ (by simp)) rfl (by simp [Value.oneCell']) (by simp; omega) ?_; intro Aq cq wq ownq grq; (have hP3 := grq.cl (hP.alloc _) (.inl (by decide))); (have hB3 := grq.below (show Below w.heap.size w _ by (repeat (first | with_reducible exact Below.refl _ _ | with_reducible assumption | with_reducible refine below_drewN ?_ _ | with_reducible refine Below.drew ?_ | with_reducible refine Below.alloc ?_ (by first | omega | (simp; omega) | simp) _ | with_reducible refine Below.setCell ?_ (by first | omega | (simp; omega) | simp) _))) (by simp; omega) (by omega)))
      refine (rlines2 _).mono ?_
      rintro e w9 ⟨rfl, rfl⟩
      go_wp2_with fail
      go_roundw
      case rel =>
        have hx := HX.out
        have hown3 : wq.ownsRow (w.heap.size + 1) 3 1 (.slice Aq (j + 1) cq) (j + 1) (((spotsN fi 2 4 (j + 1)).map (·.1)).map (Value.int .i64)) := by rw [hS.out, ← hx]; simpa using ownq
        have hfin : RsRel w #[.int .i64 l0, .int .i64 l1, .int .i64 l2, .int .i64 l3, .int .i64 l4, .int .i64 l5, .int .i64 heap, .int .i64 (chunks : Int)] fi 2 4 4 (.slice Aq (j + 1) cq) (.int .i64 (x + 4)) wq := ⟨j + 1, Aq, cq, x + 4, by omega, rfl, by omega, rfl, hP3, hown3, hB3⟩
        clear HX hx hS hown3 ownq
        first
          | exact hfin
          | ((repeat apply Exists.intro); exact ⟨hfin, rfl⟩)
      case measure => simp [intOf]; omega
    · obtain rfl : j = 4 := by omega
      have x1 : ¬ x < fi + 16 := by omega
      clear hx
      go_wp2_with fail
      go_ret
      exact ⟨A, cp, by rw [HL.out]; rfl, by unfold RdI; rw [HL.out]; exact Rd.own hown, hb⟩
set_option maxRecDepth 100000 in
set_option maxHeartbeats 1000000 in
theorem rstarts3 (w : World) (l0 l1 l2 l3 l4 l5 heap : Int) (chunks k : Nat) (hk : k < chunks) (hc : chunks ≤ 300) (hh0 : 0 ≤ heap) (hh1 : heap ≤ 5000) :
    Calls Tryd.prog 16 #[.agg #[.int .i64 l0, .int .i64 l1, .int .i64 l2, .int .i64 l3, .int .i64 l4, .int .i64 l5, .int .i64 heap, .int .i64 (chunks : Int)], .int .i64 (k : Int), .int .i64 3] w (IntsPost w ((chunkSpots heap k 3).map (·.1))) := by
  obtain ⟨j0, hj0, hy0, hy1, hy2⟩ := info_parts int_info
  have hE : (chunkSpots heap k 3).map (·.1) = (spotsN (heap + 16 * k) 3 8 2).map (·.1) := rfl
  rw [hE]
  obtain ⟨fi, hfi⟩ : ∃ fi : Int, heap + 16 * (k : Int) = fi := ⟨_, rfl⟩
  rw [hfi]
  have hL : ((spotsN fi 3 8 2).map (·.1)).length = 2 := by rw [List.length_map, spotsN_length]
  have HL := Lib.hid hL
  have HB := Lib.hid (show 0 ≤ fi ∧ fi ≤ 10000 by omega)
  have HFI := Lib.hid hfi
  have q1 : decide ((k : Int) < 0) = false := by simp; try omega
  have q2 : decide (chunks ≤ k) = false := by simp; omega
  clear hE hL hfi
  go_enter Tryd.func16, Tryd.ntmps16
  go_upto_region 5 with (fail)
  obtain ⟨b0, b1⟩ := HB.out
  rw [HFI.out]
  clear HB HFI q1 q2
  go_wp2_with fail
  go_loopw [7, 9] (fun v i wr => RsRel w #[.int .i64 l0, .int .i64 l1, .int .i64 l2, .int .i64 l3, .int .i64 l4, .int .i64 l5, .int .i64 heap, .int .i64 (chunks : Int)] fi 3 8 2 v i wr) (fun _ i _ => (fi + 16 - intOf i).toNat)
  case atStart => exact ⟨0, none, 0, fi, by omega, rfl, by omega, rfl, Cl.new _ _ _, World.ownsRow_nil _ _ _ _, by (repeat (first | with_reducible exact Below.refl _ _ | with_reducible assumption | with_reducible refine below_drewN ?_ _ | with_reducible refine Below.drew ?_ | with_reducible refine Below.alloc ?_ (by first | omega | (simp; omega) | simp) _ | with_reducible refine Below.setCell ?_ (by first | omega | (simp; omega) | simp) _))⟩
  case round =>
    obtain ⟨j, A, cp, x, hj, rfl, hx, rfl, hP, hown, hb⟩ := hrel
    have hs := hP.lt
    by_cases hlt : j < 2
    · have hS := Lib.hid (spotsN_snoc fi 3 8 j)
      have x1 : x < fi + 16 := by omega
      have x2 : 0 ≤ x := by omega
      have HX := Lib.hid hx
      clear hx
      go_wp2_with (at_builtin; refine wpList_append1 rfl (.tmp 41) (.tmp 43) 35 rfl (w.heap.size + 1) 3 j0 _ 1 8 Tryd.underlying35 hj0 hy0 hy1 hy2 rfl (by decide) (by decide) _ (j) (((spotsN fi 3 8 j).map (·.1)).map (Value.int .i64)) rfl (hown.alloc _) (by omega) (wr.heap.size) #[.int .i64 x] rfl (Cl.new_ _ _ _ _ (by simp)) rfl (by simp [Value.oneCell']) (by simp; omega) ?_; intro Aq cq wq ownq grq; (have hP3 := grq.cl (hP.alloc _) (.inl (by decide))); (have hB3 := grq.below (show Below w.heap.size w _ by (repeat (first | with_reducible exact Below.refl _ _ | with_reducible assumption | with_reducible refine below_drewN ?_ _ | with_reducible refine Below.drew ?_ | with_reducible refine Below.alloc ?_ (by first | omega | (simp; omega) | simp) _ | with_reducible refine Below.setCell ?_ (by first | omega | (simp; omega) | simp) _))) (by simp; omega) (by omega)))
      refine (rlines3 _).mono ?_
      rintro e w9 ⟨rfl, rfl⟩
      go_wp2_with fail
      go_roundw
      case rel =>
        have hx := HX.out
        have hown3 : wq.ownsRow (w.heap.size + 1) 3 1 (.slice Aq (j + 1) cq) (j + 1) (((spotsN fi 3 8 (j + 1)).map (·.1)).map (Value.int .i64)) := by rw [hS.out, ← hx]; simpa using ownq
        have hfin : RsRel w #[.int .i64 l0, .int .i64 l1, .int .i64 l2, .int .i64 l3, .int .i64 l4, .int .i64 l5, .int .i64 heap, .int .i64 (chunks : Int)] fi 3 8 2 (.slice Aq (j + 1) cq) (.int .i64 (x + 8)) wq := ⟨j + 1, Aq, cq, x + 8, by omega, rfl, by omega, rfl, hP3, hown3, hB3⟩
        clear HX hx hS hown3 ownq
        first
          | exact hfin
          | ((repeat apply Exists.intro); exact ⟨hfin, rfl⟩)
      case measure => simp [intOf]; omega
    · obtain rfl : j = 2 := by omega
      have x1 : ¬ x < fi + 16 := by omega
      clear hx
      go_wp2_with fail
      go_ret
      exact ⟨A, cp, by rw [HL.out]; rfl, by unfold RdI; rw [HL.out]; exact Rd.own hown, hb⟩
set_option maxRecDepth 100000 in
set_option maxHeartbeats 1000000 in
theorem rstarts4 (w : World) (l0 l1 l2 l3 l4 l5 heap : Int) (chunks k : Nat) (hk : k < chunks) (hc : chunks ≤ 300) (hh0 : 0 ≤ heap) (hh1 : heap ≤ 5000) :
    Calls Tryd.prog 16 #[.agg #[.int .i64 l0, .int .i64 l1, .int .i64 l2, .int .i64 l3, .int .i64 l4, .int .i64 l5, .int .i64 heap, .int .i64 (chunks : Int)], .int .i64 (k : Int), .int .i64 4] w (IntsPost w ((chunkSpots heap k 4).map (·.1))) := by
  obtain ⟨j0, hj0, hy0, hy1, hy2⟩ := info_parts int_info
  have hE : (chunkSpots heap k 4).map (·.1) = (spotsN (heap + 16 * k) 4 16 1).map (·.1) := rfl
  rw [hE]
  obtain ⟨fi, hfi⟩ : ∃ fi : Int, heap + 16 * (k : Int) = fi := ⟨_, rfl⟩
  rw [hfi]
  have hL : ((spotsN fi 4 16 1).map (·.1)).length = 1 := by rw [List.length_map, spotsN_length]
  have HL := Lib.hid hL
  have HB := Lib.hid (show 0 ≤ fi ∧ fi ≤ 10000 by omega)
  have HFI := Lib.hid hfi
  have q1 : decide ((k : Int) < 0) = false := by simp; try omega
  have q2 : decide (chunks ≤ k) = false := by simp; omega
  clear hE hL hfi
  go_enter Tryd.func16, Tryd.ntmps16
  go_upto_region 5 with (fail)
  obtain ⟨b0, b1⟩ := HB.out
  rw [HFI.out]
  clear HB HFI q1 q2
  go_wp2_with fail
  go_loopw [7, 9] (fun v i wr => RsRel w #[.int .i64 l0, .int .i64 l1, .int .i64 l2, .int .i64 l3, .int .i64 l4, .int .i64 l5, .int .i64 heap, .int .i64 (chunks : Int)] fi 4 16 1 v i wr) (fun _ i _ => (fi + 16 - intOf i).toNat)
  case atStart => exact ⟨0, none, 0, fi, by omega, rfl, by omega, rfl, Cl.new _ _ _, World.ownsRow_nil _ _ _ _, by (repeat (first | with_reducible exact Below.refl _ _ | with_reducible assumption | with_reducible refine below_drewN ?_ _ | with_reducible refine Below.drew ?_ | with_reducible refine Below.alloc ?_ (by first | omega | (simp; omega) | simp) _ | with_reducible refine Below.setCell ?_ (by first | omega | (simp; omega) | simp) _))⟩
  case round =>
    obtain ⟨j, A, cp, x, hj, rfl, hx, rfl, hP, hown, hb⟩ := hrel
    have hs := hP.lt
    by_cases hlt : j < 1
    · have hS := Lib.hid (spotsN_snoc fi 4 16 j)
      have x1 : x < fi + 16 := by omega
      have x2 : 0 ≤ x := by omega
      have HX := Lib.hid hx
      clear hx
      go_wp2_with (at_builtin; refine wpList_append1 rfl (.tmp 41) (.tmp 43) 35 rfl (w.heap.size + 1) 3 j0 _ 1 8 Tryd.underlying35 hj0 hy0 hy1 hy2 rfl (by decide) (by decide) _ (j) (((spotsN fi 4 16 j).map (·.1)).map (Value.int .i64)) rfl (hown.alloc _) (by omega) (wr.heap.size) #[.int .i64 x] rfl (Cl.new_ _ _ _ _ (by simp)) rfl (by simp [Value.oneCell']) (by simp; omega) ?_; intro Aq cq wq ownq grq; (have hP3 := grq.cl (hP.alloc _) (.inl (by decide))); (have hB3 := grq.below (show Below w.heap.size w _ by (repeat (first | with_reducible exact Below.refl _ _ | with_reducible assumption | with_reducible refine below_drewN ?_ _ | with_reducible refine Below.drew ?_ | with_reducible refine Below.alloc ?_ (by first | omega | (simp; omega) | simp) _ | with_reducible refine Below.setCell ?_ (by first | omega | (simp; omega) | simp) _))) (by simp; omega) (by omega)))
      refine (rlines4 _).mono ?_
      rintro e w9 ⟨rfl, rfl⟩
      go_wp2_with fail
      go_roundw
      case rel =>
        have hx := HX.out
        have hown3 : wq.ownsRow (w.heap.size + 1) 3 1 (.slice Aq (j + 1) cq) (j + 1) (((spotsN fi 4 16 (j + 1)).map (·.1)).map (Value.int .i64)) := by rw [hS.out, ← hx]; simpa using ownq
        have hfin : RsRel w #[.int .i64 l0, .int .i64 l1, .int .i64 l2, .int .i64 l3, .int .i64 l4, .int .i64 l5, .int .i64 heap, .int .i64 (chunks : Int)] fi 4 16 1 (.slice Aq (j + 1) cq) (.int .i64 (x + 16)) wq := ⟨j + 1, Aq, cq, x + 16, by omega, rfl, by omega, rfl, hP3, hown3, hB3⟩
        clear HX hx hS hown3 ownq
        first
          | exact hfin
          | ((repeat apply Exists.intro); exact ⟨hfin, rfl⟩)
      case measure => simp [intOf]; omega
    · obtain rfl : j = 1 := by omega
      have x1 : ¬ x < fi + 16 := by omega
      clear hx
      go_wp2_with fail
      go_ret
      exact ⟨A, cp, by rw [HL.out]; rfl, by unfold RdI; rw [HL.out]; exact Rd.own hown, hb⟩
end Go.Proofs.YtcoeoggoaiebeaaDoor
