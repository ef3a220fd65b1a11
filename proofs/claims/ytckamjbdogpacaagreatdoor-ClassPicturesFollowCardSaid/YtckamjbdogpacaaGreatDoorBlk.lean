/-
  pointer.Chunk; class: assigned, Assigned, Of through a memory.
  class: block through a memory and through a view, on the layout of 64 lines.
-/
import Derived.Test.YtckamjbdogpacaaGreatDoorMemC
import Derived.Test.YtckamjbdogpacaaGreatDoorPlan
import Derived.Test.YtckamjbdogpacaaGreatDoorStarts
import Derived.Test.YtckamjbdogpacaaGreatDoorHead
namespace Go.Proofs.YtckamjbdogpacaaGreatDoor
open Go.RowKit

set_option maxRecDepth 100000 in
set_option maxHeartbeats 1000000 in
theorem chunk_calls (w : World) (l0 l1 l2 l3 l4 l5 heap chunks line : Int) (hh0 : 0 ≤ heap) (hh1 : heap ≤ 5000) (hc0 : 0 ≤ chunks) (hc1 : chunks ≤ 300) (h1 : heap ≤ line) (h2 : line < heap + 16 * chunks) :
    Calls Tryz.prog 46 #[.agg #[.int .i64 l0, .int .i64 l1, .int .i64 l2, .int .i64 l3, .int .i64 l4, .int .i64 l5, .int .i64 heap, .int .i64 chunks], .int .i64 line] w fun e w' => e = .returned (.int .i64 ((line - heap) / 16)) ∧ Below w.heap.size w w' := by
  have h3 : ¬ line < heap := by omega
  have h4 : ¬ heap + 16 * chunks ≤ line := by omega
  go_enter Tryz.func46, Tryz.ntmps46
  go_wp2
  go_ret
  exact ⟨rfl, by (repeat (first | with_reducible exact Below.refl _ _ | with_reducible assumption | with_reducible refine below_drewN ?_ _ | with_reducible refine Below.drew ?_ | with_reducible refine Below.alloc ?_ (by first | omega | (simp; omega) | simp) _ | with_reducible refine Below.setCell ?_ (by first | omega | (simp; omega) | simp) _))⟩

set_option maxRecDepth 100000 in
set_option maxHeartbeats 2000000 in
theorem assigned_calls (base : Nat) (w : World) (gm L n r : Nat) (P : Nat → List (Nat × Int)) (E : Nat) (hM : MemIs base w gm L P E) (l0 l1 l2 l3 l4 l5 heap chunks k : Int) (h50 : 0 ≤ l5) (h51 : l5 ≤ 5000) (hc1 : chunks ≤ 300) (hk0 : 0 ≤ k) (hk1 : k < chunks)
    (hn : n < L) (h8 : (8 * l5 + k) / 8 = (n : Int)) (hr : (8 * l5 + k) % 8 = (r : Int)) (hp8 : ∀ p ∈ P n, p.1 < 8) (hs0 : 0 ≤ sh (P n) r) (hs1 : sh (P n) r ≤ 5) :
    Calls Tryz.prog 43 #[.func (.func 42) #[.pointer (some ⟨gm, 0, none⟩)] #[], .agg #[.int .i64 l0, .int .i64 l1, .int .i64 l2, .int .i64 l3, .int .i64 l4, .int .i64 l5, .int .i64 heap, .int .i64 chunks], .int .i64 k] w
      fun e w' => e = .returned (.tuple #[.int .i64 (sh (P n) r - 1), .int .i64 0]) ∧ Below w.heap.size w w' := by
  have h3 : ¬ chunks ≤ k := by omega
  go_enter Tryz.func43, Tryz.ntmps43
  go_wp2_with fail
  refine (load_calls base _ gm L n r (8 * l5 + k) P E (hM.below (by (repeat (first | with_reducible exact Below.refl _ _ | with_reducible assumption | with_reducible refine below_drewN ?_ _ | with_reducible refine Below.drew ?_ | with_reducible refine Below.alloc ?_ (by first | omega | (simp; omega) | simp) _ | with_reducible refine Below.setCell ?_ (by first | omega | (simp; omega) | simp) _)))) hn (by omega) (by omega) h8 hr hp8).mono ?_
  rintro e w1 ⟨rfl, hb1⟩
  have hB : Below w.heap.size w w1 := Below.trans (by (repeat (first | with_reducible exact Below.refl _ _ | with_reducible assumption | with_reducible refine below_drewN ?_ _ | with_reducible refine Below.drew ?_ | with_reducible refine Below.alloc ?_ (by first | omega | (simp; omega) | simp) _ | with_reducible refine Below.setCell ?_ (by first | omega | (simp; omega) | simp) _))) (hb1.mono (by simp))
  clear hb1
  go_wp2_with fail
  go_ret2
  exact ⟨rfl, hB⟩

set_option maxRecDepth 100000 in
set_option maxHeartbeats 2000000 in
theorem Assigned_calls (base : Nat) (w : World) (gm L n r : Nat) (P : Nat → List (Nat × Int)) (E : Nat) (hM : MemIs base w gm L P E) (l0 l1 l2 l3 l4 l5 heap chunks k : Int) (h50 : 0 ≤ l5) (h51 : l5 ≤ 5000) (hc1 : chunks ≤ 300) (hk0 : 0 ≤ k) (hk1 : k < chunks)
    (hn : n < L) (h8 : (8 * l5 + k) / 8 = (n : Int)) (hr : (8 * l5 + k) % 8 = (r : Int)) (hp8 : ∀ p ∈ P n, p.1 < 8) (hs0 : 0 ≤ sh (P n) r) (hs1 : sh (P n) r ≤ 5) :
    Calls Tryz.prog 15 #[.pointer (some ⟨gm, 0, none⟩), .agg #[.int .i64 l0, .int .i64 l1, .int .i64 l2, .int .i64 l3, .int .i64 l4, .int .i64 l5, .int .i64 heap, .int .i64 chunks], .int .i64 k] w
      fun e w' => e = .returned (.tuple #[.int .i64 (sh (P n) r - 1), .int .i64 0]) ∧ Below w.heap.size w w' := by
  go_enter Tryz.func15, Tryz.ntmps15
  go_wp2_with fail
  refine (assigned_calls base _ gm L n r P E (hM.below (by (repeat (first | with_reducible exact Below.refl _ _ | with_reducible assumption | with_reducible refine below_drewN ?_ _ | with_reducible refine Below.drew ?_ | with_reducible refine Below.alloc ?_ (by first | omega | (simp; omega) | simp) _ | with_reducible refine Below.setCell ?_ (by first | omega | (simp; omega) | simp) _)))) l0 l1 l2 l3 l4 l5 heap chunks k h50 h51 hc1 hk0 hk1 hn h8 hr hp8 hs0 hs1).mono ?_
  rintro e w1 ⟨rfl, hb1⟩
  have hB : Below w.heap.size w w1 := Below.trans (by (repeat (first | with_reducible exact Below.refl _ _ | with_reducible assumption | with_reducible refine below_drewN ?_ _ | with_reducible refine Below.drew ?_ | with_reducible refine Below.alloc ?_ (by first | omega | (simp; omega) | simp) _ | with_reducible refine Below.setCell ?_ (by first | omega | (simp; omega) | simp) _))) (hb1.mono (by simp))
  clear hb1
  go_wp2_with fail
  go_ret2
  exact ⟨rfl, hB⟩

theorem ofv {line heap : Int} (q : Int) (h0 : 0 ≤ heap) (h1 : heap ≤ line) (h2 : line ≤ 100000) (hq : 1 ≤ q) (hq16 : q ≤ 16) : IntKind.i64.wrap (line - (line - heap).tmod q) = line - (line - heap) % q := by
  rw [Int.tmod_eq_emod_of_nonneg (by omega)]
  have e1 := Int.emod_nonneg (line - heap) (show q ≠ 0 by omega)
  have e2 := Int.emod_lt_of_pos (line - heap) (show 0 < q by omega)
  exact IntWalk.i64_in _ (by omega)
theorem plines_nat (w : World) (c s : Nat) (h4 : c ≤ 4) (hs : s = 2 ^ c) : Calls Tryz.prog 41 #[.int .i64 (c : Int)] w fun e w' => e = .returned (.int .i64 (s : Int)) ∧ w = w' := by
  subst hs
  match c, h4 with
  | 0, _ => exact plines0 w
  | 1, _ => exact plines1 w
  | 2, _ => exact plines2 w
  | 3, _ => exact plines3 w
  | 4, _ => exact plines4 w

set_option maxRecDepth 100000 in
set_option maxHeartbeats 4000000 in
theorem Of_calls (base : Nat) (w : World) (gm L n r c s : Nat) (P : Nat → List (Nat × Int)) (E : Nat) (hM : MemIs base w gm L P E) (l0 l1 l2 l3 l4 l5 heap chunks line k : Int) (h50 : 0 ≤ l5) (h51 : l5 ≤ 5000) (hh0 : 0 ≤ heap) (hh1 : heap ≤ 5000) (hc0 : 0 ≤ chunks) (hc1 : chunks ≤ 300)
    (h1 : heap ≤ line) (h2 : line < heap + 16 * chunks) (hk : (line - heap) / 16 = k) (hk0 : 0 ≤ k) (hk1 : k < chunks)
    (hn : n < L) (h8 : (8 * l5 + k) / 8 = (n : Int)) (hr : (8 * l5 + k) % 8 = (r : Int)) (hp8 : ∀ p ∈ P n, p.1 < 8) (hsh : sh (P n) r = (c : Int) + 1) (h4 : c ≤ 4) (hs : s = 2 ^ c) :
    Calls Tryz.prog 17 #[.pointer (some ⟨gm, 0, none⟩), .agg #[.int .i64 l0, .int .i64 l1, .int .i64 l2, .int .i64 l3, .int .i64 l4, .int .i64 l5, .int .i64 heap, .int .i64 chunks], .int .i64 line] w
      fun e w' => e = .returned (.tuple #[.int .i64 (line - (line - heap) % (s : Int)), .int .i64 0]) ∧ Below w.heap.size w w' := by
  have hs1 : 1 ≤ s := by rw [hs]; exact Nat.pow_pos (by omega)
  have hs16 : s ≤ 16 := by rw [hs]; exact Nat.pow_le_pow_right (by omega) h4
  go_enter Tryz.func17, Tryz.ntmps17
  go_upto_region 1 with (fail)
  generalize hwn : w.alloc (.cells #[.int .i64 l0, .int .i64 l1, .int .i64 l2, .int .i64 l3, .int .i64 l4, .int .i64 l5, .int .i64 heap, .int .i64 chunks] 29) = wn
  have hLn : Cl wn w.heap.size 29 #[.int .i64 l0, .int .i64 l1, .int .i64 l2, .int .i64 l3, .int .i64 l4, .int .i64 l5, .int .i64 heap, .int .i64 chunks] := by rw [← hwn]; exact Cl.new _ _ _
  have hAn : Below w.heap.size w wn := by rw [← hwn]; (repeat (first | with_reducible exact Below.refl _ _ | with_reducible assumption | with_reducible refine below_drewN ?_ _ | with_reducible refine Below.drew ?_ | with_reducible refine Below.alloc ?_ (by first | omega | (simp; omega) | simp) _ | with_reducible refine Below.setCell ?_ (by first | omega | (simp; omega) | simp) _))
  clear hwn
  have hMn := hM.below hAn
  have hln := hLn.lt
  obtain ⟨y0, y1, y2, y3, y4, y5, y6, y7⟩ := hLn.cells8
  go_cut [8, 9] (fun x y wx => x = .int .i64 (c : Int) ∧ y = .int .i64 0 ∧ Below wn.heap.size wn wx)
  case first =>
    go_region_held3 (fun w' => w'.cell? ⟨w.heap.size, 0, none⟩ = some (.int .i64 l0) ∧ w'.cell? ⟨w.heap.size, 1, none⟩ = some (.int .i64 l1) ∧ w'.cell? ⟨w.heap.size, 2, none⟩ = some (.int .i64 l2) ∧ w'.cell? ⟨w.heap.size, 3, none⟩ = some (.int .i64 l3) ∧ w'.cell? ⟨w.heap.size, 4, none⟩ = some (.int .i64 l4) ∧ w'.cell? ⟨w.heap.size, 5, none⟩ = some (.int .i64 l5) ∧ w'.cell? ⟨w.heap.size, 6, none⟩ = some (.int .i64 heap) ∧ w'.cell? ⟨w.heap.size, 7, none⟩ = some (.int .i64 chunks)) (go_keep)
      (first
        | (go_at_call 46; refine (chunk_calls _ l0 l1 l2 l3 l4 l5 heap chunks line hh0 hh1 hc0 hc1 h1 h2).mono ?_; rintro e wa ⟨rfl, ba0⟩; (rw [hk]); (have ba : Below wn.heap.size wn wa := (by first | exact below_of_drew ba0 | exact ba0)); (have qa := Cl.cells8 (hLn.below ba hLn.lt)); unfold Cells8 at qa; (have la := (hLn.below ba hLn.lt).lt))
        | (go_at_call 15; refine (Assigned_calls base _ gm L n r P E (hMn.below ba) l0 l1 l2 l3 l4 l5 heap chunks k h50 h51 hc1 hk0 hk1 hn h8 hr hp8 (by omega) (by omega)).mono ?_; rintro e wb ⟨rfl, bb0⟩; (rw [hsh, Int.add_sub_cancel]); (have bb := ba.trans (bb0.mono ba.size)); (have qb := Cl.cells8 (hLn.below bb hLn.lt)); unfold Cells8 at qb; (have lb := (hLn.below bb hLn.lt).lt)))
    go_wp2_with fail
    go_meet
    exact ⟨rfl, rfl, bb⟩
  case rest =>
    obtain ⟨rfl, rfl, hbx⟩ := hcut
    obtain ⟨w2, hw2⟩ : ∃ x : World, x = wc := ⟨_, rfl⟩
    subst hw2
    have hL2 := hLn.below hbx hLn.lt
    have hB2 := hAn.trans (hbx.mono hAn.size)
    clear hLn hAn hbx hMn hM y0 y1 y2 y3 y4 y5 y6 y7 hln
    have y6 := hL2.cell 6
    simp only [List.getElem?_toArray, List.getElem?_cons_succ, List.getElem?_cons_zero] at y6
    have hl2 := hL2.lt
    have w1' : IntKind.i64.wrap (line - heap) = line - heap := IntWalk.i64_in _ (by omega)
    have hs5 : s = 1 ∨ s = 2 ∨ s = 4 ∨ s = 8 ∨ s = 16 := by
      subst hs
      match c, h4 with
      | 0, _ => simp
      | 1, _ => simp
      | 2, _ => simp
      | 3, _ => simp
      | 4, _ => simp
    have HS := Lib.hid hs
    clear hs
    go_wp2_with fail
    rcases hs5 with rfl | rfl | rfl | rfl | rfl
    all_goals
      go_region_held3 (fun w' => w'.cell? ⟨w.heap.size, 6, none⟩ = some (.int .i64 heap)) (go_keep)
        (first | (go_at_call 41; refine (plines_nat _ c _ h4 HS.out).mono ?_; rintro e w' ⟨rfl, rfl⟩))
      go_wp2_with fail
      go_ret2
      refine ⟨?_, by (repeat (first | with_reducible exact Below.refl _ _ | with_reducible assumption | with_reducible refine below_drewN ?_ _ | with_reducible refine Below.drew ?_ | with_reducible refine Below.alloc ?_ (by first | omega | (simp; omega) | simp) _ | with_reducible refine Below.setCell ?_ (by first | omega | (simp; omega) | simp) _))⟩
      first
        | rfl
        | (rw [ofv 16 hh0 h1 (by omega) (by omega) (by omega)]; rfl)
        | (rw [ofv 8 hh0 h1 (by omega) (by omega) (by omega)]; rfl)
        | (rw [ofv 4 hh0 h1 (by omega) (by omega) (by omega)]; rfl)
        | (rw [ofv 2 hh0 h1 (by omega) (by omega) (by omega)]; rfl)
        | (rw [ofv 1 hh0 h1 (by omega) (by omega) (by omega)]; rfl)
        | (simp [Int.emod_one]; exact IntWalk.i64_in _ (by omega))
end Go.Proofs.YtckamjbdogpacaaGreatDoor

namespace Go.Proofs.YtckamjbdogpacaaGreatDoor
open Go.RowKit

theorem proper_zero (w : World) (c : Int) : Calls Tryz.prog 72 #[.int .i64 0, .int .i64 c] w fun e w' => e = .returned (.bool true) ∧ Below w.heap.size w w' := by
  go_enter Tryz.func72, Tryz.ntmps72
  go_wp2_with fail
  go_ret
  exact ⟨rfl, Below.refl _ _⟩

theorem proper_306 (w : World) (hd : Hd w) : Calls Tryz.prog 72 #[.int .i64 306, .int .i64 3] w fun e w' => e = .returned (.bool true) ∧ Below w.heap.size w w' :=
  proper_yes w 2 3 2 hd (by omega) (by omega) (by omega) (by omega) (by omega) (by omega) (by decide) (by omega)

theorem chunk64 (w : World) (ln : Int) (h1 : 16 ≤ ln) (h2 : ln < 32) : Calls Tryz.prog 46 #[.agg #[.int .i64 64, .int .i64 2, .int .i64 8, .int .i64 10, .int .i64 4, .int .i64 14, .int .i64 16, .int .i64 3], .int .i64 ln] w fun e w' => e = .returned (.int .i64 0) ∧ Below w.heap.size w w' := by
  refine (chunk_calls w 64 2 8 10 4 14 16 3 ln (by omega) (by omega) (by omega) (by omega) (by omega) (by omega)).mono ?_
  rintro e w' ⟨rfl, hb⟩
  exact ⟨by rw [show (ln - 16) / 16 = 0 by omega], hb⟩

/-- The loader answers the word x at an address, in every world that has only grown. -/
def LdsM (w : World) (g : Nat) (a x : Int) : Prop := ∀ w', Below w.heap.size w w' → Calls Tryz.prog 42 #[.pointer (some ⟨g, 0, none⟩), .int .i64 a] w' fun e w'' => e = .returned (.tuple #[.int .i64 x, .int .i64 0]) ∧ Below w'.heap.size w' w''
theorem LdsM.below {w w' : World} {g : Nat} {a x : Int} (h : LdsM w g a x) (hb : Below w.heap.size w w') : LdsM w' g a x := fun w'' h' => h w'' (hb.trans (h'.mono hb.size))

set_option maxRecDepth 100000 in
set_option maxHeartbeats 1000000 in
theorem assigned64M (w : World) (g : Nat) (hA : LdsM w g 112 4) :
    Calls Tryz.prog 43 #[.func (.func 42) #[.pointer (some ⟨g, 0, none⟩)] #[], .agg #[.int .i64 64, .int .i64 2, .int .i64 8, .int .i64 10, .int .i64 4, .int .i64 14, .int .i64 16, .int .i64 3], .int .i64 0] w
      fun e w' => e = .returned (.tuple #[.int .i64 3, .int .i64 0]) ∧ Below w.heap.size w w' := by
  go_enter Tryz.func43, Tryz.ntmps43
  go_wp2_with fail
  refine (hA _ (by (repeat (first | with_reducible exact Below.refl _ _ | with_reducible assumption | with_reducible refine below_drewN ?_ _ | with_reducible refine Below.drew ?_ | with_reducible refine Below.alloc ?_ (by first | omega | (simp; omega) | simp) _ | with_reducible refine Below.setCell ?_ (by first | omega | (simp; omega) | simp) _)))).mono ?_
  rintro e w1 ⟨rfl, hb1⟩
  have hB : Below w.heap.size w w1 := Below.trans (by (repeat (first | with_reducible exact Below.refl _ _ | with_reducible assumption | with_reducible refine below_drewN ?_ _ | with_reducible refine Below.drew ?_ | with_reducible refine Below.alloc ?_ (by first | omega | (simp; omega) | simp) _ | with_reducible refine Below.setCell ?_ (by first | omega | (simp; omega) | simp) _))) (hb1.mono (by simp))
  clear hb1
  go_wp2_with fail
  go_ret2
  exact ⟨rfl, hB⟩
/-- The loader answers the word x at an address, in every world that has only grown. -/
def LdsV (w : World) (g : Nat) (a x : Int) : Prop := ∀ w', Below w.heap.size w w' → Calls Tryz.prog 36 #[.pointer (some ⟨g, 0, none⟩), .int .i64 a] w' fun e w'' => e = .returned (.tuple #[.int .i64 x, .int .i64 0]) ∧ Below w'.heap.size w' w''
theorem LdsV.below {w w' : World} {g : Nat} {a x : Int} (h : LdsV w g a x) (hb : Below w.heap.size w w') : LdsV w' g a x := fun w'' h' => h w'' (hb.trans (h'.mono hb.size))

set_option maxRecDepth 100000 in
set_option maxHeartbeats 1000000 in
theorem assigned64V (w : World) (g : Nat) (hA : LdsV w g 112 4) :
    Calls Tryz.prog 43 #[.func (.func 36) #[.pointer (some ⟨g, 0, none⟩)] #[], .agg #[.int .i64 64, .int .i64 2, .int .i64 8, .int .i64 10, .int .i64 4, .int .i64 14, .int .i64 16, .int .i64 3], .int .i64 0] w
      fun e w' => e = .returned (.tuple #[.int .i64 3, .int .i64 0]) ∧ Below w.heap.size w w' := by
  go_enter Tryz.func43, Tryz.ntmps43
  go_wp2_with fail
  refine (hA _ (by (repeat (first | with_reducible exact Below.refl _ _ | with_reducible assumption | with_reducible refine below_drewN ?_ _ | with_reducible refine Below.drew ?_ | with_reducible refine Below.alloc ?_ (by first | omega | (simp; omega) | simp) _ | with_reducible refine Below.setCell ?_ (by first | omega | (simp; omega) | simp) _)))).mono ?_
  rintro e w1 ⟨rfl, hb1⟩
  have hB : Below w.heap.size w w1 := Below.trans (by (repeat (first | with_reducible exact Below.refl _ _ | with_reducible assumption | with_reducible refine below_drewN ?_ _ | with_reducible refine Below.drew ?_ | with_reducible refine Below.alloc ?_ (by first | omega | (simp; omega) | simp) _ | with_reducible refine Below.setCell ?_ (by first | omega | (simp; omega) | simp) _))) (hb1.mono (by simp))
  clear hb1
  go_wp2_with fail
  go_ret2
  exact ⟨rfl, hB⟩
end Go.Proofs.YtckamjbdogpacaaGreatDoor
