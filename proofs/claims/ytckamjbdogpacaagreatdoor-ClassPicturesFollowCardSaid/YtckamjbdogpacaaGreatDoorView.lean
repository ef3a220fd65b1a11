/-
  redo: Over, M, Load of a view without entries.
-/
import Derived.RangeFuncNested
import Derived.RangeFuncBound
import Derived.RangeFuncCalls
import Derived.RangeFuncLeaves
import Derived.RangeFuncFrom
import Derived.Shelf.Abstract
import Derived.Shelf.RegionOpen
import Derived.WalkKit
import Derived.OwnWalkIn
import Derived.TacticsInMore
import Derived.LoopNIn
import Derived.LoopIn
import Derived.Test.YtckamjbdogpacaaGreatDoorBlk
namespace Go.Proofs.YtckamjbdogpacaaGreatDoor
open Go.RowKit Go.Shelf
attribute [local go_sem] Oper.semAt_some

theorem backward_calls (w : World) : Calls Tryz.prog 71 #[.slice none 0 0] w fun e w' => e = .returned (.func (.func 96) #[] #[.pointer (some ⟨w.heap.size, 0, none⟩)]) ∧ w.alloc (.cells #[.slice none 0 0] 23) = w' := by
  go_enter Tryz.func71, Tryz.ntmps71
  go_wp2
  go_ret
  exact ⟨rfl, rfl⟩

set_option maxRecDepth 100000 in
set_option maxHeartbeats 1000000 in
theorem back_in (F : Fence) (n : Nat) (hf : F.fn 96) (hro : F.round = none) (l Bm : Nat) (J : List Empty → World → Prop) (W : World) (hm : W.cell? ⟨Bm, 0, none⟩ = some (.slice none 0 0)) (h0 : J [] W) :
    CallsIn F n Tryz.prog 96 #[.func (.yield l) #[] #[], .pointer (some ⟨Bm, 0, none⟩)] W fun e W' => (∃ v, e = .returned v) ∧ J [] W' := by
  refine callsIn_of_wp Tryz.func96 rfl hf ?_ hro
  simp only [Tryz.ntmps96, List.size_toArray, List.length_cons, List.length_nil, Nat.reduceAdd, Nat.reduceSub, Array.replicate_succ, Array.replicate_zero, List.push_toArray, List.append_toArray, List.nil_append, List.cons_append]
  gi_wp2
  refine wpIn_loop_rounds 1 ?_
  rw [roundsIn_succ]
  gi_wp2
  go_end0
  exact ⟨⟨_, rfl⟩, h0⟩

theorem back_stops (F : Fence) (n : Nat) (hf : F.fn 96) (hro : F.round = none) (Bm : Nat) (Kp : World → World → Prop) (w : World) (hm : w.cell? ⟨Bm, 0, none⟩ = some (.slice none 0 0)) :
    SeqStopsK F n Tryz.prog 96 #[.pointer (some ⟨Bm, 0, none⟩)] (fun _ : Empty => #[]) Kp (fun xs => xs = []) (fun _ => False) 0 w := fun l J _ W hW _ _ _ h0 =>
  (back_in F n hf hro l Bm J W ((hW.cell (p := ⟨Bm, 0, none⟩) (World.block_lt_of_cell? w _ hm)).trans hm) h0).mono fun _ _ ⟨he, hj⟩ => ⟨he, .inl ⟨[], rfl, hj⟩⟩


theorem over_calls (w : World) (gm : Nat) : Calls Tryz.prog 19 #[.pointer (some ⟨gm, 0, none⟩)] w fun e w' => e = .returned (.pointer (some ⟨w.heap.size, 0, none⟩)) ∧ w.alloc (.cells #[.pointer (some ⟨gm, 0, none⟩), .slice none 0 0] 100) = w' := by
  go_enter Tryz.func19, Tryz.ntmps19
  go_wp2
  go_ret
  exact ⟨rfl, rfl⟩
theorem m_calls (w : World) (gm : Nat) : Calls Tryz.prog 49 #[.agg #[.pointer (some ⟨gm, 0, none⟩)]] w fun e w' => e = .returned (.pointer (some ⟨gm, 0, none⟩)) ∧ Below w.heap.size w w' := by
  go_enter Tryz.func49, Tryz.ntmps49
  go_wp2
  go_ret
  exact ⟨rfl, by (repeat (first | with_reducible exact Below.refl _ _ | with_reducible assumption | with_reducible refine below_drewN ?_ _ | with_reducible refine Below.drew ?_ | with_reducible refine Below.alloc ?_ (by first | omega | (simp; omega) | simp) _ | with_reducible refine Below.setCell ?_ (by first | omega | (simp; omega) | simp) _))⟩

set_option maxRecDepth 100000 in
set_option maxHeartbeats 2000000 in
theorem vload_calls (w : World) (gv gm : Nat) (a x : Int) (hV : Cl w gv 100 #[.pointer (some ⟨gm, 0, none⟩), .slice none 0 0]) (hL : LdsM w gm a x) :
    Calls Tryz.prog 36 #[.pointer (some ⟨gv, 0, none⟩), .int .i64 a] w fun e w' => e = .returned (.tuple #[.int .i64 x, .int .i64 0]) ∧ Below w.heap.size w w' := by
  have v0 := hV.cell 0
  have v1 := hV.cell 1
  simp only [List.getElem?_toArray, List.getElem?_cons_succ, List.getElem?_cons_zero] at v0 v1
  have hvl := hV.lt
  have n1 : ¬ gv = w.heap.size + 1 := by omega
  have n2 : ¬ gv = w.heap.size + 1 + 1 := by omega
  have n3 : ¬ w.heap.size + 1 = gv := by omega
  have n4 : ¬ w.heap.size + 1 + 1 = gv := by omega
  have n5 : ¬ w.heap.size = w.heap.size + 1 + 1 := by omega
  have n6 : ¬ w.heap.size + 1 + 1 = w.heap.size := by omega
  refine (callsIn_wide (n := 3)).1 ?_
  refine callsIn_of_wp_marks Tryz.func36 rfl trivial ?_
  refine wpIn_wide.2 ?_
  simp only [Tryz.ntmps36, List.size_toArray, List.length_cons, List.length_nil, Nat.reduceAdd, Nat.reduceSub, Array.replicate_succ, Array.replicate_zero, List.push_toArray, List.append_toArray, List.nil_append, List.cons_append]
  go_upto_region 1 with (fail)
  generalize hwn : ((w.alloc (.cells #[.int .i64 a] 3)).alloc (.cells #[.int .i64 0] 3)).alloc (.cells #[.int .i64 0] 44) = wn
  have hA : Cl wn w.heap.size 3 #[.int .i64 a] := by rw [← hwn]; exact ((Cl.new _ _ _).alloc _).alloc _
  have hR : Cl wn (w.heap.size + 1) 3 #[.int .i64 0] := by rw [← hwn]; exact (Cl.new_ _ _ _ _ (by simp)).alloc _
  have hE : Cl wn (w.heap.size + 1 + 1) 44 #[.int .i64 0] := by rw [← hwn]; exact Cl.new_ _ _ _ _ (by simp)
  have hB : Below w.heap.size w wn := by rw [← hwn]; (repeat (first | with_reducible exact Below.refl _ _ | with_reducible assumption | with_reducible refine below_drewN ?_ _ | with_reducible refine Below.drew ?_ | with_reducible refine Below.alloc ?_ (by first | omega | (simp; omega) | simp) _ | with_reducible refine Below.setCell ?_ (by first | omega | (simp; omega) | simp) _))
  have hsz : wn.heap.size = w.heap.size + 1 + 1 + 1 := by rw [← hwn]; simp
  clear hwn v0 v1 hvl
  replace hV := hV.below hB hV.lt
  replace hL := hL.below hB
  have v0 := hV.cell 0
  have v1 := hV.cell 1
  simp only [List.getElem?_toArray, List.getElem?_cons_succ, List.getElem?_cons_zero] at v0 v1
  have hvl := hV.lt
  go_wp2_with fail
  refine (backward_calls _).mono ?_
  rintro e w1 ⟨rfl, rfl⟩
  go_wp2_with fail
  generalize hw0 : wn.alloc (.cells #[.slice none 0 0] 23) = w0
  have hB0 : Below wn.heap.size wn w0 := by rw [← hw0]; (repeat (first | with_reducible exact Below.refl _ _ | with_reducible assumption | with_reducible refine below_drewN ?_ _ | with_reducible refine Below.drew ?_ | with_reducible refine Below.alloc ?_ (by first | omega | (simp; omega) | simp) _ | with_reducible refine Below.setCell ?_ (by first | omega | (simp; omega) | simp) _))
  have hc0 : w0.cell? ⟨w.heap.size + 1 + 1 + 1, 0, none⟩ = some (.slice none 0 0) := by rw [← hw0]; exact (Cl.new_ _ _ _ _ hsz.symm).cell 0
  have hs0 : w0.heap.size = wn.heap.size + 1 := by rw [← hw0]; simp
  clear hw0
  refine (wpIn_wide (n := 3)).1 ?_
  refine wpIn_rangeFunc_ownF (α := Empty) rfl (by omega) (gf := 96) (lb := #[.pointer (some ⟨w.heap.size + 1 + 1 + 1, 0, none⟩)]) rfl trivial (enters_of Tryz.func96 (by kernel_rfl) rfl)
    (back_stops Fence.wide (3 - 1) trivial rfl (w.heap.size + 1 + 1 + 1) (Below w0.heap.size) w0 hc0) belowK_t (belowK_b (Nat.le_refl _)) (Below.refl _ _) (fun x => x.elim)
    (fun _ W => Below w0.heap.size w0 W) (fun _ _ _ => False)
    (ownFrom_below (Nat.le_refl _) (Nat.le_refl _)) (fun _ _ _ _ _ hs _ _ => hs) (Below.refl _ _) (fun x => x.elim) ?assign ?body ?done ?stop
  case assign => exact fun _ x => x.elim
  case body => exact fun _ _ x => x.elim
  case stop => exact fun _ _ _ _ _ _ h _ => h.elim
  case done =>
    rintro D ys W hD - hI hK
    have hB1 := hB0.trans (hI.mono hB0.size)
    replace hA := hA.below hB1 hA.lt
    replace hR := hR.below hB1 hR.lt
    replace hE := hE.below hB1 hE.lt
    replace hV := hV.below hB1 hV.lt
    replace hL := hL.below hB1
    replace hB := hB.trans (hB1.mono hB.size)
    have hDw : w.heap.size + 1 + 1 + 1 < D := by omega
    clear v0 v1 hvl hI hB1 hB0 hc0 hs0 hD hsz
    have v0 := hV.cell 0
    have a0 := hA.cell 0
    have r0 := hR.cell 0
    have e0 := hE.cell 0
    have r1 := hR.free 0
    have e1 := hE.free 0
    simp only [List.getElem?_toArray, List.getElem?_cons_zero] at v0 a0 r0 e0
    have lv := hV.lt
    have la := hA.lt
    have lr := hR.lt
    have le := hE.lt
    go_upto_region 5 with (fail)
    refine wp_region_noPanic ?_
    go_region_held3 (fun w' => w'.cell? ⟨gv, 0, none⟩ = some (.pointer (some ⟨gm, 0, none⟩)) ∧ w'.cell? ⟨w.heap.size, 0, none⟩ = some (.int .i64 a)) (go_keep)
      (first | (go_at_call 42; refine (hL _ (by (repeat (first | with_reducible exact Below.refl _ _ | with_reducible assumption | with_reducible refine below_drewN ?_ _ | with_reducible refine Below.drew ?_ | with_reducible refine Below.alloc ?_ (by first | omega | (simp; omega) | simp) _ | with_reducible refine Below.setCell ?_ (by first | omega | (simp; omega) | simp) _)))).mono ?_; rintro e wa ⟨rfl, ba0⟩; (have ba : Below W.heap.size W wa := (by first | exact below_of_drew ba0 | exact ba0)); (have av := (ba.cell (p := ⟨gv, 0, none⟩) lv).trans v0); (have aa := (ba.cell (p := ⟨w.heap.size, 0, none⟩) la).trans a0); (have aR := hR.below ba lr); (have aE := hE.below ba le); (have ar0 : wa.cell? ⟨w.heap.size + 1, 0, none⟩ = some (.int .i64 0) := aR.cell 0); (have ae0 : wa.cell? ⟨w.heap.size + 1 + 1, 0, none⟩ = some (.int .i64 0) := aE.cell 0); (have ar1 := aR.free 0); (have ae1 := aE.free 0); (have al := aE.lt)))
    refine NoPanic.normal ?_
    have fR : Cl ((wa.setCell ⟨w.heap.size + 1, 0, none⟩ (.int .i64 x)).setCell ⟨w.heap.size + 1 + 1, 0, none⟩ (.int .i64 0)) (w.heap.size + 1) 3 #[.int .i64 x] := (aR.set_ 0 _).far (by simp) _
    have fE : Cl ((wa.setCell ⟨w.heap.size + 1, 0, none⟩ (.int .i64 x)).setCell ⟨w.heap.size + 1 + 1, 0, none⟩ (.int .i64 0)) (w.heap.size + 1 + 1) 44 #[.int .i64 0] := (aE.far (by simp) _).set_ 0 _
    have fB : Below w.heap.size w ((wa.setCell ⟨w.heap.size + 1, 0, none⟩ (.int .i64 x)).setCell ⟨w.heap.size + 1 + 1, 0, none⟩ (.int .i64 0)) := Below.setCell (Below.setCell (hB.trans (ba.mono hB.size)) (by simp) _) (by simp; omega) _
    have hK2 := (KeepsOthers.setCell (wa.setCell ⟨w.heap.size + 1, 0, none⟩ (.int .i64 x)) ⟨w.heap.size + 1 + 1, 0, none⟩ (.int .i64 0)).same D _ ((KeepsOthers.setCell wa ⟨w.heap.size + 1, 0, none⟩ (.int .i64 x)).same D _ ((ba.block D (lt_of_heap hK)).trans hK) rfl) rfl
    generalize (wa.setCell ⟨w.heap.size + 1, 0, none⟩ (.int .i64 x)).setCell ⟨w.heap.size + 1 + 1, 0, none⟩ (.int .i64 0) = wf at *
    clear ba0 ba av aa aR aE ar0 ae0 ar1 ae1 al hA hR hE hV hL hB r1 e1 v0 a0 r0 e0 lv la lr le hK
    go_wp2_with fail
    refine ⟨by simp, .inl ⟨_, _, rfl, run_takeDeferred hK2, ?_⟩⟩
    have g1 := cell_kept (fR.cell 0) (grownBy_putObj' _ D (.deferred none)) (fun r e => by cases e; exact ⟨_, hK2, rfl⟩)
    have g2 := cell_kept (fE.cell 0) (grownBy_putObj' _ D (.deferred none)) (fun r e => by cases e; exact ⟨_, hK2, rfl⟩)
    refine ⟨.tuple #[.int .i64 x, .int .i64 0], ?_, rfl, fB.trans (belowK_b (w := w) (Nat.le_refl _) _ D _ _ (by omega) hK2 rfl rfl)⟩
    simp [results, Tryz.results36, go_sem, g1, g2]

theorem LdsV.of {w : World} {gv gm : Nat} {a x : Int} (hV : Cl w gv 100 #[.pointer (some ⟨gm, 0, none⟩), .slice none 0 0]) (hL : LdsM w gm a x) : LdsV w gv a x :=
  fun w' hb => vload_calls w' gv gm a x (hV.below hb hV.lt) (hL.below hb)
theorem LdsM.of {base : Nat} {w : World} {gm L n r : Nat} {P : Nat → List (Nat × Int)} {E : Nat} {a x : Int} (hM : MemIs base w gm L P E) (hn : n < L) (h0 : 0 ≤ a) (h1 : a ≤ 100000) (h8 : a / 8 = (n : Int)) (hr : a % 8 = (r : Int)) (hp8 : ∀ p ∈ P n, p.1 < 8) (hx : sh (P n) r = x) : LdsM w gm a x :=
  fun w' hb => by
    rw [← hx]
    exact load_calls base w' gm L n r a P E (hM.below hb) hn h0 h1 h8 hr hp8
end Go.Proofs.YtckamjbdogpacaaGreatDoor
