/-
  redo: Load of a view without entries, over a memory of any content.
-/
import Derived.Test.YtckamjbdogpacaaGreatDoorView
import Derived.Test.YtckamjbdogpacaaGreatDoorGMemC
namespace Go.Proofs.YtckamjbdogpacaaGreatDoor
open Go.RowKit Go.Shelf
set_option linter.unusedSimpArgs false
set_option linter.unusedVariables false
attribute [local go_sem] Oper.semAt_some

set_option maxRecDepth 100000 in
set_option maxHeartbeats 2000000 in
theorem vloadG_calls (w : World) (gv gm : Nat) (a x er : Int) (hV : Cl w gv 100 #[.pointer (some ⟨gm, 0, none⟩), .slice none 0 0]) (hL : LdG w gm a x er) :
    Calls Tryz.prog 36 #[.pointer (some ⟨gv, 0, none⟩), .int .i64 a] w fun e w' => e = .returned (.tuple #[.int .i64 x, .int .i64 er]) ∧ Below w.heap.size w w' := by
  have v0 := hV.cell 0
  have v1 := hV.cell 1
  simp only [List.getElem?_toArray, List.getElem?_cons_succ, List.getElem?_cons_zero] at v0 v1
  have hvl := hV.lt
  have n1 : ¬ gv = w.heap.size + 1 := by omega
  have n2 : ¬ gv = w.heap.size + 1 + 1 := by omega
  have n3 : ¬ w.heap.size + 1 = gv := by omega
  have n4 : ¬ w.heap.size + 1 + 1 = gv := by omega
  have n5 : ¬ w.heap.size = w.heap.size + 1 + 1 := by omega
  have n6 : ¬ w.heap.size + 1 + 1 = w.heap.size := by omega
  refine (callsIn_wide (n := 3)).1 ?_
  refine callsIn_of_wp_marks Tryz.func36 rfl trivial ?_
  refine wpIn_wide.2 ?_
  simp only [Tryz.ntmps36, List.size_toArray, List.length_cons, List.length_nil, Nat.reduceAdd, Nat.reduceSub, Array.replicate_succ, Array.replicate_zero, List.push_toArray, List.append_toArray, List.nil_append, List.cons_append]
  go_upto_region 1 with (fail)
  generalize hwn : ((w.alloc (.cells #[.int .i64 a] 3)).alloc (.cells #[.int .i64 0] 3)).alloc (.cells #[.int .i64 0] 44) = wn
  have hA : Cl wn w.heap.size 3 #[.int .i64 a] := by rw [← hwn]; exact ((Cl.new _ _ _).alloc _).alloc _
  have hR : Cl wn (w.heap.size + 1) 3 #[.int .i64 0] := by rw [← hwn]; exact (Cl.new_ _ _ _ _ (by simp)).alloc _
  have hE : Cl wn (w.heap.size + 1 + 1) 44 #[.int .i64 0] := by rw [← hwn]; exact Cl.new_ _ _ _ _ (by simp)
  have hB : Below w.heap.size w wn := by rw [← hwn]; (repeat (first | with_reducible exact Below.refl _ _ | with_reducible assumption | with_reducible refine below_drewN ?_ _ | with_reducible refine Below.drew ?_ | with_reducible refine Below.alloc ?_ (by first | omega | (simp; omega) | simp) _ | with_reducible refine Below.setCell ?_ (by first | omega | (simp; omega) | simp) _))
  have hsz : wn.heap.size = w.heap.size + 1 + 1 + 1 := by rw [← hwn]; simp
  clear hwn v0 v1 hvl
  replace hV := hV.below hB hV.lt
  replace hL := hL.below hB
  have v0 := hV.cell 0
  have v1 := hV.cell 1
  simp only [List.getElem?_toArray, List.getElem?_cons_succ, List.getElem?_cons_zero] at v0 v1
  have hvl := hV.lt
  go_wp2_with fail
  refine (backward_calls _).mono ?_
  rintro e w1 ⟨rfl, rfl⟩
  go_wp2_with fail
  generalize hw0 : wn.alloc (.cells #[.slice none 0 0] 23) = w0
  have hB0 : Below wn.heap.size wn w0 := by rw [← hw0]; (repeat (first | with_reducible exact Below.refl _ _ | with_reducible assumption | with_reducible refine below_drewN ?_ _ | with_reducible refine Below.drew ?_ | with_reducible refine Below.alloc ?_ (by first | omega | (simp; omega) | simp) _ | with_reducible refine Below.setCell ?_ (by first | omega | (simp; omega) | simp) _))
  have hc0 : w0.cell? ⟨w.heap.size + 1 + 1 + 1, 0, none⟩ = some (.slice none 0 0) := by rw [← hw0]; exact (Cl.new_ _ _ _ _ hsz.symm).cell 0
  have hs0 : w0.heap.size = wn.heap.size + 1 := by rw [← hw0]; simp
  clear hw0
  refine (wpIn_wide (n := 3)).1 ?_
  refine wpIn_rangeFunc_ownF (α := Empty) rfl (by omega) (gf := 96) (lb := #[.pointer (some ⟨w.heap.size + 1 + 1 + 1, 0, none⟩)]) rfl trivial (enters_of Tryz.func96 (by kernel_rfl) rfl)
    (back_stops Fence.wide (3 - 1) trivial rfl (w.heap.size + 1 + 1 + 1) (Below w0.heap.size) w0 hc0) belowK_t (belowK_b (Nat.le_refl _)) (Below.refl _ _) (fun x => x.elim)
    (fun _ W => Below w0.heap.size w0 W) (fun _ _ _ => False)
    (ownFrom_below (Nat.le_refl _) (Nat.le_refl _)) (fun _ _ _ _ _ hs _ _ => hs) (Below.refl _ _) (fun x => x.elim) ?assign ?body ?done ?stop
  case assign => exact fun _ x => x.elim
  case body => exact fun _ _ x => x.elim
  case stop => exact fun _ _ _ _ _ _ h _ => h.elim
  case done =>
    rintro D ys W hD - hI hK
    have hB1 := hB0.trans (hI.mono hB0.size)
    replace hA := hA.below hB1 hA.lt
    replace hR := hR.below hB1 hR.lt
    replace hE := hE.below hB1 hE.lt
    replace hV := hV.below hB1 hV.lt
    replace hL := hL.below hB1
    replace hB := hB.trans (hB1.mono hB.size)
    have hDw : w.heap.size + 1 + 1 + 1 < D := by omega
    clear v0 v1 hvl hI hB1 hB0 hc0 hs0 hD hsz
    have v0 := hV.cell 0
    have a0 := hA.cell 0
    have r0 := hR.cell 0
    have e0 := hE.cell 0
    have r1 := hR.free 0
    have e1 := hE.free 0
    simp only [List.getElem?_toArray, List.getElem?_cons_zero] at v0 a0 r0 e0
    have lv := hV.lt
    have la := hA.lt
    have lr := hR.lt
    have le := hE.lt
    go_upto_region 5 with (fail)
    refine wp_region_noPanic ?_
    go_region_held3 (fun w' => w'.cell? ⟨gv, 0, none⟩ = some (.pointer (some ⟨gm, 0, none⟩)) ∧ w'.cell? ⟨w.heap.size, 0, none⟩ = some (.int .i64 a)) (go_keep)
      (first | (go_at_call 42; refine (hL _ (by (repeat (first | with_reducible exact Below.refl _ _ | with_reducible assumption | with_reducible refine below_drewN ?_ _ | with_reducible refine Below.drew ?_ | with_reducible refine Below.alloc ?_ (by first | omega | (simp; omega) | simp) _ | with_reducible refine Below.setCell ?_ (by first | omega | (simp; omega) | simp) _)))).mono ?_; rintro e wa ⟨rfl, ba0⟩; (have ba : Below W.heap.size W wa := (by first | exact below_of_drew ba0 | exact ba0)); (have av := (ba.cell (p := ⟨gv, 0, none⟩) lv).trans v0); (have aa := (ba.cell (p := ⟨w.heap.size, 0, none⟩) la).trans a0); (have aR := hR.below ba lr); (have aE := hE.below ba le); (have ar0 : wa.cell? ⟨w.heap.size + 1, 0, none⟩ = some (.int .i64 0) := aR.cell 0); (have ae0 : wa.cell? ⟨w.heap.size + 1 + 1, 0, none⟩ = some (.int .i64 0) := aE.cell 0); (have ar1 := aR.free 0); (have ae1 := aE.free 0); (have al := aE.lt)))
    refine NoPanic.normal ?_
    have fR : Cl ((wa.setCell ⟨w.heap.size + 1, 0, none⟩ (.int .i64 x)).setCell ⟨w.heap.size + 1 + 1, 0, none⟩ (.int .i64 er)) (w.heap.size + 1) 3 #[.int .i64 x] := (aR.set_ 0 _).far (by simp) _
    have fE : Cl ((wa.setCell ⟨w.heap.size + 1, 0, none⟩ (.int .i64 x)).setCell ⟨w.heap.size + 1 + 1, 0, none⟩ (.int .i64 er)) (w.heap.size + 1 + 1) 44 #[.int .i64 er] := (aE.far (by simp) _).set_ 0 _
    have fB : Below w.heap.size w ((wa.setCell ⟨w.heap.size + 1, 0, none⟩ (.int .i64 x)).setCell ⟨w.heap.size + 1 + 1, 0, none⟩ (.int .i64 er)) := Below.setCell (Below.setCell (hB.trans (ba.mono hB.size)) (by simp) _) (by simp; omega) _
    have hK2 := (KeepsOthers.setCell (wa.setCell ⟨w.heap.size + 1, 0, none⟩ (.int .i64 x)) ⟨w.heap.size + 1 + 1, 0, none⟩ (.int .i64 er)).same D _ ((KeepsOthers.setCell wa ⟨w.heap.size + 1, 0, none⟩ (.int .i64 x)).same D _ ((ba.block D (lt_of_heap hK)).trans hK) rfl) rfl
    generalize (wa.setCell ⟨w.heap.size + 1, 0, none⟩ (.int .i64 x)).setCell ⟨w.heap.size + 1 + 1, 0, none⟩ (.int .i64 er) = wf at *
    clear ba0 ba av aa aR aE ar0 ae0 ar1 ae1 al hA hR hE hV hL hB r1 e1 v0 a0 r0 e0 lv la lr le hK
    go_wp2_with fail
    refine ⟨by simp, .inl ⟨_, _, rfl, run_takeDeferred hK2, ?_⟩⟩
    have g1 := cell_kept (fR.cell 0) (grownBy_putObj' _ D (.deferred none)) (fun r e => by cases e; exact ⟨_, hK2, rfl⟩)
    have g2 := cell_kept (fE.cell 0) (grownBy_putObj' _ D (.deferred none)) (fun r e => by cases e; exact ⟨_, hK2, rfl⟩)
    refine ⟨.tuple #[.int .i64 x, .int .i64 er], ?_, rfl, fB.trans (belowK_b (w := w) (Nat.le_refl _) _ D _ _ (by omega) hK2 rfl rfl)⟩
    simp [results, Tryz.results36, go_sem, g1, g2]


/-- A loader: the memory's, or the view's. -/
def ldFn (f : Nat) (g : Nat) : Value := .func (.func f) #[.pointer (some ⟨g, 0, none⟩)] #[]
/-- The view's loader answers x and e at an address, in every world that has only grown. -/
def LdV (w : World) (g : Nat) (a x e : Int) : Prop := ∀ w', Below w.heap.size w w' → Calls Tryz.prog 36 #[.pointer (some ⟨g, 0, none⟩), .int .i64 a] w' fun en w'' => en = .returned (.tuple #[.int .i64 x, .int .i64 e]) ∧ Below w'.heap.size w' w''
theorem LdV.below {w w' : World} {g : Nat} {a x e : Int} (h : LdV w g a x e) (hb : Below w.heap.size w w') : LdV w' g a x e := fun w'' h' => h w'' (hb.trans (h'.mono hb.size))
theorem LdV.of {w : World} {gv gm : Nat} {a x e : Int} (hV : Cl w gv 100 #[.pointer (some ⟨gm, 0, none⟩), .slice none 0 0]) (hL : LdG w gm a x e) : LdV w gv a x e :=
  fun w' hb => vloadG_calls w' gv gm a x e (hV.below hb hV.lt) (hL.below hb)
end Go.Proofs.YtckamjbdogpacaaGreatDoor
