/-
  class: block through a memory and through a view, on the layout of 64 lines.
-/
import Derived.Test.YtcoeoggoaiebeaaDoorCls
import Derived.Test.YtcoeoggoaiebeaaDoorHead
namespace Go.Proofs.YtcoeoggoaiebeaaDoor
open Go.RowKit

theorem proper_zero (w : World) (c : Int) : Calls Tryd.prog 68 #[.int .i64 0, .int .i64 c] w fun e w' => e = .returned (.bool true) ∧ Below w.heap.size w w' := by
  go_enter Tryd.func68, Tryd.ntmps68
  go_wp2_with fail
  go_ret
  exact ⟨rfl, Below.refl _ _⟩

theorem proper_306 (w : World) (hd : Hd w) : Calls Tryd.prog 68 #[.int .i64 306, .int .i64 3] w fun e w' => e = .returned (.bool true) ∧ Below w.heap.size w w' :=
  proper_yes w 2 3 2 hd (by omega) (by omega) (by omega) (by omega) (by omega) (by omega) (by decide) (by omega)

theorem chunk64 (w : World) (ln : Int) (h1 : 16 ≤ ln) (h2 : ln < 32) : Calls Tryd.prog 38 #[.agg #[.int .i64 64, .int .i64 2, .int .i64 8, .int .i64 10, .int .i64 4, .int .i64 14, .int .i64 16, .int .i64 3], .int .i64 ln] w fun e w' => e = .returned (.int .i64 0) ∧ Below w.heap.size w w' := by
  refine (chunk_calls w 64 2 8 10 4 14 16 3 ln (by omega) (by omega) (by omega) (by omega) (by omega) (by omega)).mono ?_
  rintro e w' ⟨rfl, hb⟩
  exact ⟨by rw [show (ln - 16) / 16 = 0 by omega], hb⟩

/-- The loader answers the word x at an address, in every world that has only grown. -/
def LdsM (w : World) (g : Nat) (a x : Int) : Prop := ∀ w', Below w.heap.size w w' → Calls Tryd.prog 49 #[.pointer (some ⟨g, 0, none⟩), .int .i64 a] w' fun e w'' => e = .returned (.tuple #[.int .i64 x, .int .i64 0]) ∧ Below w'.heap.size w' w''
theorem LdsM.below {w w' : World} {g : Nat} {a x : Int} (h : LdsM w g a x) (hb : Below w.heap.size w w') : LdsM w' g a x := fun w'' h' => h w'' (hb.trans (h'.mono hb.size))

set_option maxRecDepth 100000 in
set_option maxHeartbeats 1000000 in
theorem assigned64M (w : World) (g : Nat) (hA : LdsM w g 112 4) :
    Calls Tryd.prog 50 #[.func (.func 49) #[.pointer (some ⟨g, 0, none⟩)] #[], .agg #[.int .i64 64, .int .i64 2, .int .i64 8, .int .i64 10, .int .i64 4, .int .i64 14, .int .i64 16, .int .i64 3], .int .i64 0] w
      fun e w' => e = .returned (.tuple #[.int .i64 3, .int .i64 0]) ∧ Below w.heap.size w w' := by
  go_enter Tryd.func50, Tryd.ntmps50
  go_wp2_with fail
  refine (hA _ (by (repeat (first | with_reducible exact Below.refl _ _ | with_reducible assumption | with_reducible refine below_drewN ?_ _ | with_reducible refine Below.drew ?_ | with_reducible refine Below.alloc ?_ (by first | omega | (simp; omega) | simp) _ | with_reducible refine Below.setCell ?_ (by first | omega | (simp; omega) | simp) _)))).mono ?_
  rintro e w1 ⟨rfl, hb1⟩
  have hB : Below w.heap.size w w1 := Below.trans (by (repeat (first | with_reducible exact Below.refl _ _ | with_reducible assumption | with_reducible refine below_drewN ?_ _ | with_reducible refine Below.drew ?_ | with_reducible refine Below.alloc ?_ (by first | omega | (simp; omega) | simp) _ | with_reducible refine Below.setCell ?_ (by first | omega | (simp; omega) | simp) _))) (hb1.mono (by simp))
  clear hb1
  go_wp2_with fail
  go_ret2
  exact ⟨rfl, hB⟩
/-- The loader answers the word x at an address, in every world that has only grown. -/
def LdsV (w : World) (g : Nat) (a x : Int) : Prop := ∀ w', Below w.heap.size w w' → Calls Tryd.prog 53 #[.pointer (some ⟨g, 0, none⟩), .int .i64 a] w' fun e w'' => e = .returned (.tuple #[.int .i64 x, .int .i64 0]) ∧ Below w'.heap.size w' w''
theorem LdsV.below {w w' : World} {g : Nat} {a x : Int} (h : LdsV w g a x) (hb : Below w.heap.size w w') : LdsV w' g a x := fun w'' h' => h w'' (hb.trans (h'.mono hb.size))

set_option maxRecDepth 100000 in
set_option maxHeartbeats 1000000 in
theorem assigned64V (w : World) (g : Nat) (hA : LdsV w g 112 4) :
    Calls Tryd.prog 50 #[.func (.func 53) #[.pointer (some ⟨g, 0, none⟩)] #[], .agg #[.int .i64 64, .int .i64 2, .int .i64 8, .int .i64 10, .int .i64 4, .int .i64 14, .int .i64 16, .int .i64 3], .int .i64 0] w
      fun e w' => e = .returned (.tuple #[.int .i64 3, .int .i64 0]) ∧ Below w.heap.size w w' := by
  go_enter Tryd.func50, Tryd.ntmps50
  go_wp2_with fail
  refine (hA _ (by (repeat (first | with_reducible exact Below.refl _ _ | with_reducible assumption | with_reducible refine below_drewN ?_ _ | with_reducible refine Below.drew ?_ | with_reducible refine Below.alloc ?_ (by first | omega | (simp; omega) | simp) _ | with_reducible refine Below.setCell ?_ (by first | omega | (simp; omega) | simp) _)))).mono ?_
  rintro e w1 ⟨rfl, hb1⟩
  have hB : Below w.heap.size w w1 := Below.trans (by (repeat (first | with_reducible exact Below.refl _ _ | with_reducible assumption | with_reducible refine below_drewN ?_ _ | with_reducible refine Below.drew ?_ | with_reducible refine Below.alloc ?_ (by first | omega | (simp; omega) | simp) _ | with_reducible refine Below.setCell ?_ (by first | omega | (simp; omega) | simp) _))) (hb1.mono (by simp))
  clear hb1
  go_wp2_with fail
  go_ret2
  exact ⟨rfl, hB⟩
end Go.Proofs.YtcoeoggoaiebeaaDoor
