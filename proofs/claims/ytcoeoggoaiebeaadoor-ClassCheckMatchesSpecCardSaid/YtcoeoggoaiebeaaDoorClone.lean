/-
  slices.Clone for integers and for blocks.
-/
import Derived.Test.YtcoeoggoaiebeaaDoorWords
namespace Go.Proofs.YtcoeoggoaiebeaaDoor
open Go.RowKit

theorem int_info : (Tryd.prog.info? 3).map (fun i => (i.zero, i.size, i.bytes)) = some (some (.int .i64 0), 1, 8) := by kernel_rfl
theorem blk_info : (Tryd.prog.info? 53).map (fun i => (i.zero, i.size, i.bytes)) = some (some (.agg #[.int .i64 0, .int .i64 0, .int .i64 0, .int .i64 0]), 4, 32) := by kernel_rfl


def CloneB (w : World) (bs : List Bk) (e : Ending) (w' : World) : Prop := ∃ (A : Option Addr) (c : Nat), e = .returned (.slice A bs.length c) ∧ w'.ownsRow w.heap.size 53 4 (.slice A bs.length c) bs.length (bksCells bs) ∧ Below w.heap.size w w'

set_option maxHeartbeats 400000 in
theorem cloneB_calls (w : World) (bl : Value) (bs : List Bk) {te : TypeId} (hR : Rd w te 4 bl bs.length (bksCells bs)) (hn : bs.length ≤ 100000) :
    Calls Tryd.prog 42 #[bl] w (CloneB w bs) := by
  obtain ⟨i0, hi0, hz0, hz1, hz2⟩ := info_parts blk_info
  have hR' := hR
  obtain ⟨hl, A, cp, rfl, hcp, _, hnil, hcell⟩ := hR
  have heq := fun (W : World) (a : Option Addr) (n c : Nat) => Lib.run_eql_slice_nil (P := Tryd.prog) W 43 53 a n c 0 0 Tryd.underlying43
  cases A with
  | none =>
    have hc0 : cp = 0 := hnil rfl
    subst hc0
    have hb0 : bs = [] := List.eq_nil_of_length_eq_zero (by omega)
    subst hb0
    clear hcell hnil hR'
    go_enter Tryd.func42, Tryd.ntmps42
    go_wp2_with fail
    go_ret
    exact ⟨none, 0, rfl, World.ownsRow_nil _ _ _ _, Below.refl _ _⟩
  | some ad =>
    have hown : (w.alloc (.cells #[] 53)).ownsRow w.heap.size 53 4 (.slice (some ⟨w.heap.size, 0, none⟩) 0 0) 0 [] := World.ownsRow_made w #[] 0 (Nat.le_refl _) (by simp [maxLen]) rfl
    have hnews := Rd.news (hR'.below (show Below w.heap.size w (w.alloc (.cells #[] 53)) by (repeat (first | with_reducible exact Below.refl _ _ | with_reducible assumption | with_reducible refine below_drewN ?_ _ | with_reducible refine Below.drew ?_ | with_reducible refine Below.alloc ?_ (by first | omega | (simp; omega) | simp) _ | with_reducible refine Below.setCell ?_ (by first | omega | (simp; omega) | simp) _))))
    have HN := Lib.hid hnews
    have HL := Lib.hid hl
    clear hR' hcell hnil hnews hl
    go_enter Tryd.func42, Tryd.ntmps42
    go_wp2_with (at_builtin; refine wpList_append_own _ rfl (.tmp 5) (.tmp 6) 43 rfl w.heap.size 53 i0 (.agg #[.int .i64 0, .int .i64 0, .int .i64 0, .int .i64 0]) 4 32 Tryd.underlying43 hi0 hz0 hz1 hz2 rfl (by decide) (.slice (some ⟨w.heap.size, 0, none⟩) 0 0) 0 [] rfl hown ad bs.length cp (bksCells bs) rfl HL.out HN.out (bks_one bs) (by unfold maxLen; omega) (by omega) (by simp) ?_; intro v' w1 hown1 hg1 hv1)
    go_ret
    obtain ⟨_, A, c, hv, _⟩ := Rd.own hown1
    simp only [Nat.zero_add] at hv
    subst hv
    exact ⟨A, c, rfl, by simpa using hown1, Below.grown (by (repeat (first | with_reducible exact Below.refl _ _ | with_reducible assumption | with_reducible refine below_drewN ?_ _ | with_reducible refine Below.drew ?_ | with_reducible refine Below.alloc ?_ (by first | omega | (simp; omega) | simp) _ | with_reducible refine Below.setCell ?_ (by first | omega | (simp; omega) | simp) _))) hg1 (by simp) (by simp [Value.ownBlock])⟩

end Go.Proofs.YtcoeoggoaiebeaaDoor
