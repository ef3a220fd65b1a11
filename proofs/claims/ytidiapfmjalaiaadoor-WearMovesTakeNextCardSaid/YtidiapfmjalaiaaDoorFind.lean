/-
  slices.Index and slices.Contains for blocks; the specification's has.
-/
import Derived.Test.YtidiapfmjalaiaaDoorWords
namespace Go.Proofs.YtidiapfmjalaiaaDoor
open Go.RowKit

def IdxPost (w : World) (yes : Prop) (e : Ending) (w' : World) : Prop := ∃ r : Int, -1 ≤ r ∧ r ≤ 1000000 ∧ (0 ≤ r ↔ yes) ∧ e = .returned (.int .i64 r) ∧ Below w.heap.size w w'

set_option maxHeartbeats 400000 in
theorem index_calls (w : World) (bl : Value) (bs : List Bk) (x : Bk) (hR : RdB w bl bs) (hn : bs.length ≤ 1000) :
    Calls Tryd.prog 33 #[bl, .agg #[.int .i64 (Bk.line x), .int .i64 (Bk.cls x), .int .i64 (Bk.kind x), .int .i64 (Bk.gen x)]] w (IdxPost w (x ∈ bs)) := by
  obtain ⟨A, cp, rfl, hcp, hcell⟩ := hR.at_
  go_enter Tryd.func33, Tryd.ntmps33
  go_wp2
  go_loopw [5, 8] (fun _ i wr => ∃ k : Nat, k ≤ bs.length ∧ i = .int .i64 k ∧ (∀ j, j < k → bs[j]? ≠ some x) ∧ Cl wr w.heap.size 40 #[.int .i64 (Bk.line x), .int .i64 (Bk.cls x), .int .i64 (Bk.kind x), .int .i64 (Bk.gen x)] ∧ Below w.heap.size w wr)
    (fun _ i _ => bs.length - (intOf i).toNat)
  case atStart => exact ⟨0, Nat.zero_le _, rfl, by omega, Cl.new _ _ _, by (repeat (first | with_reducible exact Below.refl _ _ | with_reducible assumption | with_reducible refine below_drewN ?_ _ | with_reducible refine Below.drew ?_ | with_reducible refine Below.alloc ?_ (by first | omega | (simp; omega) | simp) _ | with_reducible refine Below.setCell ?_ (by first | omega | (simp; omega) | simp) _))⟩
  case round =>
    obtain ⟨k, hk, rfl, hno, hX, hb⟩ := hrel
    have HNO := Lib.hid hno
    clear hno
    by_cases hlt : k < bs.length
    · obtain ⟨b, o, rfl, hlt2, hc⟩ := hcell k hlt
      obtain ⟨y, hy⟩ : ∃ y, bs[k]? = some y := ⟨_, List.getElem?_eq_getElem hlt⟩
      obtain ⟨c0', c1', c2', c3'⟩ := hc y hy
      have d0 := (hb.cell (p := ⟨b, o + k * 4, none⟩) hlt2).trans c0'
      have d1 := (hb.cell (p := ⟨b, o + k * 4 + 1, none⟩) hlt2).trans c1'
      have d2 := (hb.cell (p := ⟨b, o + k * 4 + 2, none⟩) hlt2).trans c2'
      have d3 := (hb.cell (p := ⟨b, o + k * 4 + 3, none⟩) hlt2).trans c3'
      obtain ⟨⟨x0, x1, x2, x3⟩, -⟩ := hX.has4
      have HY := Lib.hid hy
      clear hc c0' c1' c2' c3' hcell hy
      cases hq : bkEq x.line x.cls x.kind x.gen y.line y.cls y.kind y.gen
      · go_wp2
        go_quiet (fail)
        go_wp2
        go_roundw
        case rel =>
          refine ⟨k + 1, by omega, by go_num, fun j hj => ?_, hX, by (repeat (first | with_reducible exact Below.refl _ _ | with_reducible assumption | with_reducible refine below_drewN ?_ _ | with_reducible refine Below.drew ?_ | with_reducible refine Below.alloc ?_ (by first | omega | (simp; omega) | simp) _ | with_reducible refine Below.setCell ?_ (by first | omega | (simp; omega) | simp) _))⟩
          by_cases hjk : j < k
          · exact HNO.out j hjk
          · obtain rfl : j = k := by omega
            rw [HY.out]
            intro he
            injection he with he
            subst he
            rw [(bkEq_iff y y).2 rfl] at hq
            cases hq
        case measure => simp [intOf]; omega
      · go_wp2
        go_quiet (fail)
        go_wp2
        go_ret
        have hxy := (bkEq_iff x y).1 hq
        have hin : x ∈ bs := by rw [hxy]; exact List.mem_of_getElem? HY.out
        exact ⟨k, by omega, by omega, ⟨fun _ => hin, fun _ => by omega⟩, rfl, by (repeat (first | with_reducible exact Below.refl _ _ | with_reducible assumption | with_reducible refine below_drewN ?_ _ | with_reducible refine Below.drew ?_ | with_reducible refine Below.alloc ?_ (by first | omega | (simp; omega) | simp) _ | with_reducible refine Below.setCell ?_ (by first | omega | (simp; omega) | simp) _))⟩
    · go_wp2
      go_ret
      refine ⟨-1, by omega, by omega, ⟨fun h => by omega, fun h => ?_⟩, rfl, hb⟩
      obtain ⟨j, hj⟩ := List.getElem?_of_mem h
      exact absurd hj (HNO.out j (by have := (List.getElem?_eq_some_iff.1 hj).1; omega))

set_option maxHeartbeats 400000 in
theorem contains_calls (w : World) (bl : Value) (bs : List Bk) (x : Bk) (hR : RdB w bl bs) (hn : bs.length ≤ 1000) :
    Calls Tryd.prog 25 #[bl, .agg #[.int .i64 (Bk.line x), .int .i64 (Bk.cls x), .int .i64 (Bk.kind x), .int .i64 (Bk.gen x)]] w
      fun e w' => e = .returned (.bool (decide (x ∈ bs))) ∧ Below w.heap.size w w' := by
  go_enter Tryd.func25, Tryd.ntmps25
  go_wp2_with fail
  refine (index_calls _ _ bs x ?_ hn).mono ?_
  · refine hR.below ?_
    (repeat (first | with_reducible exact Below.refl _ _ | with_reducible assumption | with_reducible refine below_drewN ?_ _ | with_reducible refine Below.drew ?_ | with_reducible refine Below.alloc ?_ (by first | omega | (simp; omega) | simp) _ | with_reducible refine Below.setCell ?_ (by first | omega | (simp; omega) | simp) _))
  rintro e w1 ⟨r, hr0, hr1, hr, rfl, hb1⟩
  have hb : Below w.heap.size w w1 := Below.trans (by (repeat (first | with_reducible exact Below.refl _ _ | with_reducible assumption | with_reducible refine below_drewN ?_ _ | with_reducible refine Below.drew ?_ | with_reducible refine Below.alloc ?_ (by first | omega | (simp; omega) | simp) _ | with_reducible refine Below.setCell ?_ (by first | omega | (simp; omega) | simp) _))) (hb1.mono (by simp))
  have HR := Lib.hid hr
  clear hr hb1
  by_cases h0 : 0 ≤ r
  · have hd := Lib.hid (decide_eq_true (HR.out.1 h0))
    go_wp2_with fail
    go_ret
    exact ⟨by rw [hd.out]; rfl, hb⟩
  · have hd := Lib.hid (decide_eq_false (fun h => h0 (HR.out.2 h)))
    have h1 : decide (0 ≤ r) = false := decide_eq_false h0
    go_wp2_with fail
    go_ret
    exact ⟨by rw [hd.out]; rfl, hb⟩

end Go.Proofs.YtidiapfmjalaiaaDoor
