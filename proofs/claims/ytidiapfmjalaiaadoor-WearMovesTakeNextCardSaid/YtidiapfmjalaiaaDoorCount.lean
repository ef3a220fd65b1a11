/-
  count: how many blocks of a kind a picture has.
-/
import Derived.Test.YtidiapfmjalaiaaDoorAfterA
import Derived.Test.YtidiapfmjalaiaaDoorTakeLaw
namespace Go.Proofs.YtidiapfmjalaiaaDoor
open Go.RowKit

def CountRel (w : World) (pic : Array Value) (bs : List Bk) (q : Int) (n i : Value) (wr : World) : Prop :=
  ∃ k : Nat, k ≤ bs.length ∧ i = .int .i64 k ∧ n = .int .i64 (countK (bs.take k) q : Int) ∧ Cl wr w.heap.size 27 pic ∧ Below w.heap.size w wr

set_option maxHeartbeats 1000000 in
theorem count_calls (w : World) (ch bl bd : Value) (bs : List Bk) (q : Int) (hR : RdB w bl bs) (hn : bs.length ≤ 1000) :
    Calls Tryd.prog 13 #[.agg #[ch, bl, bd], .int .i64 q] w fun e w' => e = .returned (.int .i64 (countK bs q : Int)) ∧ Below w.heap.size w w' := by
  obtain ⟨A, cp, rfl, hcp, hcell⟩ := hR.at_
  go_enter Tryd.func13, Tryd.ntmps13
  go_wp2
  go_loopw [5, 6] (fun n i wr => CountRel w #[ch, .slice A bs.length cp, bd] bs q n i wr) (fun _ i _ => bs.length - (intOf i).toNat)
  case atStart => exact ⟨0, Nat.zero_le _, rfl, rfl, Cl.new _ _ _, by (repeat (first | with_reducible exact Below.refl _ _ | with_reducible assumption | with_reducible refine below_drewN ?_ _ | with_reducible refine Below.drew ?_ | with_reducible refine Below.alloc ?_ (by first | omega | (simp; omega) | simp) _ | with_reducible refine Below.setCell ?_ (by first | omega | (simp; omega) | simp) _))⟩
  case round =>
    obtain ⟨k, hk, rfl, rfl, hP, hb⟩ := hrel
    have hs1 := hP.lt
    obtain ⟨⟨p0, p1, p2⟩, -⟩ := hP.has3
    by_cases hlt : k < bs.length
    · obtain ⟨b, o, rfl, hlt2, hc⟩ := hcell k hlt
      obtain ⟨x, hx⟩ : ∃ x, bs[k]? = some x := ⟨_, List.getElem?_eq_getElem hlt⟩
      obtain ⟨c0, c1, c2, c3⟩ := hc x hx
      have d2 := (hb.cell (p := ⟨b, o + k * 4 + 2, none⟩) hlt2).trans c2
      have hS := Lib.hid (countK_snoc bs q k x hx)
      have hcl := countK_le (bs.take k) q
      have hln : (bs.take k).length ≤ k := List.length_take_le _ _
      clear hc c0 c1 c2 c3 hcell hx hR
      generalize countK (List.take k bs) q = s at *
      by_cases hq : x.kind = q
      · have b1 : (x.kind == q) = true := by simp [hq]
        have hE := Lib.hid (hS.out.trans (by rw [if_pos hq]))
        clear hS hq
        go_wp2
        go_roundw
        case rel => exact ⟨k + 1, by omega, by go_num, by rw [hE.out]; go_num, hP, hb⟩
        case measure => simp [intOf]; omega
      · have b1 : (x.kind == q) = false := by simp [hq]
        have hE := Lib.hid (hS.out.trans (by rw [if_neg hq, Nat.add_zero]))
        clear hS hq
        go_wp2
        go_roundw
        case rel => exact ⟨k + 1, by omega, by go_num, by rw [hE.out], hP, hb⟩
        case measure => simp [intOf]; omega
    · rw [List.take_of_length_le (by omega)]
      go_wp2
      go_ret
      exact ⟨rfl, hb⟩
end Go.Proofs.YtidiapfmjalaiaaDoor
