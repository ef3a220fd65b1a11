/-
  wear.Use.
-/
import Derived.Test.YtidiapfmjalaiaaDoorWords
namespace Go.Proofs.YtidiapfmjalaiaaDoor
open Go.RowKit

set_option maxHeartbeats 400000 in
theorem use_calls (w : World) (ch bl bd : Value) (bs : List Bk) (c : Int) (hR : RdB w bl bs) (hn : bs.length ≤ 1000) :
    Calls Tryd.prog 16 #[.agg #[ch, bl, bd], .int .i64 c] w fun e w' => e = .returned (.tuple #[.int .i64 (useOf bs c).1, .int .i64 (useOf bs c).2.1, .int .i64 (useOf bs c).2.2]) ∧ Below w.heap.size w w' := by
  obtain ⟨A, cp, rfl, hcp, hcell⟩ := hR.at_
  go_enter Tryd.func16, Tryd.ntmps16
  go_wp2
  go_loopw [4, 5, 6, 12] (fun l m n i wr => ∃ k : Nat, k ≤ bs.length ∧ i = .int .i64 k ∧ l = .int .i64 (useOf (bs.take k) c).1 ∧ m = .int .i64 (useOf (bs.take k) c).2.1 ∧ n = .int .i64 (useOf (bs.take k) c).2.2 ∧ Below w.heap.size w wr)
    (fun _ _ _ i _ => bs.length - (intOf i).toNat)
  case atStart => exact ⟨0, Nat.zero_le _, rfl, rfl, rfl, rfl, (Below.refl _ _).alloc (Nat.le_refl _) _⟩
  case round =>
    obtain ⟨k, hk, rfl, rfl, rfl, rfl, hb⟩ := hrel
    by_cases hlt : k < bs.length
    · obtain ⟨b, o, rfl, hlt2, hc⟩ := hcell k hlt
      obtain ⟨x, hx⟩ : ∃ x, bs[k]? = some x := ⟨_, List.getElem?_eq_getElem hlt⟩
      obtain ⟨c0, c1, c2, c3⟩ := hc x hx
      have d0 := (hb.cell (p := ⟨b, o + k * 4, none⟩) hlt2).trans c0
      have d1 := (hb.cell (p := ⟨b, o + k * 4 + 1, none⟩) hlt2).trans c1
      have d2 := (hb.cell (p := ⟨b, o + k * 4 + 2, none⟩) hlt2).trans c2
      have d3 := (hb.cell (p := ⟨b, o + k * 4 + 3, none⟩) hlt2).trans c3
      have hS := Lib.hid (useOf_snoc bs c k x hx)
      obtain ⟨hc0, hc1⟩ := useOf_count (bs.take k) c
      have hln : (bs.take k).length ≤ k := List.length_take_le _ _
      have hsz := hb.size
      clear hc c0 c1 c2 c3 hcell hx hR
      generalize useOf (List.take k bs) c = s at *
      go_wp2
      · go_roundw
        case rel => exact ⟨k + 1, by omega, by go_num, by rw [hS.out]; simp_all [useStep], by rw [hS.out]; simp_all [useStep], by rw [hS.out]; simp_all [useStep], (hb.alloc (by omega) _)⟩
        case measure => simp [intOf]; omega
      all_goals
        go_quiet (fail)
        go_wp2
        go_roundw
        case rel =>
          refine ⟨k + 1, by omega, by go_num, ?_, ?_, ?_, below_drewN (hb.alloc (by omega) _) _⟩
          all_goals
            rw [hS.out]
            simp_all only [useStep, ne_eq, beq_iff_eq, bne_eq_false_iff_eq, beq_eq_false_iff_ne, if_true, if_false]
            all_goals first | rfl | (apply congrArg; omega)
        case measure => simp [intOf]; omega
    · go_wp2
      go_ret3
      rw [List.take_of_length_le (by omega)]
      exact ⟨rfl, hb⟩
end Go.Proofs.YtidiapfmjalaiaaDoor
