/-
  SameInts, SameBlocks, Same: two lists, or two pictures, are equal.
-/
import Derived.Test.YtcoeoggoaiebeaaDoorAppend
namespace Go.Proofs.YtcoeoggoaiebeaaDoor
open Go.RowKit

theorem list_eq_of {α : Type} {xs ys : List α} (hl : xs.length = ys.length) (h : ∀ j, j < xs.length → xs[j]? = ys[j]?) : xs = ys := by
  apply List.ext_getElem?
  intro i
  by_cases hi : i < xs.length
  · exact h i hi
  · rw [List.getElem?_eq_none (by omega), List.getElem?_eq_none (by omega)]

set_option maxHeartbeats 1000000 in
theorem sameInts_calls (w : World) (a b : Value) (xs ys : List Int) (hX : RdI w a xs) (hY : RdI w b ys) (hn : xs.length ≤ 100000) (_hm : ys.length ≤ 100000) :
    Calls Tryd.prog 14 #[a, b] w fun e w' => e = .returned (.bool (decide (xs = ys))) ∧ Below w.heap.size w w' := by
  obtain ⟨A, ca, rfl, _, hA⟩ := hX.at_
  obtain ⟨B, cb, rfl, _, hB⟩ := hY.at_
  by_cases hl : xs.length = ys.length
  · have b1 : ((xs.length : Int) != (ys.length : Int)) = false := by simp [hl]
    have HL := Lib.hid hl
    have hl1 : xs.length ≤ ys.length := by omega
    have hl2 : ys.length ≤ xs.length := by omega
    clear hl
    go_enter Tryd.func14, Tryd.ntmps14
    go_wp2
    go_loopw [5] (fun i wr => ∃ k : Nat, k ≤ xs.length ∧ i = .int .i64 k ∧ (∀ j, j < k → xs[j]? = ys[j]?) ∧ Below w.heap.size w wr) (fun i _ => xs.length - (intOf i).toNat)
    case atStart => exact ⟨0, Nat.zero_le _, rfl, by omega, Below.refl _ _⟩
    case round =>
      obtain ⟨k, hk, rfl, hno, hb⟩ := hrel
      have HNO := Lib.hid hno
      clear hno
      by_cases hlt : k < xs.length
      · obtain ⟨ba, oa, rfl, hla, hca⟩ := hA k hlt
        obtain ⟨bb, ob, rfl, hlb, hcb⟩ := hB k (by omega)
        obtain ⟨x, hx⟩ : ∃ x, xs[k]? = some x := ⟨_, List.getElem?_eq_getElem hlt⟩
        obtain ⟨y, hy⟩ : ∃ y, ys[k]? = some y := ⟨_, List.getElem?_eq_getElem (by omega)⟩
        have d0 := (hb.cell (p := ⟨ba, oa + k, none⟩) hla).trans (hca x hx)
        have e0 := (hb.cell (p := ⟨bb, ob + k, none⟩) hlb).trans (hcb y hy)
        have hlt' : k < ys.length := by omega
        have HX := Lib.hid hx
        have HY := Lib.hid hy
        clear hca hcb hA hB hx hy
        by_cases hxy : x = y
        · have b2 : (x != y) = false := by simp [hxy]
          have HXY := Lib.hid hxy
          clear hxy
          go_wp2
          go_quiet (fail)
          go_wp2
          go_roundw
          case rel =>
            refine ⟨k + 1, by omega, by go_num, fun j hj => ?_, by (repeat (first | with_reducible exact Below.refl _ _ | with_reducible assumption | with_reducible refine below_drewN ?_ _ | with_reducible refine Below.drew ?_ | with_reducible refine Below.alloc ?_ (by first | omega | (simp; omega) | simp) _ | with_reducible refine Below.setCell ?_ (by first | omega | (simp; omega) | simp) _))⟩
            by_cases hjk : j < k
            · exact HNO.out j hjk
            · obtain rfl : j = k := by omega
              rw [HX.out, HY.out, HXY.out]
          case measure => simp [intOf]; omega
        · have b2 : (x != y) = true := by simp [hxy]
          have HD : Hid (decide (xs = ys) = false) := by
            apply decide_eq_false
            intro h
            have := HX.out
            rw [h, HY.out] at this
            injection this with this
            exact hxy this.symm
          clear hxy
          go_wp2
          go_quiet (fail)
          go_wp2
          go_ret
          exact ⟨by rw [HD.out]; rfl, by (repeat (first | with_reducible exact Below.refl _ _ | with_reducible assumption | with_reducible refine below_drewN ?_ _ | with_reducible refine Below.drew ?_ | with_reducible refine Below.alloc ?_ (by first | omega | (simp; omega) | simp) _ | with_reducible refine Below.setCell ?_ (by first | omega | (simp; omega) | simp) _))⟩
      · have HD : Hid (decide (xs = ys) = true) := decide_eq_true (list_eq_of HL.out (fun j hj => HNO.out j (by omega)))
        go_wp2
        go_ret
        exact ⟨by rw [HD.out]; rfl, hb⟩
  · have b1 : ((xs.length : Int) != (ys.length : Int)) = true := by simp; omega
    have HD : Hid (decide (xs = ys) = false) := decide_eq_false (fun h => hl (by rw [h]))
    clear hl
    go_enter Tryd.func14, Tryd.ntmps14
    go_wp2
    go_ret
    exact ⟨by rw [HD.out]; rfl, Below.refl _ _⟩

set_option maxHeartbeats 1000000 in
theorem sameBlocks_calls (w : World) (a b : Value) (xs ys : List Bk) (hX : RdB w a xs) (hY : RdB w b ys) (hn : xs.length ≤ 100000) (_hm : ys.length ≤ 100000) :
    Calls Tryd.prog 23 #[a, b] w fun e w' => e = .returned (.bool (decide (xs = ys))) ∧ Below w.heap.size w w' := by
  obtain ⟨A, ca, rfl, _, hA⟩ := hX.at_
  obtain ⟨B, cb, rfl, _, hB⟩ := hY.at_
  by_cases hl : xs.length = ys.length
  · have b1 : ((xs.length : Int) != (ys.length : Int)) = false := by simp [hl]
    have HL := Lib.hid hl
    have hl1 : xs.length ≤ ys.length := by omega
    have hl2 : ys.length ≤ xs.length := by omega
    clear hl
    go_enter Tryd.func23, Tryd.ntmps23
    go_wp2
    go_loopw [5] (fun i wr => ∃ k : Nat, k ≤ xs.length ∧ i = .int .i64 k ∧ (∀ j, j < k → xs[j]? = ys[j]?) ∧ Below w.heap.size w wr) (fun i _ => xs.length - (intOf i).toNat)
    case atStart => exact ⟨0, Nat.zero_le _, rfl, by omega, Below.refl _ _⟩
    case round =>
      obtain ⟨k, hk, rfl, hno, hb⟩ := hrel
      have HNO := Lib.hid hno
      clear hno
      by_cases hlt : k < xs.length
      · obtain ⟨ba, oa, rfl, hla, hca⟩ := hA k hlt
        obtain ⟨bb, ob, rfl, hlb, hcb⟩ := hB k (by omega)
        obtain ⟨x, hx⟩ : ∃ x, xs[k]? = some x := ⟨_, List.getElem?_eq_getElem hlt⟩
        obtain ⟨y, hy⟩ : ∃ y, ys[k]? = some y := ⟨_, List.getElem?_eq_getElem (by omega)⟩
        obtain ⟨c0, c1, c2, c3⟩ := hca x hx
        obtain ⟨f0, f1, f2, f3⟩ := hcb y hy
        have d0 := (hb.cell (p := ⟨ba, oa + k * 4, none⟩) hla).trans c0
        have d1 := (hb.cell (p := ⟨ba, oa + k * 4 + 1, none⟩) hla).trans c1
        have d2 := (hb.cell (p := ⟨ba, oa + k * 4 + 2, none⟩) hla).trans c2
        have d3 := (hb.cell (p := ⟨ba, oa + k * 4 + 3, none⟩) hla).trans c3
        have e0 := (hb.cell (p := ⟨bb, ob + k * 4, none⟩) hlb).trans f0
        have e1 := (hb.cell (p := ⟨bb, ob + k * 4 + 1, none⟩) hlb).trans f1
        have e2 := (hb.cell (p := ⟨bb, ob + k * 4 + 2, none⟩) hlb).trans f2
        have e3 := (hb.cell (p := ⟨bb, ob + k * 4 + 3, none⟩) hlb).trans f3
        have hlt' : k < ys.length := by omega
        have HX := Lib.hid hx
        have HY := Lib.hid hy
        clear hca hcb hA hB hx hy c0 c1 c2 c3 f0 f1 f2 f3
        cases hq : bkEq x.line x.cls x.kind x.gen y.line y.cls y.kind y.gen
        · have HD : Hid (decide (xs = ys) = false) := by
            apply decide_eq_false
            intro h
            have := HX.out
            rw [h, HY.out] at this
            injection this with this
            rw [(bkEq_iff x y).2 this.symm] at hq
            cases hq
          go_wp2
          go_quiet (fail)
          go_wp2
          go_ret
          exact ⟨by rw [HD.out]; rfl, by (repeat (first | with_reducible exact Below.refl _ _ | with_reducible assumption | with_reducible refine below_drewN ?_ _ | with_reducible refine Below.drew ?_ | with_reducible refine Below.alloc ?_ (by first | omega | (simp; omega) | simp) _ | with_reducible refine Below.setCell ?_ (by first | omega | (simp; omega) | simp) _))⟩
        · have HXY := Lib.hid ((bkEq_iff x y).1 hq)
          go_wp2
          go_quiet (fail)
          go_wp2
          go_roundw
          case rel =>
            refine ⟨k + 1, by omega, by go_num, fun j hj => ?_, by (repeat (first | with_reducible exact Below.refl _ _ | with_reducible assumption | with_reducible refine below_drewN ?_ _ | with_reducible refine Below.drew ?_ | with_reducible refine Below.alloc ?_ (by first | omega | (simp; omega) | simp) _ | with_reducible refine Below.setCell ?_ (by first | omega | (simp; omega) | simp) _))⟩
            by_cases hjk : j < k
            · exact HNO.out j hjk
            · obtain rfl : j = k := by omega
              rw [HX.out, HY.out, HXY.out]
          case measure => simp [intOf]; omega
      · have HD : Hid (decide (xs = ys) = true) := decide_eq_true (list_eq_of HL.out (fun j hj => HNO.out j (by omega)))
        go_wp2
        go_ret
        exact ⟨by rw [HD.out]; rfl, hb⟩
  · have b1 : ((xs.length : Int) != (ys.length : Int)) = true := by simp; omega
    have HD : Hid (decide (xs = ys) = false) := decide_eq_false (fun h => hl (by rw [h]))
    clear hl
    go_enter Tryd.func23, Tryd.ntmps23
    go_wp2
    go_ret
    exact ⟨by rw [HD.out]; rfl, Below.refl _ _⟩

end Go.Proofs.YtcoeoggoaiebeaaDoor
