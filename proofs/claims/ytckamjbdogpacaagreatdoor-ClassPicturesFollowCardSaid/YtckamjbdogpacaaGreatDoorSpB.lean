/-
  The specification of the code: place, one, Valid, Exists, Syndrome, Encode: they return.
  The specification of the code: Exists, Flip, Syndrome, Encode: they return.
-/
import Derived.Test.YtckamjbdogpacaaGreatDoorGNew
namespace Go.Proofs.YtckamjbdogpacaaGreatDoor
open Go.RowKit
set_option linter.unusedSimpArgs false
set_option linter.unusedVariables false

def PlRel (w : World) (v : Value) (wr : World) : Prop := ∃ j : Nat, 2 ≤ j ∧ j ≤ 9 ∧ v = .int .i64 (j : Int) ∧ w = wr
set_option maxRecDepth 100000 in
set_option maxHeartbeats 1000000 in
theorem place_calls (w : World) (i : Int) (h0 : 0 ≤ i) (h1 : i ≤ 319) : Calls Tryz.prog 106 #[.int .i64 i] w fun e w' => (∃ p, e = .returned (.int .i64 p)) ∧ w = w' := by
  go_enter Tryz.func106, Tryz.ntmps106
  go_wp2_with fail
  go_loopw [3] (fun v wr => PlRel w v wr) (fun v _ => 9 - (intOf v).toNat)
  case atStart => exact ⟨2, by omega, by omega, rfl, rfl⟩
  case round =>
    obtain ⟨j, hj0, hj1, rfl, rfl⟩ := hrel
    have hj : j = 2 ∨ j = 3 ∨ j = 4 ∨ j = 5 ∨ j = 6 ∨ j = 7 ∨ j = 8 ∨ j = 9 := by omega
    rcases hj with rfl | rfl | rfl | rfl | rfl | rfl | rfl | rfl
    all_goals
      go_wp2_with fail
      all_goals
        first
        | (go_ret; exact ⟨⟨_, rfl⟩, rfl⟩)
        | (exfalso; omega)
        | (go_roundw
           case rel => first | exact ⟨3, by omega, by omega, by go_num, rfl⟩ | exact ⟨4, by omega, by omega, by go_num, rfl⟩ | exact ⟨5, by omega, by omega, by go_num, rfl⟩ | exact ⟨6, by omega, by omega, by go_num, rfl⟩ | exact ⟨7, by omega, by omega, by go_num, rfl⟩ | exact ⟨8, by omega, by omega, by go_num, rfl⟩ | exact ⟨9, by omega, by omega, by go_num, rfl⟩
           case measure => simp [intOf])

set_option maxRecDepth 100000 in
set_option maxHeartbeats 1000000 in
theorem one_calls (w : World) (f : Nat → Int) (c : Int) (k b : Nat) (hk : k ≤ 8) (hb : b ≤ 40) : Calls Tryz.prog 105 #[.agg #[.int .i64 (f 0), .int .i64 (f 1), .int .i64 (f 2), .int .i64 (f 3), .int .i64 (f 4), .int .i64 (f 5), .int .i64 (f 6), .int .i64 (f 7)], .int .i64 c, .int .i64 (k : Int), .int .i64 (b : Int)] w fun e w' => (∃ r, e = .returned (.bool r)) ∧ Below w.heap.size w w' := by
  by_cases h8 : k = 8
  · subst h8
    go_enter Tryz.func105, Tryz.ntmps105
    go_wp2_with fail
    go_ret
    exact ⟨⟨_, rfl⟩, by (repeat (first | with_reducible exact Below.refl _ _ | with_reducible assumption | with_reducible refine below_drewN ?_ _ | with_reducible refine Below.drew ?_ | with_reducible refine Below.alloc ?_ (by first | omega | (simp; omega) | simp) _ | with_reducible refine Below.setCell ?_ (by first | omega | (simp; omega) | simp) _))⟩
  · have hk8 : k < 8 := by omega
    have b8 : ((k : Int) == 8) = false := by simp; omega
    have hX := ((Cl.new w 67 #[.int .i64 (f 0), .int .i64 (f 1), .int .i64 (f 2), .int .i64 (f 3), .int .i64 (f 4), .int .i64 (f 5), .int .i64 (f 6), .int .i64 (f 7)]).cell k).trans (w8_get f k hk8)
    have ki1 : (k : Int) < 8 := by omega
    have b0 : (0 : Int) ≤ (b : Int) := by omega
    go_enter Tryz.func105, Tryz.ntmps105
    go_wp2_with fail
    go_ret
    exact ⟨⟨_, rfl⟩, by (repeat (first | with_reducible exact Below.refl _ _ | with_reducible assumption | with_reducible refine below_drewN ?_ _ | with_reducible refine Below.drew ?_ | with_reducible refine Below.alloc ?_ (by first | omega | (simp; omega) | simp) _ | with_reducible refine Below.setCell ?_ (by first | omega | (simp; omega) | simp) _))⟩

def VdPost (w : World) (f : Nat → Int) (e : Ending) (w' : World) : Prop := (∃ b, e = .returned (.bool b) ∧ (b = true → WIn f)) ∧ Below w.heap.size w w'
def VdRel (w : World) (f : Nat → Int) (v : Value) (wr : World) : Prop := ∃ k : Nat, k ≤ 8 ∧ v = .int .i64 (k : Int) ∧ (∀ j, j < k → 0 ≤ f j ∧ f j ≤ 1099511627775) ∧ wr = w
set_option maxRecDepth 100000 in
set_option maxHeartbeats 1000000 in
theorem svalid_calls (w : World) (f : Nat → Int) (c : Int) : Calls Tryz.prog 83 #[.agg #[.int .i64 (f 0), .int .i64 (f 1), .int .i64 (f 2), .int .i64 (f 3), .int .i64 (f 4), .int .i64 (f 5), .int .i64 (f 6), .int .i64 (f 7)], .int .i64 c] w (VdPost w f) := by
  have hX := Cl.new w 67 #[.int .i64 (f 0), .int .i64 (f 1), .int .i64 (f 2), .int .i64 (f 3), .int .i64 (f 4), .int .i64 (f 5), .int .i64 (f 6), .int .i64 (f 7)]
  have hA : Below w.heap.size w (w.alloc (.cells #[.int .i64 (f 0), .int .i64 (f 1), .int .i64 (f 2), .int .i64 (f 3), .int .i64 (f 4), .int .i64 (f 5), .int .i64 (f 6), .int .i64 (f 7)] 67)) := by (repeat (first | with_reducible exact Below.refl _ _ | with_reducible assumption | with_reducible refine below_drewN ?_ _ | with_reducible refine Below.drew ?_ | with_reducible refine Below.alloc ?_ (by first | omega | (simp; omega) | simp) _ | with_reducible refine Below.setCell ?_ (by first | omega | (simp; omega) | simp) _))
  obtain ⟨w0, hw0⟩ : ∃ x, x = w.alloc (.cells #[.int .i64 (f 0), .int .i64 (f 1), .int .i64 (f 2), .int .i64 (f 3), .int .i64 (f 4), .int .i64 (f 5), .int .i64 (f 6), .int .i64 (f 7)] 67) := ⟨_, rfl⟩
  rw [← hw0] at hX hA
  have HW0 := Lib.hid hw0
  have HA := Lib.hid hA
  clear hw0 hA
  go_enter Tryz.func83, Tryz.ntmps83
  go_wp2_with fail
  rw [← HW0.out]
  go_loopw [5] (fun v wr => VdRel w0 f v wr) (fun v _ => 8 - (intOf v).toNat)
  case atStart => exact ⟨0, by omega, rfl, fun j hj => by omega, rfl⟩
  case round =>
    obtain ⟨k, hk, rfl, hall, rfl⟩ := hrel
    have HALL := Lib.hid hall
    clear hall
    by_cases hlt : k < 8
    · have hc := (hX.cell k).trans (w8_get f k hlt)
      have ki1 : (k : Int) < 8 := by omega
      by_cases g0 : f k < 0
      · go_wp2_with fail
        go_ret
        exact ⟨⟨false, rfl, fun h => by cases h⟩, HA.out⟩
      · by_cases g1 : f k > 1099511627775
        · go_wp2_with fail
          go_ret
          exact ⟨⟨false, rfl, fun h => by cases h⟩, HA.out⟩
        · have HN : Hid (∀ j, j < k + 1 → 0 ≤ f j ∧ f j ≤ 1099511627775) := fun j hj => by
            by_cases hjk : j < k
            · exact HALL.out j hjk
            · obtain rfl : j = k := by omega
              omega
          go_wp2_with fail
          go_roundw
          case rel => exact ⟨k + 1, by omega, by go_num, HN.out, rfl⟩
          case measure => simp [intOf]; omega
    · obtain rfl : k = 8 := by omega
      go_wp2_with fail
      all_goals
        go_ret
        exact ⟨⟨_, rfl, fun _ => HALL.out⟩, HA.out⟩
end Go.Proofs.YtckamjbdogpacaaGreatDoor

namespace Go.Proofs.YtckamjbdogpacaaGreatDoor
open Go.RowKit
set_option linter.unusedSimpArgs false
set_option linter.unusedVariables false

set_option maxHeartbeats 1000000 in
theorem sexists_calls (w : World) (a b : Int) : Calls Tryz.prog 117 #[.int .i64 a, .int .i64 b] w fun e w' => e = .returned (.bool (exB a b)) ∧ w = w' := by
  by_cases h1 : 0 ≤ a
  · by_cases h2 : a < 8
    · have h3 : (a == 8) = false := by simp; omega
      by_cases h4 : 0 ≤ b
      · by_cases h5 : b < 40
        · have HR : Hid (exB a b = true) := decide_eq_true (by omega)
          go_enter Tryz.func117, Tryz.ntmps117
          go_wp2
          go_ret
          exact ⟨by rw [HR.out]; rfl, rfl⟩
        · have HR : Hid (exB a b = false) := decide_eq_false (by omega)
          go_enter Tryz.func117, Tryz.ntmps117
          go_wp2
          go_ret
          exact ⟨by rw [HR.out]; rfl, rfl⟩
      · have HR : Hid (exB a b = false) := decide_eq_false (by omega)
        go_enter Tryz.func117, Tryz.ntmps117
        go_wp2
        go_ret
        exact ⟨by rw [HR.out]; rfl, rfl⟩
    · by_cases h3 : a = 8
      · have b3 : (a == 8) = true := by simp [h3]
        by_cases h4 : 0 ≤ b
        · by_cases h5 : b < 10
          · have HR : Hid (exB a b = true) := decide_eq_true (by omega)
            have b5 : decide (b ≤ 9) = true := decide_eq_true (by omega)
            clear h3
            go_enter Tryz.func117, Tryz.ntmps117
            go_wp2
            go_ret
            exact ⟨by rw [HR.out, ← b5]; rfl, rfl⟩
          · have HR : Hid (exB a b = false) := decide_eq_false (by omega)
            have b5 : decide (b ≤ 9) = false := decide_eq_false (by omega)
            clear h3
            go_enter Tryz.func117, Tryz.ntmps117
            go_wp2
            go_ret
            exact ⟨by rw [HR.out, ← b5]; rfl, rfl⟩
        · have HR : Hid (exB a b = false) := decide_eq_false (by omega)
          clear h3
          go_enter Tryz.func117, Tryz.ntmps117
          go_wp2
          go_ret
          exact ⟨by rw [HR.out]; rfl, rfl⟩
      · have b3 : (a == 8) = false := by simp [h3]
        have HR : Hid (exB a b = false) := decide_eq_false (by omega)
        clear h3
        go_enter Tryz.func117, Tryz.ntmps117
        go_wp2
        go_ret
        exact ⟨by rw [HR.out]; rfl, rfl⟩
  · have b3 : (a == 8) = false := by simp; omega
    have HR : Hid (exB a b = false) := decide_eq_false (by omega)
    go_enter Tryz.func117, Tryz.ntmps117
    go_wp2
    go_ret
    exact ⟨by rw [HR.out]; rfl, rfl⟩

def FlPost (w : World) (e : Ending) (w' : World) : Prop := (∃ (g : Nat → Int) (c : Int), e = .returned (.tuple #[.agg #[.int .i64 (g 0), .int .i64 (g 1), .int .i64 (g 2), .int .i64 (g 3), .int .i64 (g 4), .int .i64 (g 5), .int .i64 (g 6), .int .i64 (g 7)], .int .i64 c])) ∧ Below w.heap.size w w'

def SyRel (w : World) (s n v : Value) (wr : World) : Prop := ∃ (k : Nat) (s' n' : Int), k ≤ 8 ∧ v = .int .i64 (k : Int) ∧ s = .int .i64 s' ∧ n = .int .i64 n' ∧ Below w.heap.size w wr
def SyRel2 (w : World) (s n v : Value) (wr : World) : Prop := ∃ (k : Nat) (s' n' : Int), k ≤ 40 ∧ v = .int .i64 (k : Int) ∧ s = .int .i64 s' ∧ n = .int .i64 n' ∧ Below w.heap.size w wr
def SyRel3 (w : World) (s n v : Value) (wr : World) : Prop := ∃ (k : Nat) (s' n' : Int), k ≤ 10 ∧ v = .int .i64 (k : Int) ∧ s = .int .i64 s' ∧ n = .int .i64 n' ∧ Below w.heap.size w wr
def SyPost (w : World) (e : Ending) (w' : World) : Prop := (∃ s p : Int, e = .returned (.tuple #[.int .i64 s, .int .i64 p])) ∧ Below w.heap.size w w'

set_option maxRecDepth 100000 in
set_option maxHeartbeats 2000000 in
theorem syndrome_calls (w : World) (f : Nat → Int) (c : Int) (hW : WIn f) : Calls Tryz.prog 84 #[.agg #[.int .i64 (f 0), .int .i64 (f 1), .int .i64 (f 2), .int .i64 (f 3), .int .i64 (f 4), .int .i64 (f 5), .int .i64 (f 6), .int .i64 (f 7)], .int .i64 c] w (SyPost w) := by
  have hX := Cl.new w 67 #[.int .i64 (f 0), .int .i64 (f 1), .int .i64 (f 2), .int .i64 (f 3), .int .i64 (f 4), .int .i64 (f 5), .int .i64 (f 6), .int .i64 (f 7)]
  have hA : Below w.heap.size w (w.alloc (.cells #[.int .i64 (f 0), .int .i64 (f 1), .int .i64 (f 2), .int .i64 (f 3), .int .i64 (f 4), .int .i64 (f 5), .int .i64 (f 6), .int .i64 (f 7)] 67)) := by (repeat (first | with_reducible exact Below.refl _ _ | with_reducible assumption | with_reducible refine below_drewN ?_ _ | with_reducible refine Below.drew ?_ | with_reducible refine Below.alloc ?_ (by first | omega | (simp; omega) | simp) _ | with_reducible refine Below.setCell ?_ (by first | omega | (simp; omega) | simp) _))
  obtain ⟨w0, hw0⟩ : ∃ x, x = w.alloc (.cells #[.int .i64 (f 0), .int .i64 (f 1), .int .i64 (f 2), .int .i64 (f 3), .int .i64 (f 4), .int .i64 (f 5), .int .i64 (f 6), .int .i64 (f 7)] 67) := ⟨_, rfl⟩
  rw [← hw0] at hX hA
  have HW0 := Lib.hid hw0
  have HA := Lib.hid hA
  have HX := Lib.hid hX
  have HW := Lib.hid hW
  clear hw0 hA hX hW
  go_enter Tryz.func84, Tryz.ntmps84
  go_wp2_with fail
  rw [← HW0.out]
  go_loopw [6, 7, 8, 9, 10] (fun s n v _ _ wr => SyRel w0 s n v wr) (fun _ _ v _ _ _ => 8 - (intOf v).toNat)
  case atStart => exact ⟨0, 0, 0, by omega, rfl, rfl, rfl, Below.refl _ _⟩
  case round =>
    obtain ⟨k, s', n', hk, rfl, rfl, rfl, hb⟩ := hrel
    by_cases hlt : k < 8
    · have ki1 : (k : Int) < 8 := by omega
      go_wp2_with fail
      go_loopw [6, 7, 9, 10] (fun s n v _ wr => SyRel2 w0 s n v wr) (fun _ _ v _ _ => 40 - (intOf v).toNat)
      case atStart => exact ⟨0, s', n', by omega, rfl, rfl, rfl, hb⟩
      case round =>
        clear hb
        obtain ⟨b, s2, n2, hb40, rfl, rfl, rfl, hb⟩ := hrel
        have hXr := HX.out.below hb HX.out.lt
        have hc := (hXr.cell k).trans (w8_get f k hlt)
        have b0 : (0 : Int) ≤ (b : Int) := by omega
        obtain ⟨x0, x1, x2, x3, x4, x5, x6, x7⟩ := hXr.has8'
        by_cases hb39 : b < 40
        · have HB := Lib.hid hb
          clear hb
          go_wp2_with fail
          · refine (one_calls _ f c k b (by omega) (by omega)).mono ?_
            rintro e w1 ⟨⟨r, rfl⟩, hb1⟩
            have HB1 := Lib.hid (HB.out.trans (hb1.mono HB.out.size))
            clear x0 x1 x2 x3 x4 x5 x6 x7 hc hXr hb1
            cases r with
            | false =>
              go_wp2_with fail
              go_roundw
              case rel => exact ⟨b + 1, _, _, by omega, by go_num, rfl, rfl, HB1.out⟩
              case measure => simp [intOf]; omega
            | true =>
              go_wp2_with fail
              refine (place_calls _ (40 * (k : Int) + (b : Int)) (by omega) (by omega)).mono ?_
              rintro e w2 ⟨⟨p, rfl⟩, rfl⟩
              go_wp2_with fail
              go_roundw
              case rel => exact ⟨b + 1, _, _, by omega, by go_num, rfl, rfl, HB1.out⟩
              case measure => simp [intOf]; omega
          · exact ⟨⟨k + 1, s2, n2, by omega, by go_num, rfl, rfl, HB.out⟩, by simp [intOf]; omega⟩
        · obtain rfl : b = 40 := by omega
          have hz : f k / 2 ^ 40 ≤ 0 := by
            have h := HW.out k hlt
            have e : (2 : Int) ^ 40 = 1099511627776 := by decide
            rw [e]
            omega
          have HB := Lib.hid hb
          clear hb
          go_wp2_with fail
          all_goals
            first
            | exact ⟨⟨k + 1, s2, n2, by omega, by go_num, rfl, rfl, HB.out⟩, by simp [intOf]; omega⟩
            | (exfalso; omega)
    · have hk8 : ¬ (k : Int) < 8 := by omega
      have HB := Lib.hid hb
      clear hb
      go_wp2_with fail
      go_loopw [6, 7, 11, 12] (fun s n v _ wr => SyRel3 w0 s n v wr) (fun _ _ v _ _ => 10 - (intOf v).toNat)
      case atStart => exact ⟨0, s', n', by omega, rfl, rfl, rfl, HB.out⟩
      case round =>
        clear HB
        obtain ⟨b, s2, n2, hb10, rfl, rfl, rfl, hb⟩ := hrel
        have hXr := HX.out.below hb HX.out.lt
        obtain ⟨x0, x1, x2, x3, x4, x5, x6, x7⟩ := hXr.has8'
        have HB := Lib.hid hb
        clear hb
        by_cases hb9 : b < 10
        · go_wp2_with fail
          refine (one_calls _ f c 8 b (by omega) (by omega)).mono ?_
          rintro e w1 ⟨⟨r, rfl⟩, hb1⟩
          have HB1 := Lib.hid (HB.out.trans (hb1.mono HB.out.size))
          clear x0 x1 x2 x3 x4 x5 x6 x7 hXr hb1
          have b0 : (0 : Int) ≤ (b : Int) := by omega
          cases r with
          | false =>
            go_wp2_with fail
            go_roundw
            case rel => exact ⟨b + 1, _, _, by omega, by go_num, rfl, rfl, HB1.out⟩
            case measure => simp [intOf]; omega
          | true =>
            go_wp2_with fail
            all_goals
              go_roundw
              case rel => exact ⟨b + 1, _, _, by omega, by go_num, rfl, rfl, HB1.out⟩
              case measure => simp [intOf]; omega
        · have hb8 : ¬ (b : Int) < 10 := by omega
          go_wp2_with fail
          go_ret2
          exact ⟨⟨_, _, rfl⟩, HA.out.trans (HB.out.mono HA.out.size)⟩

def EncPost (w : World) (e : Ending) (w' : World) : Prop := (∃ c : Int, e = .returned (.int .i64 c)) ∧ Below w.heap.size w w'
set_option maxRecDepth 100000 in
set_option maxHeartbeats 1000000 in
theorem sencode_calls (w : World) (f : Nat → Int) : Calls Tryz.prog 52 #[.agg #[.int .i64 (f 0), .int .i64 (f 1), .int .i64 (f 2), .int .i64 (f 3), .int .i64 (f 4), .int .i64 (f 5), .int .i64 (f 6), .int .i64 (f 7)]] w (EncPost w) := by
  have hX := Cl.new w 67 #[.int .i64 (f 0), .int .i64 (f 1), .int .i64 (f 2), .int .i64 (f 3), .int .i64 (f 4), .int .i64 (f 5), .int .i64 (f 6), .int .i64 (f 7)]
  have hA : Below w.heap.size w (w.alloc (.cells #[.int .i64 (f 0), .int .i64 (f 1), .int .i64 (f 2), .int .i64 (f 3), .int .i64 (f 4), .int .i64 (f 5), .int .i64 (f 6), .int .i64 (f 7)] 67)) := by (repeat (first | with_reducible exact Below.refl _ _ | with_reducible assumption | with_reducible refine below_drewN ?_ _ | with_reducible refine Below.drew ?_ | with_reducible refine Below.alloc ?_ (by first | omega | (simp; omega) | simp) _ | with_reducible refine Below.setCell ?_ (by first | omega | (simp; omega) | simp) _))
  obtain ⟨w0, hw0⟩ : ∃ x, x = w.alloc (.cells #[.int .i64 (f 0), .int .i64 (f 1), .int .i64 (f 2), .int .i64 (f 3), .int .i64 (f 4), .int .i64 (f 5), .int .i64 (f 6), .int .i64 (f 7)] 67) := ⟨_, rfl⟩
  rw [← hw0] at hX hA
  have HW0 := Lib.hid hw0
  have HA := Lib.hid hA
  have HX := Lib.hid hX
  have h0 := hX.lt
  obtain ⟨x0, x1, x2, x3, x4, x5, x6, x7⟩ := hX.has8'
  clear hw0 hA hX
  go_enter Tryz.func52, Tryz.ntmps52
  go_wp2_with fail
  rw [← HW0.out]
  refine (svalid_calls _ f 0).mono ?_
  rintro e w1 ⟨⟨b, rfl, hW⟩, hb1⟩
  have HB1 := Lib.hid hb1
  cases b with
  | false =>
    clear x0 x1 x2 x3 x4 x5 x6 x7 hW hb1
    go_wp2_with fail
    go_ret
    exact ⟨⟨_, rfl⟩, HA.out.trans (HB1.out.mono HA.out.size)⟩
  | true =>
    have HW := Lib.hid (hW rfl)
    have hX1 := HX.out.below hb1 h0
    have h1 := hX1.lt
    obtain ⟨y0, y1, y2, y3, y4, y5, y6, y7⟩ := hX1.has8'
    clear x0 x1 x2 x3 x4 x5 x6 x7 hW hb1 hX1
    go_wp2_with fail
    refine (syndrome_calls _ f 0 HW.out).mono ?_
    rintro e w2 ⟨⟨s, p, rfl⟩, hb2⟩
    have HB2 := Lib.hid (HB1.out.trans (hb2.mono HB1.out.size))
    have hX2 := HX.out.below HB2.out h0
    have h2 := hX2.lt
    obtain ⟨z0, z1, z2, z3, z4, z5, z6, z7⟩ := hX2.has8'
    clear y0 y1 y2 y3 y4 y5 y6 y7 hb2 hX2
    go_wp2_with fail
    refine (syndrome_calls _ f s HW.out).mono ?_
    rintro e w3 ⟨⟨s2, p2, rfl⟩, hb3⟩
    have HB3 := Lib.hid (HB2.out.trans (hb3.mono HB2.out.size))
    clear z0 z1 z2 z3 z4 z5 z6 z7 hb3
    go_wp2_with fail
    go_ret
    exact ⟨⟨_, rfl⟩, HA.out.trans (HB3.out.mono HA.out.size)⟩
end Go.Proofs.YtckamjbdogpacaaGreatDoor
