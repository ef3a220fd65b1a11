/-
  math/bits: TrailingZeros and OnesCount of any number: each answers a function of the number.
  The code of any line of words, at any table: valid, sum, Encode, exists, Flip.
-/
import Derived.Test.YtckamjbdogpacaaGreatDoorCode
import Derived.Lib.TrailingZeros
import Derived.Laws.Bits64b
import Derived.Deep.RegionHeld3
import Derived.Deep.DeepCutAuto
namespace Go.Proofs.YtckamjbdogpacaaGreatDoor
open Go.RowKit
set_option linter.unusedSimpArgs false
set_option linter.unusedVariables false

/-- The table of math/bits, as the program lays it. -/
def Db (w : World) : Prop := ∀ j, j < 64 → w.cell? ⟨4, j, none⟩ = some (.int .u8 ((Lib.deBruijn64tab.getD j 0 : Nat) : Int))
theorem Db.lt {w : World} (h : Db w) : 4 < w.heap.size := World.block_lt_of_cell? w _ (h 0 (by omega))
theorem Db.below {w w' : World} (h : Db w) (hb : Below w.heap.size w w') : Db w' := fun k hk => (hb.cell (p := ⟨4, k, none⟩) h.lt).trans (h k hk)

theorem bits_and127 (y : Int) : 0 ≤ bits .and .i64 y 127 ∧ bits .and .i64 y 127 ≤ 127 := by
  have h : ((BitVec.ofInt 64 y &&& BitVec.ofInt 64 127).toNat) ≤ 127 := by
    rw [BitVec.toNat_and]
    exact Nat.and_le_right
  show 0 ≤ IntKind.i64.wrap ((BitVec.ofInt 64 y &&& BitVec.ofInt 64 127).toNat : Nat) ∧ IntKind.i64.wrap ((BitVec.ofInt 64 y &&& BitVec.ofInt 64 127).toNat : Nat) ≤ 127
  rw [IntWalk.i64_in _ (by omega)]
  omega

set_option maxHeartbeats 1000000 in
theorem ones64_det (x : Int) : ∃ r : Int, (0 ≤ r ∧ r ≤ 127) ∧ ∀ w : World, Calls Tryz.prog 102 #[.int .u64 x] w fun e w' => e = .returned (.int .i64 r) ∧ w = w' := by
  apply Exists.intro
  apply And.intro
  rotate_left
  intro w
  go_enter Tryz.func102, Tryz.ntmps102
  go_wp2
  go_ret
  exact ⟨rfl, rfl⟩
  · exact bits_and127 _
theorem ones_calls0 (w : World) (x r : Int) (h : ∀ w : World, Calls Tryz.prog 102 #[.int .u64 x] w fun e w' => e = .returned (.int .i64 r) ∧ w = w') : Calls Tryz.prog 77 #[.int .u64 x] w fun e w' => e = .returned (.int .i64 r) ∧ w = w' := by
  go_enter Tryz.func77, Tryz.ntmps77
  go_wp2_with fail
  refine (h _).mono ?_
  rintro e w1 ⟨rfl, rfl⟩
  go_wp2_with fail
  go_ret
  exact ⟨rfl, rfl⟩
/-- 'oF' is what OnesCount answers. -/
def OnesOk (oF : Int → Int) : Prop := (∀ x, 0 ≤ oF x ∧ oF x ≤ 127) ∧ ∀ (w : World) (x : Int), Calls Tryz.prog 77 #[.int .u64 x] w fun e w' => e = .returned (.int .i64 (oF x)) ∧ w = w'
theorem ones_ok : ∃ oF, OnesOk oF := by
  obtain ⟨oF, h⟩ := Classical.axiomOfChoice ones64_det
  exact ⟨oF, fun x => (h x).1, fun w x => ones_calls0 w x (oF x) (h x).2⟩

theorem tz_key (x a : Nat) (hx : x < 18446744073709551616) (hx0 : x ≠ 0) (hlow : x &&& (18446744073709551616 - x) = a) :
    IntKind.u64.wrap (bits BinOp.and IntKind.u64 (x : Int) (IntKind.u64.wrap (-(x : Int))) * 285870213051353865) / 288230376151711744 = ((a * 285870213051353865 % 18446744073709551616 / 288230376151711744 : Nat) : Int) := by
  have e1 : IntKind.u64.wrap (-(x : Int)) = ((18446744073709551616 - x : Nat) : Int) := by rw [IntKind.wrap_u64]; omega
  rw [e1, bits_and_u64_nat x _ hx (by omega), hlow, IntKind.wrap_u64]
  omega
set_option maxHeartbeats 1000000 in
theorem tz64_core (x k idx : Nat) (w : World) (hx0 : ((x : Int) == 0) = false)
    (key : IntKind.u64.wrap (bits BinOp.and IntKind.u64 (x : Int) (IntKind.u64.wrap (-(x : Int))) * 285870213051353865) / 288230376151711744 = (idx : Int))
    (hi : idx < 64) (hk : k < 64) (hcell : w.cell? ⟨4, idx, none⟩ = some (.int .u8 k)) :
    Calls Tryz.prog 111 #[.int .u64 x] w fun e w' => e = .returned (.int .i64 k) ∧ w = w' := by
  go_enter Tryz.func111, Tryz.ntmps111
  go_wp2_with (simp only [key])
  go_ret
  exact ⟨rfl, rfl⟩
theorem tz64_calls (w : World) (x : Nat) (hx : x < 18446744073709551616) (hx0 : x ≠ 0) (hT : Db w) : Calls Tryz.prog 111 #[.int .u64 x] w fun e w' => e = .returned (.int .i64 (Lib.ctz 64 x : Nat)) ∧ w = w' := by
  obtain ⟨hlow, hk⟩ := Lib.lowest_bit 64 x hx0 hx
  obtain ⟨hi, htab⟩ := Lib.deBruijn64_at _ hk
  have hcell := hT _ hi
  rw [htab] at hcell
  exact tz64_core x _ _ w (by simp; omega) (tz_key x _ hx hx0 hlow) hi hk hcell
theorem tz_calls (w : World) (x : Nat) (hx : x < 18446744073709551616) (hx0 : x ≠ 0) (hT : Db w) : Calls Tryz.prog 100 #[.int .u64 x] w fun e w' => e = .returned (.int .i64 (Lib.ctz 64 x : Nat)) ∧ w = w' := by
  have hw : IntKind.u64.wrap (x : Int) = (x : Int) := by rw [IntKind.wrap_u64]; omega
  go_enter Tryz.func100, Tryz.ntmps100
  go_wp2_with fail
  refine (tz64_calls _ x hx hx0 hT).mono ?_
  rintro e w1 ⟨rfl, rfl⟩
  go_wp2_with fail
  go_ret
  exact ⟨rfl, rfl⟩
/-- The lowest set bit of a word lies in the word. -/
theorem ctz_40 (x : Nat) (h0 : x ≠ 0) (h : x < 1099511627776) : Lib.ctz 64 x < 40 := by
  obtain ⟨hlow, hk⟩ := Lib.lowest_bit 64 x h0 (by omega)
  have h1 : x &&& (2 ^ 64 - x) ≤ x := Nat.and_le_left
  rw [hlow] at h1
  rcases Nat.lt_or_ge (Lib.ctz 64 x) 40 with h2 | h2
  · exact h2
  · have h3 : 2 ^ 40 ≤ 2 ^ Lib.ctz 64 x := Nat.pow_le_pow_right (by omega) h2
    omega
end Go.Proofs.YtckamjbdogpacaaGreatDoor

namespace Go.Proofs.YtckamjbdogpacaaGreatDoor
open Go.RowKit
set_option linter.unusedSimpArgs false
set_option linter.unusedVariables false

/-- The table of positions holds 'T': nothing is said of what that is. -/
def Tb (w : World) (T : Nat → Int) : Prop := ∀ k, k < 320 → w.cell? ⟨1, k, none⟩ = some (.int .i64 (T k))
theorem Tb.lt {w : World} {T : Nat → Int} (h : Tb w T) : 1 < w.heap.size := World.block_lt_of_cell? w _ (h 0 (by omega))
theorem Tb.below {w w' : World} {T : Nat → Int} (h : Tb w T) (hb : Below w.heap.size w w') : Tb w' T := fun k hk => (hb.cell (p := ⟨1, k, none⟩) h.lt).trans (h k hk)
/-- Eight words. -/
def WIn (f : Nat → Int) : Prop := ∀ k, k < 8 → 0 ≤ f k ∧ f k ≤ 1099511627775

theorem run_w8_0 (w : World) (f : Nat → Int) : (Instr.index 67 (.agg #[.int .i64 (f 0), .int .i64 (f 1), .int .i64 (f 2), .int .i64 (f 3), .int .i64 (f 4), .int .i64 (f 5), .int .i64 (f 6), .int .i64 (f 7)]) (.int .i64 0)).run Tryz.prog w = .ok (.int .i64 (f 0)) w := by kernel_rfl
theorem run_w8_1 (w : World) (f : Nat → Int) : (Instr.index 67 (.agg #[.int .i64 (f 0), .int .i64 (f 1), .int .i64 (f 2), .int .i64 (f 3), .int .i64 (f 4), .int .i64 (f 5), .int .i64 (f 6), .int .i64 (f 7)]) (.int .i64 1)).run Tryz.prog w = .ok (.int .i64 (f 1)) w := by kernel_rfl
theorem run_w8_2 (w : World) (f : Nat → Int) : (Instr.index 67 (.agg #[.int .i64 (f 0), .int .i64 (f 1), .int .i64 (f 2), .int .i64 (f 3), .int .i64 (f 4), .int .i64 (f 5), .int .i64 (f 6), .int .i64 (f 7)]) (.int .i64 2)).run Tryz.prog w = .ok (.int .i64 (f 2)) w := by kernel_rfl
theorem run_w8_3 (w : World) (f : Nat → Int) : (Instr.index 67 (.agg #[.int .i64 (f 0), .int .i64 (f 1), .int .i64 (f 2), .int .i64 (f 3), .int .i64 (f 4), .int .i64 (f 5), .int .i64 (f 6), .int .i64 (f 7)]) (.int .i64 3)).run Tryz.prog w = .ok (.int .i64 (f 3)) w := by kernel_rfl
theorem run_w8_4 (w : World) (f : Nat → Int) : (Instr.index 67 (.agg #[.int .i64 (f 0), .int .i64 (f 1), .int .i64 (f 2), .int .i64 (f 3), .int .i64 (f 4), .int .i64 (f 5), .int .i64 (f 6), .int .i64 (f 7)]) (.int .i64 4)).run Tryz.prog w = .ok (.int .i64 (f 4)) w := by kernel_rfl
theorem run_w8_5 (w : World) (f : Nat → Int) : (Instr.index 67 (.agg #[.int .i64 (f 0), .int .i64 (f 1), .int .i64 (f 2), .int .i64 (f 3), .int .i64 (f 4), .int .i64 (f 5), .int .i64 (f 6), .int .i64 (f 7)]) (.int .i64 5)).run Tryz.prog w = .ok (.int .i64 (f 5)) w := by kernel_rfl
theorem run_w8_6 (w : World) (f : Nat → Int) : (Instr.index 67 (.agg #[.int .i64 (f 0), .int .i64 (f 1), .int .i64 (f 2), .int .i64 (f 3), .int .i64 (f 4), .int .i64 (f 5), .int .i64 (f 6), .int .i64 (f 7)]) (.int .i64 6)).run Tryz.prog w = .ok (.int .i64 (f 6)) w := by kernel_rfl
theorem run_w8_7 (w : World) (f : Nat → Int) : (Instr.index 67 (.agg #[.int .i64 (f 0), .int .i64 (f 1), .int .i64 (f 2), .int .i64 (f 3), .int .i64 (f 4), .int .i64 (f 5), .int .i64 (f 6), .int .i64 (f 7)]) (.int .i64 7)).run Tryz.prog w = .ok (.int .i64 (f 7)) w := by kernel_rfl
theorem run_index_w8 (w : World) (f : Nat → Int) (k : Nat) (hk : k < 8) : (Instr.index 67 (.agg #[.int .i64 (f 0), .int .i64 (f 1), .int .i64 (f 2), .int .i64 (f 3), .int .i64 (f 4), .int .i64 (f 5), .int .i64 (f 6), .int .i64 (f 7)]) (.int .i64 (k : Int))).run Tryz.prog w = .ok (.int .i64 (f k)) w := by
  match k, hk with
  | 0, _ => exact run_w8_0 w f
  | 1, _ => exact run_w8_1 w f
  | 2, _ => exact run_w8_2 w f
  | 3, _ => exact run_w8_3 w f
  | 4, _ => exact run_w8_4 w f
  | 5, _ => exact run_w8_5 w f
  | 6, _ => exact run_w8_6 w f
  | 7, _ => exact run_w8_7 w f

def okC (c : Int) : Bool := decide (0 ≤ c ∧ c ≤ 1023)
set_option maxHeartbeats 1000000 in
theorem valid_calls (w : World) (f : Nat → Int) (c : Int) (hW : WIn f) : Calls Tryz.prog 75 #[.agg #[.int .i64 (f 0), .int .i64 (f 1), .int .i64 (f 2), .int .i64 (f 3), .int .i64 (f 4), .int .i64 (f 5), .int .i64 (f 6), .int .i64 (f 7)], .int .i64 c] w fun e w' => e = .returned (.bool (okC c)) ∧ Below w.heap.size w w' := by
  have HW := Lib.hid hW
  clear hW
  go_enter Tryz.func75, Tryz.ntmps75
  go_wp2
  go_loop [6, 8] (fun _ i => ∃ k : Nat, k ≤ 8 ∧ i = .int .i64 k) (fun _ i => 8 - (intOf i).toNat)
  case atStart => exact ⟨0, by omega, rfl⟩
  case round =>
    obtain ⟨k, hk, rfl⟩ := hrel
    by_cases hlt : k < 8
    · have hix := fun w => run_index_w8 w f k hlt
      obtain ⟨h0, h1⟩ := HW.out k hlt
      generalize f k = x at *
      go_wp2
      go_round
      case rel => exact ⟨k + 1, by omega, by go_num⟩
      case measure => simp [intOf]; omega
    · obtain rfl : k = 8 := by omega
      by_cases h0 : 0 ≤ c
      · by_cases h1 : c ≤ 1023
        · have HC : Hid (okC c = true) := by show okC c = true; simp [okC, *]
          have b1 : decide (c ≤ 1023) = true := by simp; omega
          go_wp2
          go_ret
          exact ⟨by rw [HC.out, ← b1]; rfl, by (repeat (first | with_reducible exact Below.refl _ _ | with_reducible assumption | with_reducible refine below_drewN ?_ _ | with_reducible refine Below.drew ?_ | with_reducible refine Below.alloc ?_ (by first | omega | (simp; omega) | simp) _ | with_reducible refine Below.setCell ?_ (by first | omega | (simp; omega) | simp) _))⟩
        · have HC : Hid (okC c = false) := by show okC c = false; simp [okC]; omega
          have b1 : decide (c ≤ 1023) = false := by simp; omega
          go_wp2
          go_ret
          exact ⟨by rw [HC.out, ← b1]; rfl, by (repeat (first | with_reducible exact Below.refl _ _ | with_reducible assumption | with_reducible refine below_drewN ?_ _ | with_reducible refine Below.drew ?_ | with_reducible refine Below.alloc ?_ (by first | omega | (simp; omega) | simp) _ | with_reducible refine Below.setCell ?_ (by first | omega | (simp; omega) | simp) _))⟩
      · have HC : Hid (okC c = false) := by show okC c = false; simp [okC]; omega
        go_wp2
        go_ret
        exact ⟨by rw [HC.out]; rfl, by (repeat (first | with_reducible exact Below.refl _ _ | with_reducible assumption | with_reducible refine below_drewN ?_ _ | with_reducible refine Below.drew ?_ | with_reducible refine Below.alloc ?_ (by first | omega | (simp; omega) | simp) _ | with_reducible refine Below.setCell ?_ (by first | omega | (simp; omega) | simp) _))⟩

theorem bits_and_le (a b : Int) (h0 : 0 ≤ b) (h1 : b < 9223372036854775808) : 0 ≤ bits .and .i64 a b ∧ bits .and .i64 a b ≤ b := by
  have hb : (BitVec.ofInt 64 b).toNat = b.toNat := by
    rw [BitVec.toNat_ofInt]
    omega
  have h : ((BitVec.ofInt 64 a &&& BitVec.ofInt 64 b).toNat) ≤ b.toNat := by
    rw [BitVec.toNat_and, hb]
    exact Nat.and_le_right
  show 0 ≤ IntKind.i64.wrap ((BitVec.ofInt 64 a &&& BitVec.ofInt 64 b).toNat : Nat) ∧ IntKind.i64.wrap ((BitVec.ofInt 64 a &&& BitVec.ofInt 64 b).toNat : Nat) ≤ b
  rw [IntWalk.i64_in _ (by omega)]
  omega

/-- What the set bits of one word come to. -/
def sumIn (T : Nat → Int) (k : Nat) : Nat → Int → Int → Int → Int × Int
  | 0, s, n, _ => (s, n)
  | q + 1, s, n, x => if x = 0 then (s, n) else sumIn T k q (bits .xor .i64 s (T (k * 40 + Lib.ctz 64 x.toNat))) (n + 1) (bits .and .i64 x (x - 1))
theorem sumIn_end (T : Nat → Int) (k q : Nat) (s n : Int) : sumIn T k q s n 0 = (s, n) := by cases q <;> simp [sumIn]
theorem sumIn_n (T : Nat → Int) (k : Nat) : ∀ (q : Nat) (s n x : Int), n ≤ (sumIn T k q s n x).2 ∧ (sumIn T k q s n x).2 ≤ n + q := by
  intro q
  induction q with
  | zero => intro s n x; simp [sumIn]
  | succ q ih =>
    intro s n x
    rw [sumIn]
    split
    · simp; omega
    · have := ih (bits .xor .i64 s (T (k * 40 + Lib.ctz 64 x.toNat))) (n + 1) (bits .and .i64 x (x - 1))
      omega
/-- What the first words come to. -/
def sumT (T : Nat → Int) (f : Nat → Int) : Nat → Int × Int
  | 0 => (0, 0)
  | k + 1 => sumIn T k (f k).toNat (sumT T f k).1 (sumT T f k).2 (f k)
theorem sumT_n (T : Nat → Int) (f : Nat → Int) (hW : WIn f) : ∀ k, k ≤ 8 → 0 ≤ (sumT T f k).2 ∧ (sumT T f k).2 ≤ k * 1099511627775 := by
  intro k
  induction k with
  | zero => intro _; simp [sumT]
  | succ k ih =>
    intro hk
    have h1 := ih (by omega)
    have h2 := hW k (by omega)
    have h3 := sumIn_n T k (f k).toNat (sumT T f k).1 (sumT T f k).2 (f k)
    rw [sumT]
    omega

def SmRelO (w : World) (T f : Nat → Int) (s n i : Value) (wr : World) : Prop :=
  ∃ k : Nat, k ≤ 8 ∧ i = .int .i64 k ∧ s = .int .i64 (sumT T f k).1 ∧ n = .int .i64 (sumT T f k).2 ∧ Below w.heap.size w wr
def SmRel (w : World) (T : Nat → Int) (k : Nat) (R : Int × Int) (s n x : Value) (wr : World) : Prop :=
  ∃ (q : Nat) (s' n' x' : Int), s = .int .i64 s' ∧ n = .int .i64 n' ∧ x = .int .i64 x' ∧ 0 ≤ x' ∧ x' ≤ 1099511627775 ∧ x' ≤ q ∧ q ≤ 1099511627775 ∧ 0 ≤ n' ∧ n' ≤ 9000000000000 - q ∧ sumIn T k q s' n' x' = R ∧ Below w.heap.size w wr

set_option maxRecDepth 100000 in
set_option maxHeartbeats 2000000 in
theorem sum_calls (w : World) (T : Nat → Int) (f : Nat → Int) (hW : WIn f) (hT : Tb w T) (hdb : Db w) : Calls Tryz.prog 76 #[.agg #[.int .i64 (f 0), .int .i64 (f 1), .int .i64 (f 2), .int .i64 (f 3), .int .i64 (f 4), .int .i64 (f 5), .int .i64 (f 6), .int .i64 (f 7)]] w fun e w' => e = .returned (.tuple #[.int .i64 (sumT T f 8).1, .int .i64 (sumT T f 8).2]) ∧ Below w.heap.size w w' := by
  have HW := Lib.hid hW
  have HT := Lib.hid hT
  have HDB := Lib.hid hdb
  clear hW hT hdb
  go_enter Tryz.func76, Tryz.ntmps76
  go_wp2
  go_loopw [2, 3, 4, 5, 7] (fun s n _ _ i wr => SmRelO w T f s n i wr) (fun _ _ _ _ i _ => 8 - (intOf i).toNat)
  case atStart => exact ⟨0, by omega, rfl, rfl, rfl, by (repeat (first | with_reducible exact Below.refl _ _ | with_reducible assumption | with_reducible refine below_drewN ?_ _ | with_reducible refine Below.drew ?_ | with_reducible refine Below.alloc ?_ (by first | omega | (simp; omega) | simp) _ | with_reducible refine Below.setCell ?_ (by first | omega | (simp; omega) | simp) _))⟩
  case round =>
    obtain ⟨k, hk, rfl, rfl, rfl, hb⟩ := hrel
    by_cases hlt : k < 8
    · have hix := fun w => run_index_w8 w f k hlt
      have ki0 : (0 : Int) ≤ (k : Int) := by omega
      have ki1 : (k : Int) < 8 := by omega
      obtain ⟨h0, h1⟩ := HW.out k hlt
      have hn := sumT_n T f HW.out k hk
      have HR : Hid (sumIn T k (f k).toNat (sumT T f k).1 (sumT T f k).2 (f k) = sumT T f (k + 1)) := rfl
      generalize f k = x at *
      generalize sumT T f k = S at *
      obtain ⟨R, hRR⟩ : ∃ R, sumT T f (k + 1) = R := ⟨_, rfl⟩
      rw [hRR] at HR
      have HRR := Lib.hid hRR
      clear hRR
      go_wp2
      go_loopw [2, 3, 5] (fun s n x wr => SmRel w T k R s n x wr) (fun _ _ x _ => (intOf x).toNat)
      case atStart => exact ⟨x.toNat, S.1, S.2, x, rfl, rfl, rfl, h0, h1, by omega, by omega, by omega, by omega, HR.out, hb⟩
      case round =>
        clear HR h0 h1 hn hb
        obtain ⟨q, s', n', x', rfl, rfl, rfl, h0, h1, hq, hq1, hn0, hn1, hR, hb⟩ := hrel
        have HR := Lib.hid hR
        clear hR
        by_cases hx : x' = 0
        · subst hx
          rw [sumIn_end] at HR
          go_wp2
          go_roundw
          case rel => exact ⟨k + 1, by omega, by go_num, by rw [HRR.out, ← HR.out], by rw [HRR.out, ← HR.out], hb⟩
          case measure => simp [intOf]; omega
        · have bx : (x' != 0) = true := by simp [hx]
          obtain ⟨q', hq'⟩ : ∃ q', q = q' + 1 := ⟨q - 1, by omega⟩
          subst hq'
          obtain ⟨y, hy⟩ : ∃ y : Nat, x' = y := ⟨x'.toNat, by omega⟩
          subst hy
          have hy0 : y ≠ 0 := by omega
          obtain ⟨t, ht⟩ : ∃ t, Lib.ctz 64 y = t := ⟨_, rfl⟩
          have ht40 : t < 40 := by rw [← ht]; exact ctz_40 y hy0 (by omega)
          have hand := bits_and_le (y : Int) ((y : Int) - 1) (by omega) (by omega)
          have hwu : IntKind.u64.wrap (y : Int) = (y : Int) := by rw [IntKind.wrap_u64]; omega
          have HR2 : Hid (sumIn T k q' (bits .xor .i64 s' (T (k * 40 + t))) (n' + 1) (bits .and .i64 (y : Int) ((y : Int) - 1)) = R) := by
            show _ = R
            rw [← HR.out, sumIn, if_neg hx, Int.toNat_natCast, ht]
          have hc : wr.cell? ⟨1, k * 40 + t, none⟩ = some (.int .i64 (T (k * 40 + t))) := (HT.out.below hb) _ (by omega)
          have ti0 : (0 : Int) ≤ (t : Int) := by omega
          have ti1 : (t : Int) < 40 := by omega
          have HTZ := Lib.hid ht
          have HY0 := Lib.hid hy0
          have hy1 : y < 18446744073709551616 := by omega
          clear HR ht hx hy0
          generalize T (k * 40 + t) = tv at *
          go_wp2_with fail
          go_region_held3 (fun w' => w'.cell? ⟨1, k * 40 + t, none⟩ = some (.int .i64 tv)) (go_keep)
            (first | (go_at_call 100; refine (tz_calls _ y hy1 HY0.out ((HDB.out.below hb).below (by (repeat (first | with_reducible exact Below.refl _ _ | with_reducible assumption | with_reducible refine below_drewN ?_ _ | with_reducible refine Below.drew ?_ | with_reducible refine Below.alloc ?_ (by first | omega | (simp; omega) | simp) _ | with_reducible refine Below.setCell ?_ (by first | omega | (simp; omega) | simp) _))))).mono ?_; rintro e w' ⟨rfl, rfl⟩; rw [HTZ.out]))
          go_wp2_with fail
          go_roundw
          case rel =>
            have hfin : SmRel w T k R (.int .i64 (bits .xor .i64 s' tv)) (.int .i64 (n' + 1)) (.int .i64 (bits .and .i64 (y : Int) ((y : Int) - 1))) wr.drew := ⟨q', _, n' + 1, _, rfl, rfl, rfl, hand.1, by omega, by omega, by omega, by omega, by omega, HR2.out, by (repeat (first | with_reducible exact Below.refl _ _ | with_reducible assumption | with_reducible refine below_drewN ?_ _ | with_reducible refine Below.drew ?_ | with_reducible refine Below.alloc ?_ (by first | omega | (simp; omega) | simp) _ | with_reducible refine Below.setCell ?_ (by first | omega | (simp; omega) | simp) _))⟩
            first
              | exact hfin
              | ((repeat apply Exists.intro); exact ⟨hfin, rfl⟩)
          case measure => simp [intOf]; omega
    · obtain rfl : k = 8 := by omega
      go_wp2
      go_ret2
      exact ⟨rfl, hb⟩

set_option maxHeartbeats 1000000 in
/-- Encode answers some number. -/
theorem encode_some (w : World) (T : Nat → Int) (f : Nat → Int) (hW : WIn f) (hT : Tb w T) (hdb : Db w) : Calls Tryz.prog 40 #[.agg #[.int .i64 (f 0), .int .i64 (f 1), .int .i64 (f 2), .int .i64 (f 3), .int .i64 (f 4), .int .i64 (f 5), .int .i64 (f 6), .int .i64 (f 7)]] w fun e w' => (∃ c, e = .returned (.int .i64 c)) ∧ Below w.heap.size w w' := by
  obtain ⟨oF, ho, hoc⟩ := ones_ok
  have hn := sumT_n T f hW 8 (by omega)
  have HS := Lib.hid (fun w => sum_calls w T f hW)
  obtain ⟨⟨s, n⟩, hs⟩ : ∃ S, sumT T f 8 = S := ⟨_, rfl⟩
  rw [hs] at HS hn
  have HO := Lib.hid hoc
  have ho1 := ho (IntKind.u64.wrap s)
  go_enter Tryz.func40, Tryz.ntmps40
  go_wp2_with fail
  refine (valid_calls _ f 0 hW).mono ?_
  rintro e w1 ⟨rfl, hb1⟩
  rw [show okC 0 = true from rfl]
  have hX := (Cl.new w 67 #[.int .i64 (f 0), .int .i64 (f 1), .int .i64 (f 2), .int .i64 (f 3), .int .i64 (f 4), .int .i64 (f 5), .int .i64 (f 6), .int .i64 (f 7)]).below hb1 (by simp)
  have hB : Below w.heap.size w w1 := Below.trans (by (repeat (first | with_reducible exact Below.refl _ _ | with_reducible assumption | with_reducible refine below_drewN ?_ _ | with_reducible refine Below.drew ?_ | with_reducible refine Below.alloc ?_ (by first | omega | (simp; omega) | simp) _ | with_reducible refine Below.setCell ?_ (by first | omega | (simp; omega) | simp) _))) (hb1.mono (by simp))
  clear hb1
  obtain ⟨x0, x1, x2, x3, x4, x5, x6, x7⟩ := hX.has8'
  go_wp2_with fail
  refine (HS.out _ (hT.below hB) (hdb.below hB)).mono ?_
  rintro e w2 ⟨rfl, hb2⟩
  have hB2 := hB.trans (hb2.mono hB.size)
  clear hb2 x0 x1 x2 x3 x4 x5 x6 x7 hX hs
  go_wp2_with fail
  refine (HO.out _ _).mono ?_
  rintro e w3 ⟨rfl, rfl⟩
  by_cases hp : ((n + oF (IntKind.u64.wrap s)) % 2 == 1) = true
  · go_wp2_with fail
    go_ret
    exact ⟨⟨_, rfl⟩, hB2⟩
  · have hp' : ((n + oF (IntKind.u64.wrap s)) % 2 == 1) = false := by simpa using hp
    clear hp
    go_wp2_with fail
    go_ret
    exact ⟨⟨_, rfl⟩, hB2⟩

def exB (a b : Int) : Bool := decide (0 ≤ a ∧ a < 8 ∧ 0 ≤ b ∧ b < 40 ∨ a = 8 ∧ 0 ≤ b ∧ b < 10)
set_option maxHeartbeats 1000000 in
theorem exists_calls (w : World) (a b : Int) : Calls Tryz.prog 116 #[.int .i64 a, .int .i64 b] w fun e w' => e = .returned (.bool (exB a b)) ∧ w = w' := by
  by_cases h1 : 0 ≤ a
  · by_cases h2 : a < 8
    · have h3 : (a == 8) = false := by simp; omega
      by_cases h4 : 0 ≤ b
      · by_cases h5 : b < 40
        · have HR : Hid (exB a b = true) := decide_eq_true (by omega)
          go_enter Tryz.func116, Tryz.ntmps116
          go_wp2
          go_ret
          exact ⟨by rw [HR.out]; rfl, rfl⟩
        · have HR : Hid (exB a b = false) := decide_eq_false (by omega)
          go_enter Tryz.func116, Tryz.ntmps116
          go_wp2
          go_ret
          exact ⟨by rw [HR.out]; rfl, rfl⟩
      · have HR : Hid (exB a b = false) := decide_eq_false (by omega)
        go_enter Tryz.func116, Tryz.ntmps116
        go_wp2
        go_ret
        exact ⟨by rw [HR.out]; rfl, rfl⟩
    · by_cases h3 : a = 8
      · have b3 : (a == 8) = true := by simp [h3]
        by_cases h4 : 0 ≤ b
        · by_cases h5 : b < 10
          · have HR : Hid (exB a b = true) := decide_eq_true (by omega)
            have b5 : decide (b < 10) = true := decide_eq_true h5
            clear h3
            go_enter Tryz.func116, Tryz.ntmps116
            go_wp2
            go_ret
            exact ⟨by rw [HR.out, ← b5]; rfl, rfl⟩
          · have HR : Hid (exB a b = false) := decide_eq_false (by omega)
            have b5 : decide (b < 10) = false := decide_eq_false h5
            clear h3
            go_enter Tryz.func116, Tryz.ntmps116
            go_wp2
            go_ret
            exact ⟨by rw [HR.out, ← b5]; rfl, rfl⟩
        · have HR : Hid (exB a b = false) := decide_eq_false (by omega)
          clear h3
          go_enter Tryz.func116, Tryz.ntmps116
          go_wp2
          go_ret
          exact ⟨by rw [HR.out]; rfl, rfl⟩
      · have b3 : (a == 8) = false := by simp [h3]
        have HR : Hid (exB a b = false) := decide_eq_false (by omega)
        clear h3
        go_enter Tryz.func116, Tryz.ntmps116
        go_wp2
        go_ret
        exact ⟨by rw [HR.out]; rfl, rfl⟩
  · have b3 : (a == 8) = false := by simp; omega
    have HR : Hid (exB a b = false) := decide_eq_false (by omega)
    go_enter Tryz.func116, Tryz.ntmps116
    go_wp2
    go_ret
    exact ⟨by rw [HR.out]; rfl, rfl⟩
end Go.Proofs.YtckamjbdogpacaaGreatDoor
