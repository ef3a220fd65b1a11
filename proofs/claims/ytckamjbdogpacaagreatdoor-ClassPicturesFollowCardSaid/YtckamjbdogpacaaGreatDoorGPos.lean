/-
  Flip, Check and Fix of any line of words, at any table: each answers a function of table, words and code.
  code.positions: the positions of the bits, one after the other.
-/
import Derived.Test.YtckamjbdogpacaaGreatDoorGCode
import Derived.RangeFuncNested
import Derived.RangeFuncBound
import Derived.RangeFuncCalls
import Derived.RangeFuncLeaves
import Derived.RangeFuncFrom
import Derived.RangeFuncBox
import Derived.Shelf.Abstract
import Derived.Shelf.RegionOpen
import Derived.WalkKit
import Derived.OwnWalkIn
import Derived.TacticsInMore
import Derived.LoopNIn
import Derived.LoopIn
namespace Go.Proofs.YtckamjbdogpacaaGreatDoor
open Go.RowKit
set_option linter.unusedSimpArgs false
set_option linter.unusedVariables false

def setW (f : Nat → Int) (k : Nat) (x : Int) : Nat → Int := fun i => if i = k then x else f i
theorem w8_set (f : Nat → Int) (k : Nat) (x : Int) (hk : k < 8) : (#[.int .i64 (f 0), .int .i64 (f 1), .int .i64 (f 2), .int .i64 (f 3), .int .i64 (f 4), .int .i64 (f 5), .int .i64 (f 6), .int .i64 (f 7)] : Array Value).setIfInBounds k (.int .i64 x) = #[.int .i64 ((setW f k x) 0), .int .i64 ((setW f k x) 1), .int .i64 ((setW f k x) 2), .int .i64 ((setW f k x) 3), .int .i64 ((setW f k x) 4), .int .i64 ((setW f k x) 5), .int .i64 ((setW f k x) 6), .int .i64 ((setW f k x) 7)] := by
  match k, hk with
  | 0, _ => rfl
  | 1, _ => rfl
  | 2, _ => rfl
  | 3, _ => rfl
  | 4, _ => rfl
  | 5, _ => rfl
  | 6, _ => rfl
  | 7, _ => rfl
theorem w8_get (f : Nat → Int) (k : Nat) (hk : k < 8) : (#[.int .i64 (f 0), .int .i64 (f 1), .int .i64 (f 2), .int .i64 (f 3), .int .i64 (f 4), .int .i64 (f 5), .int .i64 (f 6), .int .i64 (f 7)] : Array Value)[k]? = some (.int .i64 (f k)) := by
  match k, hk with
  | 0, _ => rfl
  | 1, _ => rfl
  | 2, _ => rfl
  | 3, _ => rfl
  | 4, _ => rfl
  | 5, _ => rfl
  | 6, _ => rfl
  | 7, _ => rfl
theorem bits_xor_in (a b : Int) (h0 : 0 ≤ a) (h1 : a ≤ 1099511627775) (h2 : 0 ≤ b) (h3 : b ≤ 1099511627775) : 0 ≤ bits .xor .i64 a b ∧ bits .xor .i64 a b ≤ 1099511627775 := by
  have ha : (BitVec.ofInt 64 a).toNat = a.toNat := by rw [BitVec.toNat_ofInt]; omega
  have hb : (BitVec.ofInt 64 b).toNat = b.toNat := by rw [BitVec.toNat_ofInt]; omega
  have h : ((BitVec.ofInt 64 a ^^^ BitVec.ofInt 64 b).toNat) < 2 ^ 40 := by
    rw [BitVec.toNat_xor, ha, hb]
    exact Nat.xor_lt_two_pow (by omega) (by omega)
  show 0 ≤ IntKind.i64.wrap ((BitVec.ofInt 64 a ^^^ BitVec.ofInt 64 b).toNat : Nat) ∧ IntKind.i64.wrap ((BitVec.ofInt 64 a ^^^ BitVec.ofInt 64 b).toNat : Nat) ≤ 1099511627775
  rw [IntWalk.i64_in _ (by omega)]
  omega
theorem WIn.set {f : Nat → Int} (h : WIn f) (k : Nat) {x : Int} (h0 : 0 ≤ x) (h1 : x ≤ 1099511627775) : WIn (setW f k x) := fun i hi => by
  unfold setW
  split
  · exact ⟨h0, h1⟩
  · exact h i hi

/-- Flip answers a function of its arguments. -/
def FlipTo (f : Nat → Int) (c a b : Int) (f' : Nat → Int) (c' : Int) : Prop := WIn f' ∧ ∀ w : World, Calls Tryz.prog 112 #[.agg #[.int .i64 (f 0), .int .i64 (f 1), .int .i64 (f 2), .int .i64 (f 3), .int .i64 (f 4), .int .i64 (f 5), .int .i64 (f 6), .int .i64 (f 7)], .int .i64 c, .int .i64 a, .int .i64 b] w fun e w' => e = .returned (.tuple #[.agg #[.int .i64 (f' 0), .int .i64 (f' 1), .int .i64 (f' 2), .int .i64 (f' 3), .int .i64 (f' 4), .int .i64 (f' 5), .int .i64 (f' 6), .int .i64 (f' 7)], .int .i64 c']) ∧ Below w.heap.size w w'

set_option maxRecDepth 100000 in
set_option maxHeartbeats 1000000 in
theorem flip_none (f : Nat → Int) (c a b : Int) (hW : WIn f) (h : exB a b = false) : FlipTo f c a b f c := by
  refine ⟨hW, fun w => ?_⟩
  clear hW
  go_enter Tryz.func112, Tryz.ntmps112
  go_wp2_with fail
  refine (exists_calls _ a b).mono ?_
  rintro e w1 ⟨rfl, rfl⟩
  rw [h]
  generalize hwn : (w.alloc (.cells #[.int .i64 (f 0), .int .i64 (f 1), .int .i64 (f 2), .int .i64 (f 3), .int .i64 (f 4), .int .i64 (f 5), .int .i64 (f 6), .int .i64 (f 7)] 67)).alloc (.cells #[.int .i64 0, .int .i64 0, .int .i64 0, .int .i64 0, .int .i64 0, .int .i64 0, .int .i64 0, .int .i64 0] 67) = wn
  have hX : Cl wn w.heap.size 67 #[.int .i64 (f 0), .int .i64 (f 1), .int .i64 (f 2), .int .i64 (f 3), .int .i64 (f 4), .int .i64 (f 5), .int .i64 (f 6), .int .i64 (f 7)] := by rw [← hwn]; exact (Cl.new _ _ _).alloc _
  have hZ : Cl wn (w.heap.size + 1) 67 #[.int .i64 0, .int .i64 0, .int .i64 0, .int .i64 0, .int .i64 0, .int .i64 0, .int .i64 0, .int .i64 0] := by rw [← hwn]; exact Cl.new_ _ _ _ _ (by simp)
  have hB : Below w.heap.size w wn := by rw [← hwn]; (repeat (first | with_reducible exact Below.refl _ _ | with_reducible assumption | with_reducible refine below_drewN ?_ _ | with_reducible refine Below.drew ?_ | with_reducible refine Below.alloc ?_ (by first | omega | (simp; omega) | simp) _ | with_reducible refine Below.setCell ?_ (by first | omega | (simp; omega) | simp) _))
  clear hwn
  have l0 := hX.lt
  have l1 := hZ.lt
  obtain ⟨x0, x1, x2, x3, x4, x5, x6, x7⟩ := hX.has8'
  obtain ⟨y0, y1, y2, y3, y4, y5, y6, y7⟩ := hZ.free8'
  obtain ⟨z0, z1, z2, z3, z4, z5, z6, z7⟩ := hZ.has8'
  go_wp2_with fail
  refine bodyPost_ret (v := .tuple #[.agg #[.int .i64 (f 0), .int .i64 (f 1), .int .i64 (f 2), .int .i64 (f 3), .int .i64 (f 4), .int .i64 (f 5), .int .i64 (f 6), .int .i64 (f 7)], .int .i64 c]) ?_ rfl ⟨rfl, ?_⟩
  · simp [results, Tryz.results112, go_sem, *]
  · (repeat (first | with_reducible exact Below.refl _ _ | with_reducible assumption | with_reducible refine below_drewN ?_ _ | with_reducible refine Below.drew ?_ | with_reducible refine Below.alloc ?_ (by first | omega | (simp; omega) | simp) _ | with_reducible refine Below.setCell ?_ (by first | omega | (simp; omega) | simp) _))

set_option maxRecDepth 100000 in
set_option maxHeartbeats 1000000 in
theorem flip_code (f : Nat → Int) (c : Int) (j : Nat) (hW : WIn f) (hj : j < 10) : ∃ c', FlipTo f c 8 (j : Int) f c' := by
  have h : exB 8 (j : Int) = true := by simp [exB]; omega
  obtain ⟨a, ha⟩ : ∃ a : Int, a = 8 := ⟨_, rfl⟩
  obtain ⟨b, hb⟩ : ∃ b : Int, b = (j : Int) := ⟨_, rfl⟩
  rw [← ha, ← hb] at h ⊢
  have hb0 : 0 ≤ b := by omega
  have hb1 : b < 10 := by omega
  have e8 : (a == 8) = true := by simp [ha]
  clear ha hb hj
  obtain ⟨c', hc⟩ : ∃ c', bits .xor .i64 c (wrap64 (2 ^ b.toNat)) = c' := ⟨_, rfl⟩
  refine ⟨c', hW, fun w => ?_⟩
  clear hW
  go_enter Tryz.func112, Tryz.ntmps112
  go_wp2_with fail
  refine (exists_calls _ a b).mono ?_
  rintro e w1 ⟨rfl, rfl⟩
  rw [h]
  generalize hwn : (w.alloc (.cells #[.int .i64 (f 0), .int .i64 (f 1), .int .i64 (f 2), .int .i64 (f 3), .int .i64 (f 4), .int .i64 (f 5), .int .i64 (f 6), .int .i64 (f 7)] 67)).alloc (.cells #[.int .i64 0, .int .i64 0, .int .i64 0, .int .i64 0, .int .i64 0, .int .i64 0, .int .i64 0, .int .i64 0] 67) = wn
  have hX : Cl wn w.heap.size 67 #[.int .i64 (f 0), .int .i64 (f 1), .int .i64 (f 2), .int .i64 (f 3), .int .i64 (f 4), .int .i64 (f 5), .int .i64 (f 6), .int .i64 (f 7)] := by rw [← hwn]; exact (Cl.new _ _ _).alloc _
  have hZ : Cl wn (w.heap.size + 1) 67 #[.int .i64 0, .int .i64 0, .int .i64 0, .int .i64 0, .int .i64 0, .int .i64 0, .int .i64 0, .int .i64 0] := by rw [← hwn]; exact Cl.new_ _ _ _ _ (by simp)
  have hB : Below w.heap.size w wn := by rw [← hwn]; (repeat (first | with_reducible exact Below.refl _ _ | with_reducible assumption | with_reducible refine below_drewN ?_ _ | with_reducible refine Below.drew ?_ | with_reducible refine Below.alloc ?_ (by first | omega | (simp; omega) | simp) _ | with_reducible refine Below.setCell ?_ (by first | omega | (simp; omega) | simp) _))
  clear hwn
  have l0 := hX.lt
  have l1 := hZ.lt
  obtain ⟨x0, x1, x2, x3, x4, x5, x6, x7⟩ := hX.has8'
  obtain ⟨y0, y1, y2, y3, y4, y5, y6, y7⟩ := hZ.free8'
  obtain ⟨z0, z1, z2, z3, z4, z5, z6, z7⟩ := hZ.has8'
  go_wp2_with fail
  refine bodyPost_ret (v := .tuple #[.agg #[.int .i64 (f 0), .int .i64 (f 1), .int .i64 (f 2), .int .i64 (f 3), .int .i64 (f 4), .int .i64 (f 5), .int .i64 (f 6), .int .i64 (f 7)], .int .i64 c']) ?_ rfl ⟨rfl, ?_⟩
  · simp [results, Tryz.results112, go_sem, *]
  · (repeat (first | with_reducible exact Below.refl _ _ | with_reducible assumption | with_reducible refine below_drewN ?_ _ | with_reducible refine Below.drew ?_ | with_reducible refine Below.alloc ?_ (by first | omega | (simp; omega) | simp) _ | with_reducible refine Below.setCell ?_ (by first | omega | (simp; omega) | simp) _))

set_option maxRecDepth 100000 in
set_option maxHeartbeats 1000000 in
theorem flip_word (f : Nat → Int) (c : Int) (k j : Nat) (hW : WIn f) (hk : k < 8) (hj : j < 40) : ∃ f' c', FlipTo f c (k : Int) (j : Int) f' c' := by
  have h : exB (k : Int) (j : Int) = true := by simp [exB]; omega
  obtain ⟨b, hb⟩ : ∃ b : Int, b = (j : Int) := ⟨_, rfl⟩
  obtain ⟨a, ha⟩ : ∃ a : Int, a = (k : Int) := ⟨_, rfl⟩
  rw [← ha, ← hb] at h ⊢
  have hb0 : 0 ≤ b := by omega
  have hb1 : b < 40 := by omega
  have ha0 : 0 ≤ a := by omega
  have ha1 : a < 8 := by omega
  have e8 : (a == 8) = false := by simp; omega
  have hak : a.toNat = k := by omega
  have hx0 : 0 ≤ wrap64 (2 ^ b.toNat) ∧ wrap64 (2 ^ b.toNat) ≤ 1099511627775 := by
    have h2 : b.toNat = j := by omega
    have h3 : 2 ^ j ≤ 2 ^ 39 := Nat.pow_le_pow_right (by omega) (by omega)
    have h4 : ((2 : Int) ^ j) = ((2 ^ j : Nat) : Int) := by simp
    rw [h2, h4]
    generalize 2 ^ j = P at h3 ⊢
    have h5 : wrap64 (P : Int) = (P : Int) := by unfold wrap64; omega
    omega
  obtain ⟨p, hp⟩ : ∃ p, wrap64 (2 ^ b.toNat) = p := ⟨_, rfl⟩
  rw [hp] at hx0
  have hxi := bits_xor_in (f k) p (hW k hk).1 (hW k hk).2 hx0.1 hx0.2
  have hW2 := hW.set k hxi.1 hxi.2
  have hset := w8_set f k (bits .xor .i64 (f k) p) hk
  generalize setW f k (bits .xor .i64 (f k) p) = f' at hW2 hset
  refine ⟨f', c, hW2, fun w => ?_⟩
  · clear hb ha hW hW2 hx0 hxi
    have HSET := Lib.hid hset
    clear hset
    have HP := Lib.hid hp
    clear hp
    have gx := w8_get f k hk
    go_enter Tryz.func112, Tryz.ntmps112
    go_wp2_with fail
    refine (exists_calls _ a b).mono ?_
    rintro e w1 ⟨rfl, rfl⟩
    rw [h]
    generalize hwn : (w.alloc (.cells #[.int .i64 (f 0), .int .i64 (f 1), .int .i64 (f 2), .int .i64 (f 3), .int .i64 (f 4), .int .i64 (f 5), .int .i64 (f 6), .int .i64 (f 7)] 67)).alloc (.cells #[.int .i64 0, .int .i64 0, .int .i64 0, .int .i64 0, .int .i64 0, .int .i64 0, .int .i64 0, .int .i64 0] 67) = wn
    have hX : Cl wn w.heap.size 67 #[.int .i64 (f 0), .int .i64 (f 1), .int .i64 (f 2), .int .i64 (f 3), .int .i64 (f 4), .int .i64 (f 5), .int .i64 (f 6), .int .i64 (f 7)] := by rw [← hwn]; exact (Cl.new _ _ _).alloc _
    have hZ : Cl wn (w.heap.size + 1) 67 #[.int .i64 0, .int .i64 0, .int .i64 0, .int .i64 0, .int .i64 0, .int .i64 0, .int .i64 0, .int .i64 0] := by rw [← hwn]; exact Cl.new_ _ _ _ _ (by simp)
    have hB : Below w.heap.size w wn := by rw [← hwn]; (repeat (first | with_reducible exact Below.refl _ _ | with_reducible assumption | with_reducible refine below_drewN ?_ _ | with_reducible refine Below.drew ?_ | with_reducible refine Below.alloc ?_ (by first | omega | (simp; omega) | simp) _ | with_reducible refine Below.setCell ?_ (by first | omega | (simp; omega) | simp) _))
    clear hwn
    have l0 := hX.lt
    have l1 := hZ.lt
    have x0 := (hX.cell k).trans gx
    have f0 := hX.free k
    go_wp2_with fail
    go_region
    rw [HP.out]
    have hS := hX.set_ k (.int .i64 (bits .xor .i64 (f k) p))
    rw [HSET.out] at hS
    have hZ2 := hZ.far (p := ⟨w.heap.size, k, none⟩) (by simp) (.int .i64 (bits .xor .i64 (f k) p))
    have hB2 : Below w.heap.size w (wn.setCell ⟨w.heap.size, k, none⟩ (.int .i64 (bits .xor .i64 (f k) p))) := by (repeat (first | with_reducible exact Below.refl _ _ | with_reducible assumption | with_reducible refine below_drewN ?_ _ | with_reducible refine Below.drew ?_ | with_reducible refine Below.alloc ?_ (by first | omega | (simp; omega) | simp) _ | with_reducible refine Below.setCell ?_ (by first | omega | (simp; omega) | simp) _))
    generalize wn.setCell ⟨w.heap.size, k, none⟩ (.int .i64 (bits .xor .i64 (f k) p)) = w2 at *
    have l2 := hS.lt
    have l3 := hZ2.lt
    clear x0 f0 gx hX hZ hB l0 l1
    obtain ⟨x0, x1, x2, x3, x4, x5, x6, x7⟩ := hS.has8'
    obtain ⟨y0, y1, y2, y3, y4, y5, y6, y7⟩ := hZ2.free8'
    obtain ⟨z0, z1, z2, z3, z4, z5, z6, z7⟩ := hZ2.has8'
    go_wp2_with fail
    refine bodyPost_ret (v := .tuple #[.agg #[.int .i64 (f' 0), .int .i64 (f' 1), .int .i64 (f' 2), .int .i64 (f' 3), .int .i64 (f' 4), .int .i64 (f' 5), .int .i64 (f' 6), .int .i64 (f' 7)], .int .i64 c]) ?_ rfl ⟨rfl, ?_⟩
    · simp [results, Tryz.results112, go_sem, *]
    · (repeat (first | with_reducible exact Below.refl _ _ | with_reducible assumption | with_reducible refine below_drewN ?_ _ | with_reducible refine Below.drew ?_ | with_reducible refine Below.alloc ?_ (by first | omega | (simp; omega) | simp) _ | with_reducible refine Below.setCell ?_ (by first | omega | (simp; omega) | simp) _))
end Go.Proofs.YtckamjbdogpacaaGreatDoor

namespace Go.Proofs.YtckamjbdogpacaaGreatDoor
open Go.RowKit Go.Shelf
set_option linter.unusedSimpArgs false
set_option linter.unusedVariables false
attribute [local go_sem] Oper.semAt_some

def posSkip (n : Nat) : Nat := if n &&& (n - 1) = 0 then n + 1 else n
def posN : Nat → Nat
  | 0 => 3
  | i + 1 => posSkip (posN i) + 1
def posF (i : Nat) : Nat := posSkip (posN i)
theorem posSkip_in (n : Nat) : n ≤ posSkip n ∧ posSkip n ≤ n + 1 := by unfold posSkip; split <;> omega
theorem posN_in (i : Nat) : 3 ≤ posN i ∧ posN i ≤ 3 + 2 * i := by
  induction i with
  | zero => simp [posN]
  | succ i ih =>
    have := posSkip_in (posN i)
    rw [posN]
    omega
theorem skip_one : ∀ n, n < 1000 → 3 ≤ n → n &&& (n - 1) = 0 → ¬ ((n + 1) &&& n = 0) := by decide +kernel
theorem skip_skip {n : Nat} (h : n < 1000) (h3 : 3 ≤ n) (h0 : n &&& (n - 1) = 0) : posSkip (n + 1) = posSkip n := by
  have h1 := skip_one n h h3 h0
  unfold posSkip
  rw [if_pos h0, Nat.add_sub_cancel, if_neg h1]
theorem skip_stays {n : Nat} (h0 : ¬ n &&& (n - 1) = 0) : posSkip n = n := by unfold posSkip; rw [if_neg h0]
theorem bits_and_nat (a b : Nat) (ha : a < 9223372036854775808) (hb : b < 9223372036854775808) : bits .and .i64 (a : Int) (b : Int) = ((a &&& b : Nat) : Int) := by
  have h1 : (BitVec.ofInt 64 (a : Int)).toNat = a := by rw [BitVec.toNat_ofInt]; omega
  have h2 : (BitVec.ofInt 64 (b : Int)).toNat = b := by rw [BitVec.toNat_ofInt]; omega
  have h3 : a &&& b ≤ b := Nat.and_le_right
  show IntKind.i64.wrap ((BitVec.ofInt 64 (a : Int) &&& BitVec.ofInt 64 (b : Int)).toNat : Int) = _
  rw [BitVec.toNat_and, h1, h2]
  exact IntWalk.i64_in _ (by omega)

abbrev posE (i : Nat) : Array Value := #[.agg #[.int .i64 ((i : Int) / 40), .int .i64 ((i : Int) % 40)], .int .i64 (posF i : Int)]

set_option maxRecDepth 100000 in
set_option maxHeartbeats 2000000 in
theorem pos_in (F : Fence) (n : Nat) (hf : F.fn 113) (hro : F.round = none) (hn : 1 ≤ n) (l : Nat) (Kp : World → World → Prop) (J Jx : List Nat → World → Prop)
    (hY : ∀ pre x W, J pre W → pre.length < 320 → YieldAt F (n - 1) Tryz.prog l (posE x) W fun e W' =>
      (e = .returned (.bool true) ∧ J (pre ++ [x]) W' ∧ Kp W W') ∨ (e = .returned (.bool false) ∧ Jx (pre ++ [x]) W'))
    (W : World) (h0 : J [] W) :
    CallsIn F n Tryz.prog 113 #[.func (.yield l) #[] #[]] W fun e W' => (∃ v, e = .returned v) ∧
      ((∃ ys, ys = List.range 320 ∧ J ys W') ∨ (∃ pre, (∃ m, m < 320 ∧ pre = List.range (m + 1)) ∧ Jx pre W')) := by
  refine callsIn_of_wp Tryz.func113 rfl hf ?_ hro
  simp only [Tryz.ntmps113, List.size_toArray, List.length_cons, List.length_nil, Nat.reduceAdd, Nat.reduceSub, Array.replicate_succ, Array.replicate_zero, List.push_toArray, List.append_toArray, List.nil_append, List.cons_append]
  gi_wp2
  gi_loopw [2, 3, 4] (fun v2 _ v4 wr => ∃ i : Nat, i ≤ 320 ∧ v4 = .int .i64 (i : Int) ∧ v2 = .int .i64 (posN i : Int) ∧ J (List.range i) wr) (fun _ _ v4 _ => 320 - (intOf v4).toNat)
  case atStart => exact ⟨0, by omega, rfl, rfl, h0⟩
  case round =>
    obtain ⟨i, hi, rfl, rfl, hJ⟩ := hrel
    by_cases hlt : i < 320
    · have hp := posN_in i
      have HS : Hid (posSkip (posN i) = posF i) := rfl
      have HN : Hid (posN (i + 1) = posF i + 1) := rfl
      have HJ := Lib.hid hJ
      clear hJ
      generalize posN i = m0 at *
      gi_wp2
      gi_loopw [2] (fun v2 wr' => ∃ m : Nat, v2 = .int .i64 (m : Int) ∧ 3 ≤ m ∧ m < 900 ∧ posSkip m = posF i ∧ wr' = wr) (fun v2 _ => if (intOf v2).toNat &&& ((intOf v2).toNat - 1) = 0 then 1 else 0)
      case atStart => exact ⟨m0, rfl, hp.1, by omega, HS.out, rfl⟩
      case round =>
        clear HS hp
        obtain ⟨m, rfl, hm3, hm9, hs, rfl⟩ := hrel
        have hba := bits_and_nat m (m - 1) (by omega) (by omega)
        have hm1 : ((m - 1 : Nat) : Int) = (m : Int) - 1 := by omega
        rw [hm1] at hba
        by_cases hz : m &&& (m - 1) = 0
        · rw [hz] at hba
          have hsk := skip_skip (by omega) hm3 hz
          have HZ := Lib.hid hz
          have HSK : Hid (posSkip (m + 1) = posF i) := by show _ = _; rw [hsk]; exact hs
          have HO := Lib.hid (skip_one m (by omega) hm3 hz)
          have m8 : m ≠ 899 := by rintro rfl; revert hz; decide
          clear hs hsk hz hm1
          gi_wp2
          refine ⟨⟨m + 1, by first | rfl | go_num, by omega, by omega, HSK.out, trivial⟩, ?_⟩
          have e1 : (intOf (.int .i64 ((m : Int) + 1))).toNat = m + 1 := by simp [intOf]
          have e2 : (intOf (.int .i64 (m : Int))).toNat = m := by simp [intOf]
          rw [e1, e2, Nat.add_sub_cancel, if_neg HO.out, if_pos HZ.out]
          omega
        · have HSM : Hid (posF i = m) := by show _ = _; rw [← hs]; exact skip_stays hz
          have hbz : (bits .and .i64 (m : Int) ((m : Int) - 1) == 0) = false := by rw [hba]; simp; omega
          clear hs hz hba hm1
          obtain ⟨f1, t1, a1, b1, hy1, hR1⟩ := hY (List.range i) i wr HJ.out (by simp; exact hlt)
          dsimp only [posE] at hy1
          rw [HSM.out] at hy1
          gi_wp2
          refine hR1.mono ?_
          rintro e W1 (⟨rfl, hJ1, _⟩ | ⟨rfl, hx1⟩)
          · gi_wp2
            refine ⟨⟨i + 1, by omega, by first | rfl | go_num, ?_, by rw [List.range_succ]; exact hJ1⟩, by simp [intOf]; omega⟩
            rw [HN.out, HSM.out]
            simp
          · gi_wp2
            refine bodyPost_ret (results_none rfl _ _ _) rfl ?_
            exact ⟨⟨_, rfl⟩, .inr ⟨_, ⟨i, hlt, rfl⟩, by rw [List.range_succ]; exact hx1⟩⟩
    · obtain rfl : i = 320 := by omega
      gi_wp2
      go_end0
      exact ⟨⟨_, rfl⟩, .inl ⟨_, rfl, hJ⟩⟩

theorem pos_stops (F : Fence) (n : Nat) (hf : F.fn 113) (hro : F.round = none) (hn : 1 ≤ n) (Kp : World → World → Prop) (w : World) :
    SeqStopsK F n Tryz.prog 113 #[] posE Kp (fun xs => xs = List.range 320) (fun pre => ∃ m, m < 320 ∧ pre = List.range (m + 1)) 320 w := fun l J Jx W _ _ _ hY h0 =>
  (pos_in F n hf hro hn l Kp J Jx hY W h0).mono fun e W' ⟨he, h⟩ => ⟨he, h⟩

theorem positions_calls (w : World) : Calls Tryz.prog 104 #[] w fun e w' => e = .returned (.func (.func 113) #[] #[]) ∧ w = w' := by
  go_enter Tryz.func104, Tryz.ntmps104
  go_wp2
  go_ret
  exact ⟨rfl, rfl⟩
end Go.Proofs.YtckamjbdogpacaaGreatDoor
