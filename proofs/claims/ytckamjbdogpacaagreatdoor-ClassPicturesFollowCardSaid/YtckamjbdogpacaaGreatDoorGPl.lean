/-
  The two memories of 'played' side by side; the layout of 64 to 103 lines.
  alumlaw11.played: a script without entries, played on the program's memory and on the specification's.
-/
import Derived.Test.YtckamjbdogpacaaGreatDoorGNew
import Derived.Test.YtckamjbdogpacaaGreatDoorGRot
import Derived.Test.YtckamjbdogpacaaGreatDoorGPut
import Derived.Test.YtckamjbdogpacaaGreatDoorSmDo
import Derived.Test.YtckamjbdogpacaaGreatDoorPlan
import Derived.Test.YtckamjbdogpacaaGreatDoorGView
import Derived.LoopN
namespace Go.Proofs.YtckamjbdogpacaaGreatDoor
open Go.RowKit
set_option linter.unusedSimpArgs false
set_option linter.unusedVariables false

theorem plan40 (w : World) (L : Nat) (h1 : 64 ≤ L) (h2 : L ≤ 103) :
    Calls Tryz.prog 9 #[.int .i64 (L : Int)] w fun e w' => e = .returned (.tuple #[.agg #[.int .i64 (L : Int), .int .i64 2, .int .i64 8, .int .i64 10, .int .i64 4, .int .i64 14, .int .i64 16, .int .i64 (((L - 16) / 16 : Nat) : Int)], .int .i64 0]) ∧ Below w.heap.size w w' := by
  refine (plan_calls w L h1 (by omega)).mono ?_
  rintro e w' ⟨rfl, hb⟩
  refine ⟨?_, hb⟩
  have e1 : planLogs (L : Int) = 8 := by unfold planLogs; rw [if_neg (by omega)]
  have e2 : planIntents (L : Int) = 4 := by unfold planIntents; rw [if_neg (by omega)]
  have e3 : upTo16 (planStart (L : Int) 8 4) = 16 := by unfold upTo16 planStart; omega
  have e4 : ((L : Int) - 16) / 16 = (((L - 16) / 16 : Nat) : Int) := by omega
  rw [e1, e2, e3, e4]
  rfl

theorem MemW.sub {base : Nat} {F F' : Nat → Prop} {w : World} {gm L E : Nat} (h : MemW base F w gm L E) (hs : ∀ g, g < w.heap.size → F g → F' g) : MemW base F' w gm L E := by
  obtain ⟨D, C, P, h⟩ := h
  exact ⟨D, C, P, h.sub hs⟩
theorem MemW.carry {base : Nat} {F : Nat → Prop} {w w' : World} {gm L E : Nat} (h : MemW base F w gm L E) (hk : ∀ g, F g → g < w.heap.size → w'.heap[g]? = w.heap[g]?) : MemW base F w' gm L E := by
  obtain ⟨D, C, P, h⟩ := h
  exact ⟨D, C, P, h.carry hk⟩
theorem MemS.sub {G G' : Nat → Prop} {w : World} {gs L E : Nat} (h : MemS G w gs L E) (hs : ∀ g, g < w.heap.size → G g → G' g) : MemS G' w gs L E := by
  obtain ⟨gl, cap, cur, sp, Ae, ne, ce, xs, h1, h2, hS, hL, h3, hP, hEv, hn, g1, g2, g3⟩ := h
  refine ⟨gl, cap, cur, sp, Ae, ne, ce, xs, h1, h2, hS, hL, h3, fun i hi => ?_, hEv, hn, hs _ hS.lt g1, hs _ hL.lt g2, fun b hb => hs _ (hEv.lt b hb).2 (g3 b hb)⟩
  obtain ⟨f, c, v, m, ps, a, b, d, e, e1, e2, e3, e4, e5⟩ := hP i hi
  exact ⟨f, c, v, m, ps, a, b, d, e, e1, e2, e3, e4, fun b hb => hs _ (e2.lt b hb).2 (e5 b hb)⟩

/-- The program's memory and the specification's lie apart, in blocks from 'B' on, and not in the blocks of 'K'. -/
def PlSt (B : Nat) (K : Nat → Prop) (w0 w : World) (gm gs L E : Nat) : Prop :=
  ∃ F G : Nat → Prop, MemW B F w gm L E ∧ MemS G w gs L E ∧ (∀ g, F g → B ≤ g ∧ g < w.heap.size ∧ ¬ G g ∧ ¬ K g) ∧ (∀ g, G g → B ≤ g ∧ g < w.heap.size ∧ ¬ K g) ∧ B ≤ w.heap.size ∧ Below B w0 w
section
variable {B : Nat} {K K' : Nat → Prop} {w0 w w' : World} {gm gs L E : Nat}
theorem PlSt.below (h : PlSt B K w0 w gm gs L E) (hb : Below w.heap.size w w') : PlSt B K w0 w' gm gs L E := by
  obtain ⟨F, G, hM, hS, hF, hG, hB, hb0⟩ := h
  have hs := hb.size
  exact ⟨F, G, hM.below hb, hS.below hb, fun g hg => ⟨(hF g hg).1, by have := (hF g hg).2.1; omega, (hF g hg).2.2⟩, fun g hg => ⟨(hG g hg).1, by have := (hG g hg).2.1; omega, (hG g hg).2.2⟩, by omega, hb0.trans (hb.mono hB)⟩
/-- New blocks may be named as kept. -/
theorem PlSt.keep (h : PlSt B K w0 w gm gs L E) (hb : Below w.heap.size w w') (hk : ∀ g, K' g → w.heap.size ≤ g) : PlSt B K' w0 w' gm gs L E := by
  obtain ⟨F, G, hM, hS, hF, hG, hB, hb0⟩ := h
  have hs := hb.size
  exact ⟨F, G, hM.below hb, hS.below hb, fun g hg => ⟨(hF g hg).1, by have := (hF g hg).2.1; omega, (hF g hg).2.2.1, fun hh => by have := hk g hh; have := (hF g hg).2.1; omega⟩, fun g hg => ⟨(hG g hg).1, by have := (hG g hg).2.1; omega, fun hh => by have := hk g hh; have := (hG g hg).2.1; omega⟩, by omega, hb0.trans (hb.mono hB)⟩
theorem PlSt.free (h : PlSt B K w0 w gm gs L E) (hk : ∀ g, K' g → K g) : PlSt B K' w0 w gm gs L E := by
  obtain ⟨F, G, hM, hS, hF, hG, hB, hb0⟩ := h
  exact ⟨F, G, hM, hS, fun g hg => ⟨(hF g hg).1, (hF g hg).2.1, (hF g hg).2.2.1, fun hh => (hF g hg).2.2.2 (hk g hh)⟩, fun g hg => ⟨(hG g hg).1, (hG g hg).2.1, fun hh => (hG g hg).2.2 (hk g hh)⟩, hB, hb0⟩
theorem PlSt.mono (h : PlSt B K w0 w gm gs L E) {E' : Nat} (hE : E ≤ E') : PlSt B K w0 w gm gs L E' := by
  obtain ⟨F, G, hM, hS, h⟩ := h
  exact ⟨F, G, MemW.mono hM hE, hS.mono hE, h⟩
/-- Ahead of a call of the specification's memory, and behind it. -/
theorem PlSt.spec (h : PlSt B K w0 w gm gs L E) (hK : ∀ g, K g → g < w.heap.size) : ∃ G' : Nat → Prop, MemS G' w gs L E ∧ Up G' w.heap.size ∧
    ∀ w' E', MemS G' w' gs L E' → GrewS G' w w' → E ≤ E' → PlSt B K w0 w' gm gs L E' ∧ ∀ g, K g → w'.heap[g]? = w.heap[g]? := by
  obtain ⟨F, G, hM, hS, hF, hG, hB, hb0⟩ := h
  refine ⟨fun g => G g ∨ w.heap.size ≤ g, hS.sub (fun g _ hg => .inl hg), fun g hg => .inr hg, fun w' E' hS' hgr hE => ?_⟩
  have hs := hgr.size
  have hkeep : ∀ g, g < w.heap.size → ¬ G g → w'.heap[g]? = w.heap[g]? := fun g hg hn => by
    rcases hgr.2.2.2.2 g hg with h1 | h1 | h1
    · exact h1
    · exact absurd h1 hn
    · omega
  refine ⟨⟨F, fun g => (G g ∨ w.heap.size ≤ g) ∧ g < w'.heap.size, MemW.mono (hM.carry (fun g hg hlt => hkeep g hlt (hF g hg).2.2.1)) hE, hS'.sub (fun g hlt hg => ⟨hg, hlt⟩), fun g hg => ?_, fun g hg => ?_, by omega, ?_⟩, fun g hg => ?_⟩
  · obtain ⟨a, b, c, d⟩ := hF g hg
    exact ⟨a, by omega, fun hh => by rcases hh.1 with h1 | h1; exact c h1; omega, d⟩
  · rcases hg.1 with h1 | h1
    · exact ⟨(hG g h1).1, hg.2, (hG g h1).2.2⟩
    · exact ⟨by omega, hg.2, fun hk => by have := hK g hk; omega⟩
  · exact hb0.trans ⟨hgr.1, hgr.2.1, hgr.2.2.1, hs, fun g hg => hkeep g (by omega) (fun hh => by have := (hG g hh).1; omega)⟩
  · exact hkeep g (hK g hg) (fun hh => (hG g hh).2.2 hg)
/-- Ahead of a call of the program's memory, and behind it. -/
theorem PlSt.prog (h : PlSt B K w0 w gm gs L E) (hK : ∀ g, K g → g < w.heap.size) : ∃ F' : Nat → Prop, MemW B F' w gm L E ∧ Up F' w.heap.size ∧ B ≤ w.heap.size ∧ Below B w0 w ∧
    ∀ w' E', MemW B F' w' gm L E' → GrewF B F' w w' → E ≤ E' → PlSt B K w0 w' gm gs L E' := by
  obtain ⟨F, G, hM, hS, hF, hG, hB, hb0⟩ := h
  refine ⟨fun g => F g ∨ w.heap.size ≤ g, hM.sub (fun g _ hg => .inl hg), fun g hg => .inr hg, hB, hb0, fun w' E' hM' hgr hE => ?_⟩
  have hs := hgr.size
  have hkeep : ∀ g, g < w.heap.size → ¬ F g → w'.heap[g]? = w.heap[g]? := fun g hg hn => by
    rcases hgr.2 g hg with h1 | h1 | h1
    · exact h1
    · exact absurd h1 hn
    · omega
  refine ⟨fun g => (F g ∨ w.heap.size ≤ g) ∧ g < w'.heap.size, G, hM'.sub (fun g hlt hg => ⟨hg, hlt⟩), (hS.carry (fun g hg hlt => hkeep g hlt (fun hf => (hF g hf).2.2.1 hg))).mono hE, fun g hg => ?_, fun g hg => ?_, by omega, ?_⟩
  · rcases hg.1 with h1 | h1
    · obtain ⟨a, b, c, d⟩ := hF g h1
      exact ⟨a, hg.2, c, d⟩
    · exact ⟨by omega, hg.2, fun hh => by have := (hG g hh).2.1; omega, fun hk => by have := hK g hk; omega⟩
  · obtain ⟨a, b, c⟩ := hG g hg
    exact ⟨a, by omega, c⟩
  · exact hb0.trans ⟨hgr.1.1, hgr.1.2.1, hgr.1.2.2.1, hs, fun g hg => hkeep g (by omega) (fun hh => by have := (hF g hh).1; omega)⟩
end
/-- Two new memories. -/
theorem PlSt.new {w1 w2 w3 : World} {gm gs L : Nat} (h1 : MemG w1.heap.size (fun g => w1.heap.size ≤ g) w2 gm L (fun _ _ => 0) (fun _ => 0) (fun _ => []) 0) (hb1 : Below w1.heap.size w1 w2) (h2 : MemS (fun g => w2.heap.size ≤ g) w3 gs L 0) (hb2 : Below w2.heap.size w2 w3) : PlSt w1.heap.size (fun _ => False) w1 w3 gm gs L 0 := by
  have s1 := hb1.size
  have s2 := hb2.size
  have hM : MemW w1.heap.size (fun g => w1.heap.size ≤ g ∧ g < w2.heap.size) w2 gm L 0 := MemW.sub ⟨_, _, _, h1⟩ (fun g hlt hg => ⟨hg, hlt⟩)
  exact ⟨_, fun g => w2.heap.size ≤ g ∧ g < w3.heap.size, hM.below hb2, h2.sub (fun g hlt hg => ⟨hg, hlt⟩), fun g hg => ⟨hg.1, by omega, fun hh => by omega, id⟩, fun g hg => ⟨by omega, hg.2, id⟩, by omega, hb1.trans (hb2.mono s1)⟩
theorem Gx.keep {B : Nat} {w w' : World} {T : Nat → Int} (h : Gx B w T) (hb : Below B w w') : Gx B w' T := by
  obtain ⟨h1, h2, h3, h4⟩ := h
  exact ⟨fun k hk => (cell_of_heap (hb.block _ h3) k).trans (h1 k hk), fun k hk => (cell_of_heap (hb.block _ h4) k).trans (h2 k hk), h3, h4⟩
end Go.Proofs.YtckamjbdogpacaaGreatDoor

namespace Go.Proofs.YtckamjbdogpacaaGreatDoor
open Go.RowKit
set_option linter.unusedSimpArgs false
set_option linter.unusedVariables false

/-- A call of a script: its kind, its two numbers, its words, its cuts. -/
abbrev OpD := Int × Int × Int × (Nat → Int) × Value
def opCells (x : OpD) : List Value := [.int .i64 x.1, .int .i64 x.2.1, .int .i64 x.2.2.1, .int .i64 (x.2.2.2.1 0), .int .i64 (x.2.2.2.1 1), .int .i64 (x.2.2.2.1 2), .int .i64 (x.2.2.2.1 3), .int .i64 (x.2.2.2.1 4), .int .i64 (x.2.2.2.1 5), .int .i64 (x.2.2.2.1 6), .int .i64 (x.2.2.2.1 7), x.2.2.2.2]
def opsCells (os : List OpD) : List Value := os.flatMap opCells
theorem opsCells_length (os : List OpD) : (opsCells os).length = os.length * 12 := by
  induction os with
  | nil => rfl
  | cons b bs ih => simp only [opsCells, List.flatMap_cons, List.length_append, List.length_cons] at ih ⊢; rw [ih]; simp [opCells]; omega
theorem opsCells_get (os : List OpD) (k j : Nat) (hj : j < 12) : (opsCells os)[k * 12 + j]? = (os[k]?).bind (fun b => (opCells b)[j]?) := by
  induction os generalizing k with
  | nil => simp [opsCells]
  | cons b bs ih =>
    cases k with
    | zero =>
      simp only [opsCells, List.flatMap_cons, List.getElem?_cons_zero, Option.bind_some, Nat.zero_mul, Nat.zero_add]
      rw [List.getElem?_append_left (by simp [opCells]; omega)]
    | succ k =>
      simp only [opsCells, List.flatMap_cons, List.getElem?_cons_succ]
      rw [List.getElem?_append_right (by simp [opCells]; omega), ← ih]
      simp only [opsCells]
      congr 1
      simp [opCells]
      omega
/-- A slice reads as the calls of a script. -/
def RdO (w : World) (t : TypeId) (v : Value) (os : List OpD) : Prop := Rd w t 12 v os.length (opsCells os)
/-- A call's cells, as a walk asks for them. -/
def OpAt (w : World) (b q : Nat) (k a c : Int) (f : Nat → Int) (cu : Value) : Prop := w.cell? ⟨b, q, none⟩ = some (.int .i64 k) ∧ w.cell? ⟨b, q + 1, none⟩ = some (.int .i64 a) ∧ w.cell? ⟨b, q + 2, none⟩ = some (.int .i64 c) ∧ w.cell? ⟨b, q + 3, none⟩ = some (.int .i64 (f 0)) ∧ w.cell? ⟨b, q + 4, none⟩ = some (.int .i64 (f 1)) ∧ w.cell? ⟨b, q + 5, none⟩ = some (.int .i64 (f 2)) ∧ w.cell? ⟨b, q + 6, none⟩ = some (.int .i64 (f 3)) ∧ w.cell? ⟨b, q + 7, none⟩ = some (.int .i64 (f 4)) ∧ w.cell? ⟨b, q + 8, none⟩ = some (.int .i64 (f 5)) ∧ w.cell? ⟨b, q + 9, none⟩ = some (.int .i64 (f 6)) ∧ w.cell? ⟨b, q + 10, none⟩ = some (.int .i64 (f 7)) ∧ w.cell? ⟨b, q + 11, none⟩ = some cu
theorem RdO.at {w : World} {t : TypeId} {A : Option Addr} {n cc : Nat} {os : List OpD} (h : RdO w t (.slice A n cc) os) {i : Nat} {k a c : Int} {f : Nat → Int} {cu : Value} (hi : os[i]? = some (k, a, c, f, cu)) : ∃ b q, A = some ⟨b, q, none⟩ ∧ b < w.heap.size ∧ OpAt w b (q + i * 12) k a c f cu ∧ n ≤ cc := by
  have hlt : i < os.length := (List.getElem?_eq_some_iff.1 hi).1
  obtain ⟨_, A', c', hv, hcc, _, _, h2⟩ := h
  obtain ⟨b, q, cur, fr, hA, hh, hcell⟩ := h2 (by omega)
  injection hv with e1 e2 e3
  subst e1 e2 e3
  refine ⟨b, q, hA, lt_of_heap hh, ?_, hcc⟩
  have g : ∀ j u, j < 12 → (opCells (k, a, c, f, cu))[j]? = some u → w.cell? ⟨b, q + i * 12 + j, none⟩ = some u := fun j u hj hu => by
    rw [cell_of_row w b _ cur t fr hh, Nat.add_assoc]
    refine hcell _ _ ?_
    rw [opsCells_get _ _ _ hj, hi]
    exact hu
  exact ⟨g 0 _ (by omega) rfl, g 1 _ (by omega) rfl, g 2 _ (by omega) rfl, g 3 _ (by omega) rfl, g 4 _ (by omega) rfl, g 5 _ (by omega) rfl, g 6 _ (by omega) rfl, g 7 _ (by omega) rfl, g 8 _ (by omega) rfl, g 9 _ (by omega) rfl, g 10 _ (by omega) rfl, g 11 _ (by omega) rfl⟩

def PlayedPost (w : World) (L C : Nat) (e : Ending) (w' : World) : Prop := ∃ (gm gv gs B : Nat) (F : Nat → Prop), e = .returned (.tuple #[.agg #[.int .i64 (L : Int), .int .i64 2, .int .i64 8, .int .i64 10, .int .i64 4, .int .i64 14, .int .i64 16, .int .i64 (C : Int), .pointer (some ⟨gm, 0, none⟩), .pointer (some ⟨gv, 0, none⟩), .pointer (some ⟨gs, 0, none⟩)], .bool true]) ∧
  MemW B F w' gm L 400 ∧ Cl w' gv 100 #[.pointer (some ⟨gm, 0, none⟩), .slice none 0 0] ∧ Below w.heap.size w w'
def PlydRel (B : Nat) (w0 : World) (gm gs L n : Nat) (v : Value) (wr : World) : Prop := ∃ i : Nat, i ≤ n ∧ v = .int .i64 (i : Int) ∧ PlSt B (fun _ => False) w0 wr gm gs L (4 * i)

set_option maxRecDepth 100000 in
set_option maxHeartbeats 8000000 in
theorem played_calls (w : World) (n : Nat) (bl : Value) {te : TypeId} (os : List OpD) (T : Nat → Int) (hn : n < 256) (hR : RdO w te bl os) (hos : os.length ≤ 80) (ha64 : ∀ x ∈ os, x.2.1 ≤ 9223372036854775807) (hcu : ∀ x ∈ os, ∃ A n c, x.2.2.2.2 = .slice A n c) (hT : Tb w T) (hdb : Db w) :
    Calls Tryz.prog 5 #[.agg #[.int .u8 (n : Int), bl, .slice none 0 0]] w (PlayedPost w (64 + n % 40) ((48 + n % 40) / 16)) := by
  obtain ⟨A, cc, rfl⟩ := Rd.form hR
  obtain ⟨L, hL⟩ : ∃ L : Nat, 64 + n % 40 = L := ⟨_, rfl⟩
  have hLe : 64 + (n : Int) % 40 = (L : Int) := by omega
  have hC : (48 + n % 40) / 16 = (L - 16) / 16 := by omega
  rw [hC, hL]
  have hL1 : 64 ≤ L := by omega
  have hL2 : L ≤ 103 := by omega
  clear hL hC
  obtain ⟨C, hC⟩ : ∃ C : Nat, (L - 16) / 16 = C := ⟨_, rfl⟩
  have HPL := Lib.hid (fun w' => plan40 w' L hL1 hL2)
  rw [hC] at HPL ⊢
  clear hC
  have HR := Lib.hid hR
  have HA := Lib.hid ha64
  have HCU := Lib.hid hcu
  have HT := Lib.hid hT
  have HDB := Lib.hid hdb
  clear hR ha64 hT hdb hcu
  go_enter Tryz.func5, Tryz.ntmps5
  go_upto_region 1 with (fail)
  obtain ⟨w1, hw1⟩ : ∃ x, x = (w.alloc (.cells #[.int .u8 (n : Int), .slice A os.length cc, .slice none 0 0] 25)).alloc (.cells #[.int .i64 0, .int .i64 0, .int .i64 0, .int .i64 0, .int .i64 0, .int .i64 0, .int .i64 0, .int .i64 0, .pointer none, .pointer none, .pointer none] 34) := ⟨_, rfl⟩
  have hX1 : Cl w1 w.heap.size 25 #[.int .u8 (n : Int), .slice A os.length cc, .slice none 0 0] := by rw [hw1]; exact (Cl.new _ _ _).alloc _
  have hY1 : Cl w1 (w.heap.size + 1) 34 #[.int .i64 0, .int .i64 0, .int .i64 0, .int .i64 0, .int .i64 0, .int .i64 0, .int .i64 0, .int .i64 0, .pointer none, .pointer none, .pointer none] := by rw [hw1]; exact Cl.new_ _ _ _ _ (by simp)
  have hB1 : Below w.heap.size w w1 := by rw [hw1]; (repeat (first | with_reducible exact Below.refl _ _ | with_reducible assumption | with_reducible refine below_drewN ?_ _ | with_reducible refine Below.drew ?_ | with_reducible refine Below.alloc ?_ (by first | omega | (simp; omega) | simp) _ | with_reducible refine Below.setCell ?_ (by first | omega | (simp; omega) | simp) _))
  have hs1 : w1.heap.size = w.heap.size + 2 := by rw [hw1]; simp
  rw [← hw1]
  clear hw1
  obtain ⟨⟨x0, x1, x2⟩, -⟩ := hX1.has3
  have lx := hX1.lt
  have n80 : ¬ (80 : Int) < (os.length : Int) := by omega
  go_wp2_with fail
  refine (HPL.out _).mono ?_
  rintro e w2 ⟨rfl, hb⟩
  have hX2 := hX1.below hb hX1.lt
  have hY2 := hY1.below hb hY1.lt
  have hB2 := hB1.trans (hb.mono hB1.size)
  have hs2 := hb.size
  clear hX1 hY1 hB1 hb x0 x1 x2 lx
  go_upto_region 5 with (fail)
  obtain ⟨w3, hw3⟩ : ∃ x, x = w2.alloc (.cells #[.int .i64 (L : Int), .int .i64 2, .int .i64 8, .int .i64 10, .int .i64 4, .int .i64 14, .int .i64 16, .int .i64 (C : Int)] 29) := ⟨_, rfl⟩
  have hb3 : Below w2.heap.size w2 w3 := by rw [hw3]; (repeat (first | with_reducible exact Below.refl _ _ | with_reducible assumption | with_reducible refine below_drewN ?_ _ | with_reducible refine Below.drew ?_ | with_reducible refine Below.alloc ?_ (by first | omega | (simp; omega) | simp) _ | with_reducible refine Below.setCell ?_ (by first | omega | (simp; omega) | simp) _))
  have hZ3 : Cl w3 w2.heap.size 29 #[.int .i64 (L : Int), .int .i64 2, .int .i64 8, .int .i64 10, .int .i64 4, .int .i64 14, .int .i64 16, .int .i64 (C : Int)] := by rw [hw3]; exact Cl.new _ _ _
  have hX3 := hX2.below hb3 hX2.lt
  have hY3 := hY2.below hb3 hY2.lt
  have hB3 := hB2.trans (hb3.mono hB2.size)
  have hs3 : w3.heap.size = w2.heap.size + 1 := by rw [hw3]; simp
  rw [← hw3]
  clear hw3 hX2 hY2 hB2 hb3
  go_wp2_with fail
  refine (newG_calls _ L (by omega) (by omega)).mono ?_
  rintro e w4 ⟨gm, rfl, hM4, hb4⟩
  have hs4 := hb4.size
  have HM4 := Lib.hid hM4
  have HB4 := Lib.hid hb4
  clear hM4 hb4
  go_wp2_with fail
  refine (snew_calls _ L (by omega) (by omega)).mono ?_
  rintro e w5 ⟨gs, rfl, hS5, hb5⟩
  have hs5 := hb5.size
  have hPl := PlSt.new HM4.out HB4.out hS5 hb5
  have hb35 := HB4.out.trans (hb5.mono HB4.out.size)
  clear hS5 hb5 HM4 HB4
  obtain ⟨B, hBw⟩ : ∃ B, B = w3.heap.size := ⟨_, rfl⟩
  rw [← hBw] at hPl hb35
  have hGx3 : Gx B w3 T := ⟨HT.out.below hB3, HDB.out.below hB3, by have := HT.out.lt; omega, by have := HDB.out.lt; omega⟩
  have HGX := Lib.hid hGx3
  have HBW := Lib.hid hBw
  have hX5 := hX3.below hb35 (by omega)
  have hY5 := hY3.below hb35 (by omega)
  have hZ5 := hZ3.below hb35 (by omega)
  have hxB : w.heap.size < B := by omega
  have hyB : w.heap.size + 1 < B := by omega
  have hzB : w2.heap.size < B := by omega
  have HX3 := Lib.hid hX3
  have HY3 := Lib.hid hY3
  have HZ3 := Lib.hid hZ3
  have HB3 := Lib.hid hB3
  have HPl := Lib.hid hPl
  clear hGx3 hBw hY5 hZ5 hPl hX3 hY3 hZ3 hB3
  obtain ⟨⟨x0, x1, x2⟩, -⟩ := hX5.has3
  have lx := hX5.lt
  go_wp2_with fail
  go_loopw [9, 10] (fun v _ wr => PlydRel B w3 gm gs L os.length v wr) (fun v _ _ => os.length - (intOf v).toNat)
  case atStart => exact ⟨0, Nat.zero_le _, rfl, HPl.out⟩
  case round =>
    clear HPl hX5 x0 x1 x2 lx hb35 hs5 hs4
    obtain ⟨i, hi, rfl, hP⟩ := hrel
    have hb3r : Below B w3 wr := by obtain ⟨F, G, _, _, _, _, _, h⟩ := hP; exact h
    have hBr : B ≤ wr.heap.size := by obtain ⟨F, G, _, _, _, _, h, _⟩ := hP; exact h
    have hXr := HX3.out.below hb3r hxB
    obtain ⟨⟨x0, x1, x2⟩, -⟩ := hXr.has3
    have lx := hXr.lt
    have hi80 : i ≤ 80 := by omega
    by_cases hlt : i < os.length
    · obtain ⟨⟨k, a, b, f, cu⟩, ho⟩ : ∃ x, os[i]? = some x := ⟨_, List.getElem?_eq_getElem hlt⟩
      have ha := HA.out _ (List.mem_of_getElem? ho)
      obtain ⟨cuA, cuN, cuC, hcu⟩ := HCU.out _ (List.mem_of_getElem? ho)
      simp only at ha hcu
      subst hcu
      have hbr : Below w.heap.size w wr := HB3.out.trans (hb3r.mono (by omega))
      obtain ⟨bo, q, rfl, hbo, ⟨d0, d1, d2, d3, d4, d5, d6, d7, d8, d9, d10, d11⟩, hcc⟩ := RdO.at (show RdO wr te (.slice A os.length cc) os from Rd.below HR.out (hbr.mono (Nat.le_refl _))) ho
      have ii0 : (0 : Int) ≤ (i : Int) := by omega
      have ii1 : (i : Int) < (os.length : Int) := by omega
      clear ho hbr
      go_upto_if 56 with (fail)
      obtain ⟨wb, hwb⟩ : ∃ x, x = wr.alloc (.cells #[.int .i64 k, .int .i64 a, .int .i64 b, .int .i64 (f 0), .int .i64 (f 1), .int .i64 (f 2), .int .i64 (f 3), .int .i64 (f 4), .int .i64 (f 5), .int .i64 (f 6), .int .i64 (f 7), .slice cuA cuN cuC] 70) := ⟨_, rfl⟩
      have hbb : Below wr.heap.size wr wb := by rw [hwb]; (repeat (first | with_reducible exact Below.refl _ _ | with_reducible assumption | with_reducible refine below_drewN ?_ _ | with_reducible refine Below.drew ?_ | with_reducible refine Below.alloc ?_ (by first | omega | (simp; omega) | simp) _ | with_reducible refine Below.setCell ?_ (by first | omega | (simp; omega) | simp) _))
      have hO : Cl wb wr.heap.size 70 #[.int .i64 k, .int .i64 a, .int .i64 b, .int .i64 (f 0), .int .i64 (f 1), .int .i64 (f 2), .int .i64 (f 3), .int .i64 (f 4), .int .i64 (f 5), .int .i64 (f 6), .int .i64 (f 7), .slice cuA cuN cuC] := by rw [hwb]; exact Cl.new _ _ _
      have hsb : wb.heap.size = wr.heap.size + 1 := by rw [hwb]; simp
      rw [← hwb]
      have hPb : PlSt B (fun g => g = wr.heap.size) w3 wb gm gs L (4 * i) := hP.keep hbb (fun g hg => by omega)
      clear hwb hbb d0 d1 d2 d3 d4 d5 d6 d7 d8 d9 d10 d11 x0 x1 x2 lx hXr hP
      go_cut [] (fun wx => PlSt B (fun g => g = wr.heap.size) w3 wx gm gs L (4 * i + 2) ∧ Cl wx wr.heap.size 70 #[.int .i64 k, .int .i64 a, .int .i64 b, .int .i64 (f 0), .int .i64 (f 1), .int .i64 (f 2), .int .i64 (f 3), .int .i64 (f 4), .int .i64 (f 5), .int .i64 (f 6), .int .i64 (f 7), .slice cuA cuN cuC])
      case first =>
        by_cases hk8 : k < 8
        · obtain ⟨G', hS', hU', hafter⟩ := hPb.spec (fun g hg => by omega)
          have HAF := Lib.hid hafter
          have HS' := Lib.hid hS'
          have HU' := Lib.hid hU'
          have HO := Lib.hid hO
          have o0 := hO.cell 0
          have o1 := hO.cell 1
          have o2 := hO.cell 2
          have o3 := hO.cell 3
          have o4 := hO.cell 4
          have o5 := hO.cell 5
          have o6 := hO.cell 6
          have o7 := hO.cell 7
          have o8 := hO.cell 8
          have o9 := hO.cell 9
          have o10 := hO.cell 10
          have o11 := hO.cell 11
          simp only [List.getElem?_toArray, List.getElem?_cons_succ, List.getElem?_cons_zero] at o0 o1 o2 o3 o4 o5 o6 o7 o8 o9 o10 o11
          have lo := hO.lt
          clear hPb hafter hS' hU' hO
          go_wp2_with fail
          refine (sdo_calls G' _ gs L (4 * i) k a b f _ HS'.out (by omega) HU'.out ha hk8).mono ?_
          rintro e wq ⟨⟨r, er, rfl⟩, hS2, hgr⟩
          obtain ⟨hP2, hk2⟩ := HAF.out wq (4 * i + 2) hS2 hgr (by omega)
          have HP2 := Lib.hid hP2
          have HK2 := Lib.hid hk2
          clear hS2 hgr hP2 hk2
          go_wp2_with fail
          go_meet
          exact ⟨HP2.out, (HK2.out _ rfl).trans HO.out⟩
        · go_wp2_with fail
          go_meet
          exact ⟨hPb.mono (by omega), hO⟩
      case rest =>
        obtain ⟨hPx, hOx⟩ := hcut
        obtain ⟨wx, hwx⟩ : ∃ x : World, x = wc := ⟨_, rfl⟩
        subst hwx
        have o0 := hOx.cell 0
        have o1 := hOx.cell 1
        have o2 := hOx.cell 2
        have o3 := hOx.cell 3
        have o4 := hOx.cell 4
        have o5 := hOx.cell 5
        have o6 := hOx.cell 6
        have o7 := hOx.cell 7
        have o8 := hOx.cell 8
        have o9 := hOx.cell 9
        have o10 := hOx.cell 10
        have o11 := hOx.cell 11
        simp only [List.getElem?_toArray, List.getElem?_cons_succ, List.getElem?_cons_zero] at o0 o1 o2 o3 o4 o5 o6 o7 o8 o9 o10 o11
        have lo := hOx.lt
        obtain ⟨F', hM', hU', hB', hb0, hafter⟩ := hPx.prog (fun g hg => by omega)
        have hGx : Gx B wx T := HGX.out.keep hb0
        have HAF := Lib.hid hafter
        have HPX := Lib.hid hPx
        clear hPb hO hPx hOx hafter hb0
        by_cases hk07 : 0 ≤ k ∧ k ≤ 7
        · obtain h | h | h | h | h | h | h | h : k = 0 ∨ k = 1 ∨ k = 2 ∨ k = 3 ∨ k = 4 ∨ k = 5 ∨ k = 6 ∨ k = 7 := by omega
          all_goals (subst h; clear hk07)
          · go_wp2_with fail
            refine (storeW_calls B F' _ gm L a b T (4 * i + 2) hM' hGx (by omega) hU' hB' ha).mono ?_
            rintro e wy ⟨⟨r, rfl⟩, hM2, hg2⟩
            have HP3 := Lib.hid (HAF.out wy _ hM2 hg2 (by omega))
            clear hM2 hg2 hM' hU' hGx o0 o1 o2 o3 o4 o5 o6 o7 o8 o9 o10 o11 lo
            go_wp2_with fail
            go_roundw
            case rel => exact ⟨i + 1, by omega, by go_num, (HP3.out.free (fun g hg => hg.elim)).mono (by omega)⟩
            case measure => simp [intOf]; omega
          · go_wp2_with fail
            refine (publishW_calls B F' _ gm L a b T (4 * i + 2) hM' hGx (by omega) hU' hB' ha).mono ?_
            rintro e wy ⟨⟨r, rfl⟩, hM2, hg2⟩
            have HP3 := Lib.hid (HAF.out wy _ hM2 hg2 (by omega))
            clear hM2 hg2 hM' hU' hGx o0 o1 o2 o3 o4 o5 o6 o7 o8 o9 o10 o11 lo
            go_wp2_with fail
            go_roundw
            case rel => exact ⟨i + 1, by omega, by go_num, (HP3.out.free (fun g hg => hg.elim)).mono (by omega)⟩
            case measure => simp [intOf]; omega
          · go_wp2_with fail
            refine (spanW_calls B F' _ gm L a (4 * i + 2) hM').mono ?_
            rintro e wy ⟨rfl, hM2, hg2⟩
            have HP3 := Lib.hid (HAF.out wy _ hM2 hg2 (by omega))
            clear hM2 hg2 hM' hU' hGx o0 o1 o2 o3 o4 o5 o6 o7 o8 o9 o10 o11 lo
            go_wp2_with fail
            go_roundw
            case rel => exact ⟨i + 1, by omega, by go_num, (HP3.out.free (fun g hg => hg.elim)).mono (by omega)⟩
            case measure => simp [intOf]; omega
          · go_wp2_with fail
            refine (flushW_calls B F' _ gm L a (4 * i + 2) hM' (by omega) hU').mono ?_
            rintro e wy ⟨⟨r, rfl⟩, hM2, hg2⟩
            have HP3 := Lib.hid (HAF.out wy _ hM2 hg2 (by omega))
            clear hM2 hg2 hM' hU' hGx o0 o1 o2 o3 o4 o5 o6 o7 o8 o9 o10 o11 lo
            go_wp2_with fail
            go_roundw
            case rel => exact ⟨i + 1, by omega, by go_num, (HP3.out.free (fun g hg => hg.elim)).mono (by omega)⟩
            case measure => simp [intOf]; omega
          · go_wp2_with fail
            refine (fenceW_calls B F' _ gm L T (4 * i + 2) hM' hGx (by omega) hU' hB').mono ?_
            rintro e wy ⟨rfl, hM2, hg2⟩
            have HP3 := Lib.hid (HAF.out wy _ hM2 hg2 (by omega))
            clear hM2 hg2 hM' hU' hGx o0 o1 o2 o3 o4 o5 o6 o7 o8 o9 o10 o11 lo
            go_wp2_with fail
            go_roundw
            case rel => exact ⟨i + 1, by omega, by go_num, (HP3.out.free (fun g hg => hg.elim)).mono (by omega)⟩
            case measure => simp [intOf]; omega
          · go_wp2_with fail
            refine (evictW_calls B F' _ gm L a b T (4 * i + 2) hM' hGx (by omega) hU' hB').mono ?_
            rintro e wy ⟨⟨r, rfl⟩, hM2, hg2⟩
            have HP3 := Lib.hid (HAF.out wy _ hM2 hg2 (by omega))
            clear hM2 hg2 hM' hU' hGx o0 o1 o2 o3 o4 o5 o6 o7 o8 o9 o10 o11 lo
            go_wp2_with fail
            go_roundw
            case rel => exact ⟨i + 1, by omega, by go_num, (HP3.out.free (fun g hg => hg.elim)).mono (by omega)⟩
            case measure => simp [intOf]; omega
          · go_wp2_with fail
            refine (healW_calls B F' _ gm L a f T (4 * i + 2) hM' hGx (by omega) hU' hB').mono ?_
            rintro e wy ⟨⟨r, rfl⟩, hM2, hg2⟩
            have HP3 := Lib.hid (HAF.out wy _ hM2 hg2 (by omega))
            clear hM2 hg2 hM' hU' hGx o0 o1 o2 o3 o4 o5 o6 o7 o8 o9 o10 o11 lo
            go_wp2_with fail
            go_roundw
            case rel => exact ⟨i + 1, by omega, by go_num, (HP3.out.free (fun g hg => hg.elim)).mono (by omega)⟩
            case measure => simp [intOf]; omega
          · go_wp2_with fail
            refine (rotW_calls B F' _ gm L a f b (4 * i + 2) hM' (by omega) hU' hB').mono ?_
            rintro e wy ⟨⟨r, rfl⟩, hM2, hg2⟩
            have HP3 := Lib.hid (HAF.out wy _ hM2 hg2 (by omega))
            clear hM2 hg2 hM' hU' hGx o0 o1 o2 o3 o4 o5 o6 o7 o8 o9 o10 o11 lo
            go_wp2_with fail
            go_roundw
            case rel => exact ⟨i + 1, by omega, by go_num, (HP3.out.free (fun g hg => hg.elim)).mono (by omega)⟩
            case measure => simp [intOf]; omega
        · have k0 : (k == 0) = false := by simp; omega
          have k1 : (k == 1) = false := by simp; omega
          have k2 : (k == 2) = false := by simp; omega
          have k3 : (k == 3) = false := by simp; omega
          have k4 : (k == 4) = false := by simp; omega
          have k5 : (k == 5) = false := by simp; omega
          have k6 : (k == 6) = false := by simp; omega
          have k7 : (k == 7) = false := by simp; omega
          clear hM' hU' hGx hk07
          go_wp2_with fail
          go_roundw
          case rel => exact ⟨i + 1, by omega, by go_num, (HPX.out.free (fun g hg => hg.elim)).mono (by omega)⟩
          case measure => simp [intOf]; omega
    · have hin : ¬ (i : Int) < (os.length : Int) := by omega
      have HP := Lib.hid hP
      clear hP
      go_wp2_with fail
      refine (over_calls _ gm).mono ?_
      rintro e w6 ⟨rfl, rfl⟩
      go_wp2_with fail
      refine (rover_calls _ gs).mono ?_
      rintro e w7 ⟨rfl, rfl⟩
      obtain ⟨w7, hw7⟩ : ∃ x, x = (wr.alloc (.cells #[.pointer (some ⟨gm, 0, none⟩), .slice none 0 0] 100)).alloc (.cells #[.pointer (some ⟨gs, 0, none⟩), .slice none 0 0] 115) := ⟨_, rfl⟩
      have hb7 : Below wr.heap.size wr w7 := by rw [hw7]; (repeat (first | with_reducible exact Below.refl _ _ | with_reducible assumption | with_reducible refine below_drewN ?_ _ | with_reducible refine Below.drew ?_ | with_reducible refine Below.alloc ?_ (by first | omega | (simp; omega) | simp) _ | with_reducible refine Below.setCell ?_ (by first | omega | (simp; omega) | simp) _))
      have hV7 : Cl w7 wr.heap.size 100 #[.pointer (some ⟨gm, 0, none⟩), .slice none 0 0] := by rw [hw7]; exact (Cl.new _ _ _).alloc _
      have hsz7 : (wr.alloc (.cells #[.pointer (some ⟨gm, 0, none⟩), .slice none 0 0] 100)).heap.size = wr.heap.size + 1 := by simp
      rw [← hw7]
      rw [hsz7]
      clear hw7 hsz7
      have hP7 := HP.out.below hb7
      have hb37 : Below B w3 w7 := by obtain ⟨F, G, _, _, _, _, _, h⟩ := hP7; exact h
      have hX7 := HX3.out.below hb37 hxB
      have hY7 := HY3.out.below hb37 hyB
      have hZ7 := HZ3.out.below hb37 hzB
      have HP7 := Lib.hid hP7
      have HB7 := Lib.hid (HB3.out.trans (hb37.mono (by omega)))
      have HV7 := Lib.hid hV7
      clear hXr x0 x1 x2 lx hP7 hb37 hb7 hV7 hb3r HP
      obtain ⟨⟨x0, x1, x2⟩, -⟩ := hX7.has3
      have lx := hX7.lt
      obtain ⟨z0, z1, z2, z3, z4, z5, z6, z7⟩ := hZ7.cells8
      have lz := hZ7.lt
      have ly := hY7.lt
      have u0 := hY7.cell 0
      have u1 := hY7.cell 1
      have u2 := hY7.cell 2
      have u3 := hY7.cell 3
      have u4 := hY7.cell 4
      have u5 := hY7.cell 5
      have u6 := hY7.cell 6
      have u7 := hY7.cell 7
      have u8 := hY7.cell 8
      have u9 := hY7.cell 9
      have u10 := hY7.cell 10
      simp only [List.getElem?_toArray, List.getElem?_cons_succ, List.getElem?_cons_zero] at u0 u1 u2 u3 u4 u5 u6 u7 u8 u9 u10
      have v0 := hY7.free 0
      have v1 := hY7.free 1
      have v2 := hY7.free 2
      have v3 := hY7.free 3
      have v4 := hY7.free 4
      have v5 := hY7.free 5
      have v6 := hY7.free 6
      have v7 := hY7.free 7
      have v8 := hY7.free 8
      have v9 := hY7.free 9
      have v10 := hY7.free 10
      go_wp2_with fail
      refine wp_loop_rounds 1 ?_
      rw [rounds_succ]
      go_wp2_with fail
      obtain ⟨F, G, hMf, -, hFf, -, hBf, -⟩ := HP7.out
      refine bodyPost_ret (v := .tuple #[.agg #[.int .i64 (L : Int), .int .i64 2, .int .i64 8, .int .i64 10, .int .i64 4, .int .i64 14, .int .i64 16, .int .i64 (C : Int), .pointer (some ⟨gm, 0, none⟩), .pointer (some ⟨wr.heap.size, 0, none⟩), .pointer (some ⟨wr.heap.size + 1, 0, none⟩)], .bool true]) ?_ rfl ?_
      · simp [results, Tryz.results5, go_sem, *]
      · refine ⟨gm, wr.heap.size, wr.heap.size + 1, B, F, rfl, (MemW.mono hMf (by omega)).carry (fun g hg hlt => ?_), ?_, ?_⟩
        · have hne : g ≠ w.heap.size + 1 := by have := (hFf g hg).1; omega
          repeat refine (Below.heap_setCell _ _ _ _ hne).trans ?_
          rfl
        · have hne : wr.heap.size ≠ w.heap.size + 1 := by omega
          repeat refine Cl.far ?_ hne _
          exact HV7.out
        · repeat refine Below.setCell ?_ (by show _ ≤ w.heap.size + 1; omega) _
          exact HB7.out
end Go.Proofs.YtckamjbdogpacaaGreatDoor
