/-
  The specification's memory: what lies where; has, word, Words, State.
  The specification's memory: Set, Flush; an event is noted.
-/
import Derived.Test.YtckamjbdogpacaaGreatDoorSpC
namespace Go.Proofs.YtckamjbdogpacaaGreatDoor
open Go.RowKit
set_option linter.unusedSimpArgs false
set_option linter.unusedVariables false

/-- One line of the specification's memory. -/
def SLine (w : World) (cur : Array Value) (i E : Nat) (G : Nat → Prop) : Prop := ∃ (f : Nat → Int) (c : Int) (v : Value) (m : Nat) (ps : List (Nat × Int)), (∀ j, j < 8 → cur[i * 11 + j]? = some (.int .i64 (f j))) ∧ cur[i * 11 + 8]? = some (.int .i64 c) ∧ cur[i * 11 + 9]? = some v ∧ cur[i * 11 + 10]? = some (.int .i64 (m : Int)) ∧ m ≤ ps.length ∧
  w.ownsRow 0 137 2 v ps.length (stCells ps) ∧ ps.length ≤ E ∧ StIn ps ∧ ∀ b, v.ownBlock = some b → G b
/-- The specification's memory at block 'gs': its blocks are of 'G'. -/
def MemS (G : Nat → Prop) (w : World) (gs L E : Nat) : Prop :=
  ∃ gl cap cur sp Ae ne ce xs, L ≤ 200 ∧ L ≤ cap ∧ Cl w gs 106 #[.slice (some ⟨gl, 0, none⟩) L cap, .int .i64 sp, .slice Ae ne ce] ∧ Cl w gl 108 cur ∧ L * 11 ≤ cur.size ∧ (∀ i, i < L → SLine w cur i E G) ∧
    w.ownsRow 0 111 12 (.slice Ae ne ce) ne xs ∧ ne ≤ E ∧ G gs ∧ G gl ∧ ∀ b, (Value.slice Ae ne ce).ownBlock = some b → G b

theorem own_carry {w w' : World} {G : Nat → Prop} (hk : ∀ g, G g → g < w.heap.size → w'.heap[g]? = w.heap[g]?) {base : Nat} {t : TypeId} {size n : Nat} {v : Value} {ys : List Value} (hf : ∀ b, v.ownBlock = some b → G b) (ho : w.ownsRow base t size v n ys) : w'.ownsRow base t size v n ys := by
  refine ⟨ho.1, ?_⟩
  rcases ho.2 with hn | ⟨g, cap, cu, rfl, hbg, hg, rest⟩
  · exact .inl hn
  · exact .inr ⟨g, cap, cu, rfl, hbg, (hk g (hf g (by simp [Value.ownBlock])) (lt_of_heap hg)).trans hg, rest⟩
theorem MemS.carry {G : Nat → Prop} {w w' : World} {gs L E : Nat} (h : MemS G w gs L E) (hk : ∀ g, G g → g < w.heap.size → w'.heap[g]? = w.heap[g]?) : MemS G w' gs L E := by
  obtain ⟨gl, cap, cur, sp, Ae, ne, ce, xs, h1, h2, hS, hL, h3, hP, hE, hn, g1, g2, g3⟩ := h
  refine ⟨gl, cap, cur, sp, Ae, ne, ce, xs, h1, h2, (hk _ g1 hS.lt).trans hS, (hk _ g2 hL.lt).trans hL, h3, fun i hi => ?_, own_carry hk g3 hE, hn, g1, g2, g3⟩
  obtain ⟨f, c, v, m, ps, a, b, d, e, e1, e2, e3, e4, e5⟩ := hP i hi
  exact ⟨f, c, v, m, ps, a, b, d, e, e1, own_carry hk e5 e2, e3, e4, e5⟩
theorem MemS.below {G : Nat → Prop} {w w' : World} {gs L E : Nat} (h : MemS G w gs L E) (hb : Below w.heap.size w w') : MemS G w' gs L E := h.carry (fun g _ hg => hb.block g hg)
theorem MemS.mono {G : Nat → Prop} {w : World} {gs L E E' : Nat} (h : MemS G w gs L E) (hE : E ≤ E') : MemS G w gs L E' := by
  obtain ⟨gl, cap, cur, sp, Ae, ne, ce, xs, h1, h2, hS, hL, h3, hP, hEv, hn, g1, g2, g3⟩ := h
  refine ⟨gl, cap, cur, sp, Ae, ne, ce, xs, h1, h2, hS, hL, h3, fun i hi => ?_, hEv, by omega, g1, g2, g3⟩
  obtain ⟨f, c, v, m, ps, a, b, d, e, e1, e2, e3, e4, e5⟩ := hP i hi
  exact ⟨f, c, v, m, ps, a, b, d, e, e1, e2, by omega, e4, e5⟩
/-- Only blocks of 'G' have changed. -/
def GrewS (G : Nat → Prop) (w w' : World) : Prop := w'.os = w.os ∧ w'.tape = w.tape ∧ w'.output = w.output ∧ w.heap.size ≤ w'.heap.size ∧ ∀ g, g < w.heap.size → w'.heap[g]? = w.heap[g]? ∨ G g
section
variable {G : Nat → Prop} {w w' w'' : World}
theorem GrewS.of_below (hb : Below w.heap.size w w') : GrewS G w w' := ⟨hb.os, hb.tape, hb.output, hb.size, fun g hg => .inl (hb.block g hg)⟩
theorem GrewS.size (h : GrewS G w w') : w.heap.size ≤ w'.heap.size := h.2.2.2.1
theorem GrewS.trans (h : GrewS G w w') (h' : GrewS G w' w'') : GrewS G w w'' := by
  refine ⟨h'.1.trans h.1, h'.2.1.trans h.2.1, h'.2.2.1.trans h.2.2.1, Nat.le_trans h.size h'.size, fun g hg => ?_⟩
  rcases h.2.2.2.2 g hg with h1 | h1
  · rcases h'.2.2.2.2 g (Nat.lt_of_lt_of_le hg h.size) with h2 | h2
    · exact .inl (h2.trans h1)
    · exact .inr h2
  · exact .inr h1
theorem GrewS.set {g : Nat} (hf : G g) (i : Nat) (u : Value) : GrewS G w (w.setCell ⟨g, i, none⟩ u) := by
  refine ⟨by simp [World.setCell], by simp [World.setCell], by simp [World.setCell], by simp [World.setCell], fun k hk => ?_⟩
  by_cases hkg : k = g
  · subst hkg
    exact .inr hf
  · exact .inl (Below.heap_setCell _ _ _ _ hkg)
theorem GrewS.of_grown {v : Value} (hgr : w.grownBy w' v.ownBlock) (hf : ∀ b, v.ownBlock = some b → G b) : GrewS G w w' := by
  refine ⟨hgr.os, hgr.tape, hgr.output, hgr.size, fun k hk => ?_⟩
  by_cases hkb : some k = v.ownBlock
  · exact .inr (hf k hkb.symm)
  · exact .inl (hgr.block k hk hkb)
end

set_option maxHeartbeats 400000 in
theorem shas_calls (w : World) (gm L : Nat) (n : Int) (A : Option Addr) (c : Nat) (hm : w.cell? ⟨gm, 0, none⟩ = some (.slice A L c)) (_hL : L ≤ 200) :
    Calls Tryz.prog 86 #[.pointer (some ⟨gm, 0, none⟩), .int .i64 n] w fun e w' => e = .returned (.bool (hasB n L)) ∧ w = w' := by
  by_cases h0 : 0 ≤ n
  · by_cases h1 : n < L
    · have HR : Hid (hasB n L = true) := decide_eq_true ⟨h0, h1⟩
      have b1 : decide (n < (L : Int)) = true := decide_eq_true h1
      go_enter Tryz.func86, Tryz.ntmps86
      go_wp2
      go_ret
      exact ⟨by rw [HR.out, ← b1]; rfl, rfl⟩
    · have HR : Hid (hasB n L = false) := decide_eq_false (by omega)
      have b1 : decide (n < (L : Int)) = false := decide_eq_false h1
      go_enter Tryz.func86, Tryz.ntmps86
      go_wp2
      go_ret
      exact ⟨by rw [HR.out, ← b1]; rfl, rfl⟩
  · have HR : Hid (hasB n L = false) := decide_eq_false (by omega)
    go_enter Tryz.func86, Tryz.ntmps86
    go_wp2
    go_ret
    exact ⟨by rw [HR.out]; rfl, rfl⟩

set_option maxHeartbeats 400000 in
theorem sword_calls (w : World) (v : Int) : Calls Tryz.prog 107 #[.int .i64 v] w fun e w' => e = .returned (.bool (wordB v)) ∧ w = w' := by
  by_cases h0 : 0 ≤ v
  · by_cases h1 : v ≤ 1099511627775
    · have HR : Hid (wordB v = true) := decide_eq_true ⟨h0, h1⟩
      have b1 : decide (v ≤ 1099511627775) = true := decide_eq_true h1
      go_enter Tryz.func107, Tryz.ntmps107
      go_wp2
      go_ret
      exact ⟨by rw [HR.out, ← b1]; rfl, rfl⟩
    · have HR : Hid (wordB v = false) := decide_eq_false (by omega)
      have b1 : decide (v ≤ 1099511627775) = false := decide_eq_false h1
      go_enter Tryz.func107, Tryz.ntmps107
      go_wp2
      go_ret
      exact ⟨by rw [HR.out, ← b1]; rfl, rfl⟩
  · have HR : Hid (wordB v = false) := decide_eq_false (by omega)
    go_enter Tryz.func107, Tryz.ntmps107
    go_wp2
    go_ret
    exact ⟨by rw [HR.out]; rfl, rfl⟩

def SwPost (w : World) (e : Ending) (w' : World) : Prop := (∃ b, e = .returned (.bool b)) ∧ Below w.heap.size w w'
set_option maxRecDepth 100000 in
set_option maxHeartbeats 1000000 in
theorem swords_calls (w : World) (f : Nat → Int) : Calls Tryz.prog 88 #[.agg #[.int .i64 (f 0), .int .i64 (f 1), .int .i64 (f 2), .int .i64 (f 3), .int .i64 (f 4), .int .i64 (f 5), .int .i64 (f 6), .int .i64 (f 7)]] w (SwPost w) := by
  have hX := Cl.new w 67 #[.int .i64 (f 0), .int .i64 (f 1), .int .i64 (f 2), .int .i64 (f 3), .int .i64 (f 4), .int .i64 (f 5), .int .i64 (f 6), .int .i64 (f 7)]
  have hA : Below w.heap.size w (w.alloc (.cells #[.int .i64 (f 0), .int .i64 (f 1), .int .i64 (f 2), .int .i64 (f 3), .int .i64 (f 4), .int .i64 (f 5), .int .i64 (f 6), .int .i64 (f 7)] 67)) := by (repeat (first | with_reducible exact Below.refl _ _ | with_reducible assumption | with_reducible refine below_drewN ?_ _ | with_reducible refine Below.drew ?_ | with_reducible refine Below.alloc ?_ (by first | omega | (simp; omega) | simp) _ | with_reducible refine Below.setCell ?_ (by first | omega | (simp; omega) | simp) _))
  obtain ⟨w0, hw0⟩ : ∃ x, x = w.alloc (.cells #[.int .i64 (f 0), .int .i64 (f 1), .int .i64 (f 2), .int .i64 (f 3), .int .i64 (f 4), .int .i64 (f 5), .int .i64 (f 6), .int .i64 (f 7)] 67) := ⟨_, rfl⟩
  rw [← hw0] at hX hA
  have HW0 := Lib.hid hw0
  have HA := Lib.hid hA
  clear hw0 hA
  go_enter Tryz.func88, Tryz.ntmps88
  go_wp2_with fail
  rw [← HW0.out]
  go_loopw [3] (fun v wr => CkdRel w0 8 v wr) (fun v _ => 8 - (intOf v).toNat)
  case atStart => exact ⟨0, by omega, rfl, rfl⟩
  case round =>
    obtain ⟨k, hk, rfl, rfl⟩ := hrel
    by_cases hlt : k < 8
    · have hc := (hX.cell k).trans (w8_get f k hlt)
      have ki1 : (k : Int) < 8 := by omega
      go_wp2_with fail
      refine (sword_calls _ (f k)).mono ?_
      rintro e w1 ⟨rfl, rfl⟩
      cases wordB (f k) with
      | false =>
        go_wp2_with fail
        go_ret
        exact ⟨⟨_, rfl⟩, HA.out⟩
      | true =>
        go_wp2_with fail
        go_roundw
        case rel => exact ⟨k + 1, by omega, by go_num, rfl⟩
        case measure => simp [intOf]; omega
    · have k9 : ¬ (k : Int) < 8 := by omega
      go_wp2_with fail
      go_ret
      exact ⟨⟨_, rfl⟩, HA.out⟩

theorem MemS.line {G : Nat → Prop} {w : World} {gs L E : Nat} (hM : MemS G w gs L E) {n : Nat} (hn : n < L) :
    ∃ gl cap f c v ps, LineG w gl n f c v ∧ w.cell? ⟨gs, 0, none⟩ = some (.slice (some ⟨gl, 0, none⟩) L cap) ∧ L ≤ 200 ∧ L ≤ cap ∧ gs < w.heap.size ∧ gl < w.heap.size ∧ w.ownsRow 0 137 2 v ps.length (stCells ps) ∧ ps.length ≤ E ∧ StIn ps ∧ ∃ m : Nat, w.cell? ⟨gl, n * 11 + 10, none⟩ = some (.int .i64 (m : Int)) ∧ m ≤ ps.length := by
  obtain ⟨gl, cap, cur, sp, Ae, ne, ce, xs, h1, h2, hS, hL, h3, hP, hEv, hne, g1, g2, g3⟩ := hM
  obtain ⟨f, c, v, m, ps, a, b, d, e, e1, e2, e3, e4, e5⟩ := hP n hn
  have g : ∀ j, j < 8 → w.cell? ⟨gl, n * 11 + j, none⟩ = some (.int .i64 (f j)) := fun j hj => (hL.cell _).trans (a j hj)
  have m0 := hS.cell 0
  simp only [List.getElem?_toArray, List.getElem?_cons_zero] at m0
  exact ⟨gl, cap, f, c, v, ps, ⟨⟨g 0 (by omega), g 1 (by omega), g 2 (by omega), g 3 (by omega), g 4 (by omega), g 5 (by omega), g 6 (by omega), g 7 (by omega), (hL.cell _).trans b⟩, (hL.cell _).trans d⟩, m0, h1, h2, hS.lt, hL.lt, e2, e3, e4, m, (hL.cell _).trans e, e1⟩
theorem MemS.head {G : Nat → Prop} {w : World} {gs L E : Nat} (hM : MemS G w gs L E) : ∃ gl cap, w.cell? ⟨gs, 0, none⟩ = some (.slice (some ⟨gl, 0, none⟩) L cap) ∧ L ≤ 200 := by
  obtain ⟨gl, cap, cur, sp, Ae, ne, ce, xs, h1, h2, hS, hL, h3, hP, hEv, hne, g1, g2, g3⟩ := hM
  have m0 := hS.cell 0
  simp only [List.getElem?_toArray, List.getElem?_cons_zero] at m0
  exact ⟨gl, cap, m0, h1⟩

def StPost (w : World) (e : Ending) (w' : World) : Prop := (∃ s : Int, e = .returned (.int .i64 s)) ∧ Below w.heap.size w w'
set_option maxRecDepth 100000 in
set_option maxHeartbeats 2000000 in
theorem sstate_calls (G : Nat → Prop) (w : World) (gm L E : Nat) (z : Int) (hM : MemS G w gm L E) :
    Calls Tryz.prog 90 #[.pointer (some ⟨gm, 0, none⟩), .int .i64 z] w (StPost w) := by
  obtain ⟨gl0, cap0, m0, hL0⟩ := hM.head
  by_cases hz : 0 ≤ z ∧ z < L
  · obtain ⟨n, rfl⟩ : ∃ n : Nat, z = n := ⟨z.toNat, by omega⟩
    have hn : n < L := by omega
    have hhas : hasB (n : Int) L = true := by simp [hasB]; omega
    clear hz m0
    obtain ⟨gl, cap, f, cd, v, ps, ⟨⟨l0, l1, l2, l3, l4, l5, l6, l7, l8⟩, l9⟩, m0, hL200, hcap, hgm, hgl, -⟩ := hM.line hn
    have ni0 : (0 : Int) ≤ (n : Int) := by omega
    have ni1 : (n : Int) < (L : Int) := by omega
    clear hM l9
    go_enter Tryz.func90, Tryz.ntmps90
    go_wp2_with fail
    refine (shas_calls _ gm L (n : Int) _ _ m0 hL200).mono ?_
    rintro e w1 ⟨rfl, rfl⟩
    rw [hhas]
    go_wp2_with fail
    go_region_held3 (fun w' => w'.cell? ⟨gm, 0, none⟩ = some (.slice (some ⟨gl, 0, none⟩) L cap) ∧ w'.cell? ⟨gl, n * 11, none⟩ = some (.int .i64 (f 0)) ∧ w'.cell? ⟨gl, n * 11 + 1, none⟩ = some (.int .i64 (f 1)) ∧ w'.cell? ⟨gl, n * 11 + 2, none⟩ = some (.int .i64 (f 2)) ∧ w'.cell? ⟨gl, n * 11 + 3, none⟩ = some (.int .i64 (f 3)) ∧ w'.cell? ⟨gl, n * 11 + 4, none⟩ = some (.int .i64 (f 4)) ∧ w'.cell? ⟨gl, n * 11 + 5, none⟩ = some (.int .i64 (f 5)) ∧ w'.cell? ⟨gl, n * 11 + 6, none⟩ = some (.int .i64 (f 6)) ∧ w'.cell? ⟨gl, n * 11 + 7, none⟩ = some (.int .i64 (f 7)) ∧ w'.cell? ⟨gl, n * 11 + 8, none⟩ = some (.int .i64 cd)) (go_keep)
      (first | (go_at_call 109; refine (scheck_calls _ f cd).mono ?_; rintro e wa ⟨⟨st, aa, bb, rfl⟩, ba0⟩; (have ba : Below w.heap.size w wa := (by first | exact below_of_drew ba0 | exact ba0)); (have em := (ba.cell (p := ⟨gm, 0, none⟩) hgm).trans m0); (have e0 := (ba.cell (p := ⟨gl, n * 11, none⟩) hgl).trans l0); (have e1 := (ba.cell (p := ⟨gl, n * 11 + 1, none⟩) hgl).trans l1); (have e2 := (ba.cell (p := ⟨gl, n * 11 + 2, none⟩) hgl).trans l2); (have e3 := (ba.cell (p := ⟨gl, n * 11 + 3, none⟩) hgl).trans l3); (have e4 := (ba.cell (p := ⟨gl, n * 11 + 4, none⟩) hgl).trans l4); (have e5 := (ba.cell (p := ⟨gl, n * 11 + 5, none⟩) hgl).trans l5); (have e6 := (ba.cell (p := ⟨gl, n * 11 + 6, none⟩) hgl).trans l6); (have e7 := (ba.cell (p := ⟨gl, n * 11 + 7, none⟩) hgl).trans l7); (have e8 := (ba.cell (p := ⟨gl, n * 11 + 8, none⟩) hgl).trans l8); (have sa := ba.size)))
    go_wp2_with fail
    go_ret
    exact ⟨⟨st, rfl⟩, ba⟩
  · have hhas : hasB z L = false := by simp [hasB]; omega
    clear hM
    go_enter Tryz.func90, Tryz.ntmps90
    go_wp2_with fail
    refine (shas_calls _ gm L z _ _ m0 hL0).mono ?_
    rintro e w1 ⟨rfl, rfl⟩
    rw [hhas]
    go_wp2_with fail
    go_ret
    exact ⟨⟨_, rfl⟩, by (repeat (first | with_reducible exact Below.refl _ _ | with_reducible assumption | with_reducible refine below_drewN ?_ _ | with_reducible refine Below.drew ?_ | with_reducible refine Below.alloc ?_ (by first | omega | (simp; omega) | simp) _ | with_reducible refine Below.setCell ?_ (by first | omega | (simp; omega) | simp) _))⟩
end Go.Proofs.YtckamjbdogpacaaGreatDoor

namespace Go.Proofs.YtckamjbdogpacaaGreatDoor
open Go.RowKit
set_option linter.unusedSimpArgs false
set_option linter.unusedVariables false

def SV (G : Nat → Prop) (w : World) (gs L E : Nat) (e : Ending) (w' : World) : Prop := e = .returned (.tuple #[]) ∧ MemS G w' gs L E ∧ GrewS G w w'
def SR (G : Nat → Prop) (w : World) (gs L E : Nat) (e : Ending) (w' : World) : Prop := (∃ r, e = .returned (.int .i64 r)) ∧ MemS G w' gs L E ∧ GrewS G w w'

theorem MemS.span {G : Nat → Prop} {w : World} {gs L E : Nat} (h : MemS G w gs L E) (k : Int) : MemS G (w.setCell ⟨gs, 1, none⟩ (.int .i64 k)) gs L E ∧ GrewS G w (w.setCell ⟨gs, 1, none⟩ (.int .i64 k)) := by
  obtain ⟨gl, cap, cur, sp, Ae, ne, ce, xs, h1, h2, hS, hL, h3, hP, hEv, hn, g1, g2, g3⟩ := h
  refine ⟨⟨gl, cap, cur, k, Ae, ne, ce, xs, h1, h2, hS.set_ 1 _, hL.far (Cl.apart hL hS (by decide)) _, h3, fun i hi => ?_, own_far hEv hS (by decide) _ _, hn, g1, g2, g3⟩, GrewS.set g1 _ _⟩
  obtain ⟨f, c, v, m, ps, a, b, d, e, e1, e2, e3, e4, e5⟩ := hP i hi
  exact ⟨f, c, v, m, ps, a, b, d, e, e1, own_far e2 hS (by decide) _ _, e3, e4, e5⟩

/-- An event more. -/
theorem MemS.ev {G : Nat → Prop} {w wn w1 : World} {gs L E gl cap : Nat} {cur : Array Value} {sp : Int} {Ae : Option Addr} {ne ce gg cc : Nat} {xs ys : List Value} (h1 : L ≤ 200) (h2 : L ≤ cap) (hS : Cl w gs 106 #[.slice (some ⟨gl, 0, none⟩) L cap, .int .i64 sp, .slice Ae ne ce]) (hL : Cl w gl 108 cur) (h3 : L * 11 ≤ cur.size) (hP : ∀ i, i < L → SLine w cur i E G)
    (hn : ne ≤ E) (g1 : G gs) (g2 : G gl) (g3 : ∀ b, (Value.slice Ae ne ce).ownBlock = some b → G b) (hbel : Below w.heap.size w wn) (hEvn : wn.ownsRow 0 111 12 (.slice Ae ne ce) ne xs) (hgrow : wn.grownBy w1 (Value.slice Ae ne ce).ownBlock) (hfg : G gg)
    (hown : w1.ownsRow 0 111 12 (.slice (some ⟨gg, 0, none⟩) (ne + 1) cc) (ne + 1) ys) :
    MemS G (w1.setCell ⟨gs, 2, none⟩ (.slice (some ⟨gg, 0, none⟩) (ne + 1) cc)) gs L (E + 1) ∧ GrewS G w (w1.setCell ⟨gs, 2, none⟩ (.slice (some ⟨gg, 0, none⟩) (ne + 1) cc)) := by
  have hgr := Grew.of_grown hEvn hgrow
  have hS1 := hgr.cl (hS.below hbel hS.lt) (.inl (by decide))
  have hL1 := hgr.cl (hL.below hbel hL.lt) (.inl (by decide))
  refine ⟨⟨gl, cap, cur, sp, some ⟨gg, 0, none⟩, ne + 1, cc, ys, h1, h2, hS1.set_ 2 _, hL1.far (Cl.apart hL1 hS1 (by decide)) _, h3, fun i hi => ?_, own_far hown hS1 (by decide) _ _, by omega, g1, g2, fun b hb => by simp only [Value.ownBlock, Option.some.injEq] at hb; exact hb ▸ hfg⟩, ((GrewS.of_below hbel).trans (GrewS.of_grown hgrow g3)).trans (GrewS.set g1 _ _)⟩
  obtain ⟨f, c, v, m, ps, a, b, d, e, e1, e2, e3, e4, e5⟩ := hP i hi
  exact ⟨f, c, v, m, ps, a, b, d, e, e1, own_far (hgr.own (own_below e2 hbel) (by decide)) hS1 (by decide) _ _, by omega, e4, e5⟩

set_option maxRecDepth 100000 in
set_option maxHeartbeats 1000000 in
theorem sset_calls (G : Nat → Prop) (w : World) (gm L E : Nat) (n : Int) (hM : MemS G w gm L E) :
    Calls Tryz.prog 55 #[.pointer (some ⟨gm, 0, none⟩), .int .i64 n] w (SV G w gm L E) := by
  have HS := Lib.hid (fun w' (hb : Below w.heap.size w w') k => (hM.below hb).span k)
  obtain ⟨gl, cap, cur, sp, Ae, ne, ce, xs, h1, h2, hS, -⟩ := hM
  have m1 := hS.cell 1
  have f1 := hS.free 1
  simp only [List.getElem?_toArray, List.getElem?_cons_succ, List.getElem?_cons_zero] at m1
  clear hS
  go_enter Tryz.func55, Tryz.ntmps55
  go_wp2_with fail
  all_goals
    go_end0
    exact ⟨rfl, HS.out _ (Below.refl _ _) _⟩

/-- A line's mark is stored. -/
theorem MemS.mark {G : Nat → Prop} {w : World} {gs L E gl cap n : Nat} {cur : Array Value} {sp : Int} {Ae : Option Addr} {ne ce : Nat} {xs : List Value} (h1 : L ≤ 200) (h2 : L ≤ cap) (hS : Cl w gs 106 #[.slice (some ⟨gl, 0, none⟩) L cap, .int .i64 sp, .slice Ae ne ce]) (hL : Cl w gl 108 cur) (h3 : L * 11 ≤ cur.size) (hP : ∀ i, i < L → SLine w cur i E G)
    (hEv : w.ownsRow 0 111 12 (.slice Ae ne ce) ne xs) (hne : ne ≤ E) (g1 : G gs) (g2 : G gl) (g3 : ∀ b, (Value.slice Ae ne ce).ownBlock = some b → G b) (hn : n < L)
    (k : Nat) (hk : ∀ (f : Nat → Int) (c : Int) (v : Value) (m : Nat) (ps : List (Nat × Int)), (∀ j, j < 8 → cur[n * 11 + j]? = some (.int .i64 (f j))) → cur[n * 11 + 8]? = some (.int .i64 c) → cur[n * 11 + 9]? = some v → cur[n * 11 + 10]? = some (.int .i64 (m : Int)) → w.ownsRow 0 137 2 v ps.length (stCells ps) → k ≤ ps.length) :
    MemS G (w.setCell ⟨gl, n * 11 + 10, none⟩ (.int .i64 (k : Int))) gs L E ∧ GrewS G w (w.setCell ⟨gl, n * 11 + 10, none⟩ (.int .i64 (k : Int))) := by
  refine ⟨⟨gl, cap, _, sp, Ae, ne, ce, xs, h1, h2, hS.far (Cl.apart hS hL (by decide)) _, hL.set_ _ _, by simpa using h3, fun i hi => ?_, own_far hEv hL (by decide) _ _, hne, g1, g2, g3⟩, GrewS.set g2 _ _⟩
  obtain ⟨f, c, v, m, ps, a, b, d, e, e1, e2, e3, e4, e5⟩ := hP i hi
  by_cases hin : i = n
  · subst hin
    exact ⟨f, c, v, k, ps, fun j hj => (Array.getElem?_setIfInBounds_ne (by omega)).trans (a j hj), (Array.getElem?_setIfInBounds_ne (by omega)).trans b, (Array.getElem?_setIfInBounds_ne (by omega)).trans d, Array.getElem?_setIfInBounds_self_of_lt (by omega), hk f c v m ps a b d e e2, own_far e2 hL (by decide) _ _, e3, e4, e5⟩
  · exact ⟨f, c, v, m, ps, fun j hj => (Array.getElem?_setIfInBounds_ne (by omega)).trans (a j hj), (Array.getElem?_setIfInBounds_ne (by omega)).trans b, (Array.getElem?_setIfInBounds_ne (by omega)).trans d, (Array.getElem?_setIfInBounds_ne (by omega)).trans e, e1, own_far e2 hL (by decide) _ _, e3, e4, e5⟩

set_option maxRecDepth 100000 in
set_option maxHeartbeats 2000000 in
theorem sflush_calls (G : Nat → Prop) (w : World) (gm L E : Nat) (z : Int) (hM : MemS G w gm L E) (hE : E ≤ 900) (hU : Up G w.heap.size) :
    Calls Tryz.prog 56 #[.pointer (some ⟨gm, 0, none⟩), .int .i64 z] w (SR G w gm L (E + 1)) := by
  have HSAME : Hid (∀ w', Below w.heap.size w w' → MemS G w' gm L (E + 1) ∧ GrewS G w w') := fun w' hb => ⟨(hM.below hb).mono (by omega), GrewS.of_below hb⟩
  obtain ⟨i0, hi0, hz0, hz1, hz2⟩ := info_parts ev_info
  obtain ⟨gl, cap, cur, sp, Ae, ne, ce, xs, h1, h2, hS, hL, h3, hP, hEv, hne, g1, g2, g3⟩ := hM
  have m0 := hS.cell 0
  simp only [List.getElem?_toArray, List.getElem?_cons_zero] at m0
  by_cases hz : 0 ≤ z ∧ z < L
  · obtain ⟨n, rfl⟩ : ∃ n : Nat, z = n := ⟨z.toNat, by omega⟩
    have hn : n < L := by omega
    have hhas : hasB (n : Int) L = true := by simp [hasB]; omega
    have ni0 : (0 : Int) ≤ (n : Int) := by omega
    have ni1 : (n : Int) < (L : Int) := by omega
    clear hz
    obtain ⟨f, c, v, m, ps, a, b, d, e, e1, e2, e3, e4, e5⟩ := hP n hn
    obtain ⟨Av, cv, rfl⟩ := (Rd.own e2).form
    have l9 := (hL.cell (n * 11 + 9)).trans d
    have l10 := (hL.cell (n * 11 + 10)).trans e
    have f10 := hL.free (n * 11 + 10)
    have hgl := hL.lt
    have hgm := hS.lt
    have ngl : ¬ gm = gl := Cl.apart hS hL (by decide)
    have ngl' : ¬ gl = gm := fun h => ngl h.symm
    have hF : ∀ W, Below w.heap.size w W → MemS G (W.setCell ⟨gl, n * 11 + 10, none⟩ (.int .i64 (ps.length : Int))) gm L E ∧ GrewS G w (W.setCell ⟨gl, n * 11 + 10, none⟩ (.int .i64 (ps.length : Int))) := by
      intro W hb
      have hP' : ∀ i, i < L → SLine W cur i E G := fun i hi => by
        obtain ⟨f, c, v, m, ps, a, b, d, e, e1, e2, e3, e4, e5⟩ := hP i hi
        exact ⟨f, c, v, m, ps, a, b, d, e, e1, own_below e2 hb, e3, e4, e5⟩
      obtain ⟨q1, q2⟩ := MemS.mark (E := E) h1 h2 (hS.below hb hS.lt) (hL.below hb hL.lt) h3 hP' (own_below hEv hb) hne g1 g2 g3 hn ps.length (fun f c v m ps' a b d' e o => by
        rw [d] at d'
        injection d' with d'
        subst d'
        obtain ⟨_, A, c, hv, _⟩ := Rd.own o
        injection hv with _ hl
        omega)
      exact ⟨q1, (GrewS.of_below hb).trans q2⟩
    have HF := Lib.hid hF
    have HU := Lib.hid hU
    clear hF hU HSAME
    have hk0 : (w.setCell ⟨gl, n * 11 + 10, none⟩ (.int .i64 (ps.length : Int))).drew.cell? ⟨gm, 0, none⟩ = some (.slice (some ⟨gl, 0, none⟩) L cap) := (hS.far (p := ⟨gl, n * 11 + 10, none⟩) ngl (.int .i64 (ps.length : Int))).cell 0
    have hk9 : (w.setCell ⟨gl, n * 11 + 10, none⟩ (.int .i64 (ps.length : Int))).drew.cell? ⟨gl, n * 11 + 9, none⟩ = some (.slice Av ps.length cv) := ((hL.set_ (n * 11 + 10) (.int .i64 (ps.length : Int))).cell (n * 11 + 9)).trans (by rw [Array.getElem?_setIfInBounds_ne (by omega)]; exact d)
    clear hP hEv hS hL a b d e e1 e2 e3 e4 e5
    go_enter Tryz.func56, Tryz.ntmps56
    go_wp2_with fail
    refine (shas_calls _ gm L (n : Int) _ _ m0 h1).mono ?_
    rintro e w1 ⟨rfl, rfl⟩
    rw [hhas]
    go_upto_region 3 with (fail)
    go_cut [] (fun wx => MemS G wx gm L E ∧ GrewS G w wx)
    case first =>
      go_region_held3 (fun w' => w'.cell? ⟨gm, 0, none⟩ = some (.slice (some ⟨gl, 0, none⟩) L cap) ∧ w'.cell? ⟨gl, n * 11 + 9, none⟩ = some (.slice Av ps.length cv)) (first | go_keep | (refine ⟨?_, ?_⟩ <;> first | exact hk0 | exact hk9))
        (fail)
      go_wp2_with fail
      go_meet
      exact HF.out _ (by (repeat (first | with_reducible exact Below.refl _ _ | with_reducible assumption | with_reducible refine below_drewN ?_ _ | with_reducible refine Below.drew ?_ | with_reducible refine Below.alloc ?_ (by first | omega | (simp; omega) | simp) _ | with_reducible refine Below.setCell ?_ (by first | omega | (simp; omega) | simp) _)))
    case rest =>
      obtain ⟨hM3, hgr3⟩ := hcut
      obtain ⟨w3, hw3⟩ : ∃ x : World, x = wc := ⟨_, rfl⟩
      subst hw3
      have HU3 := Lib.hid (HU.out.mono hgr3.size)
      clear m0 l9 l10 f10 hgl hgm ngl ngl' HF hk0 hk9 h2 h3 g1 g2 g3
      obtain ⟨gl, cap, cur, sp, Ae, ne, ce, xs, _, h2, hS, hL, h3, hP, hEv, hne, g1, g2, g3⟩ := hM3
      have m2 := hS.cell 2
      have f2 := hS.free 2
      simp only [List.getElem?_toArray, List.getElem?_cons_succ, List.getElem?_cons_zero] at m2
      have HP := Lib.hid hP
      have ag : some gm ≠ (Value.slice Ae ne ce).ownBlock := own_ne hEv hS (by decide)
      have hgm := hS.lt
      go_wp2_with (at_builtin; refine wpList_append_lies _ rfl _ _ _ (by rfl) 0 111 i0 _ 12 96 Tryz.underlying90 hi0 hz0 hz1 hz2 rfl (by omega) (.slice Ae ne ce) ne xs (by rfl) (hEv.alloc _) ⟨w3.heap.size, 0, none⟩ 1 1 [.int .i64 3, .int .i64 (n : Int), .int .i64 0, .int .i64 0, .int .i64 0, .int .i64 0, .int .i64 0, .int .i64 0, .int .i64 0, .int .i64 0, .int .i64 0, .int .i64 0] (by rfl) (by rfl) (World.news_of_block (cs := #[.int .i64 3, .int .i64 (n : Int), .int .i64 0, .int .i64 0, .int .i64 0, .int .i64 0, .int .i64 0, .int .i64 0, .int .i64 0, .int .i64 0, .int .i64 0, .int .i64 0]) (t := 111) (fr := (0, 0)) (heap_alloc_new w3 _)) (by simp [Value.oneCell']) (by omega) (by unfold maxLen; omega) (by omega) (by simp) (w3.heap.size + 1) (by simp) ?_; intro gg cc w4 hown1 hgrow hat hlt; (have hGw := Cl.grown (hS.alloc _) hgrow ag); (have c2w : w4.cell? ⟨gm, 2, none⟩ = some (.slice Ae ne ce) := hGw.cell 2); (have f2w := hGw.free 2); (have lgw := hGw.lt))
      go_ret
      obtain ⟨q1, q2⟩ := MemS.ev h1 h2 hS hL h3 HP.out hne g1 g2 g3 (show Below w3.heap.size w3 _ by (repeat (first | with_reducible exact Below.refl _ _ | with_reducible assumption | with_reducible refine below_drewN ?_ _ | with_reducible refine Below.drew ?_ | with_reducible refine Below.alloc ?_ (by first | omega | (simp; omega) | simp) _ | with_reducible refine Below.setCell ?_ (by first | omega | (simp; omega) | simp) _))) (hEv.alloc _) hgrow (by rcases hat with h | h; exact g3 gg h; exact HU3.out gg (by omega)) hown1
      exact ⟨⟨_, rfl⟩, q1, hgr3.trans q2⟩
  · have hhas : hasB z L = false := by simp [hasB]; omega
    clear hP hEv hS hL hU
    go_enter Tryz.func56, Tryz.ntmps56
    go_wp2_with fail
    refine (shas_calls _ gm L z _ _ m0 h1).mono ?_
    rintro e w1 ⟨rfl, rfl⟩
    rw [hhas]
    go_wp2_with fail
    go_ret
    exact ⟨⟨_, rfl⟩, HSAME.out _ (by (repeat (first | with_reducible exact Below.refl _ _ | with_reducible assumption | with_reducible refine below_drewN ?_ _ | with_reducible refine Below.drew ?_ | with_reducible refine Below.alloc ?_ (by first | omega | (simp; omega) | simp) _ | with_reducible refine Below.setCell ?_ (by first | omega | (simp; omega) | simp) _)))⟩
end Go.Proofs.YtckamjbdogpacaaGreatDoor
