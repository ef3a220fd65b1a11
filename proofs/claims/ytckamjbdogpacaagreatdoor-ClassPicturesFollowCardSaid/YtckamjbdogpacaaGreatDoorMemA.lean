/-
  A memory whose durable words are all zero: what lies where. memory.New.
  What a line of such a memory shows: has, State, shows, Load.
-/
import Derived.Test.YtckamjbdogpacaaGreatDoorCode
import Derived.Test.YtckamjbdogpacaaGreatDoorAppend
import Derived.Test.YtckamjbdogpacaaGreatDoorGiven
import Derived.Carry
import Derived.MapKept
import Derived.Deep.RegionHeld3
import Derived.Deep.DeepCutAuto
namespace Go.Proofs.YtckamjbdogpacaaGreatDoor
open Go.RowKit

theorem ln_info : (Tryz.prog.info? 88).map (fun i => (i.zero, i.size, i.bytes)) = some (some (.agg #[.int .i64 0, .int .i64 0, .int .i64 0, .int .i64 0, .int .i64 0, .int .i64 0, .int .i64 0, .int .i64 0, .int .i64 0, .slice none 0 0, .int .i64 0]), 11, 104) := by kernel_rfl

/-- The cells of a list of pending stores. -/
def stCells (ps : List (Nat × Int)) : List Value := ps.flatMap fun p => [.int .i64 (p.1 : Int), .int .i64 p.2]
/-- 'L' lines, of which all words and codes are zero. -/
def ZeroLines (cur : Array Value) (L : Nat) : Prop := cur.size = L * 11 ∧ ∀ i, i < L → ∀ j, j < 9 → cur[i * 11 + j]? = some (.int .i64 0)
/-- The pending stores of each line are a row of the owner's. -/
def Pend (w : World) (base : Nat) (cur : Array Value) (L : Nat) (P : Nat → List (Nat × Int)) : Prop :=
  ∀ i, i < L → ∃ v m, cur[i * 11 + 9]? = some v ∧ cur[i * 11 + 10]? = some (.int .i64 m) ∧ w.ownsRow base 137 2 v (P i).length (stCells (P i)) ∧ (P i).length ≤ 100
/-- No two lines share their pending row. -/
def ApartP (cur : Array Value) (L : Nat) : Prop :=
  ∀ i j, i < L → j < L → i ≠ j → ∀ v v', cur[i * 11 + 9]? = some v → cur[j * 11 + 9]? = some v' → ∀ b, v.ownBlock = some b → v'.ownBlock ≠ some b

/-- A memory at block 'gm', of 'L' lines that are zero but for the pending stores 'P'; all of it lies from block 'base' on. -/
def MemIs (base : Nat) (w : World) (gm L : Nat) (P : Nat → List (Nat × Int)) (E : Nat) : Prop :=
  ∃ gl gb cur Ae ne ce xs es ck, base ≤ gm ∧ base ≤ gl ∧ base ≤ gb ∧ L ≤ 200 ∧
    Cl w gm 92 #[.slice (some ⟨gl, 0, none⟩) L L, .map (some gb), .int .i64 0, .slice Ae ne ce] ∧
    Cl w gl 88 cur ∧ ZeroLines cur L ∧ Pend w base cur L P ∧ ApartP cur L ∧
    w.ownsRow base 111 12 (.slice Ae ne ce) ne xs ∧ ne ≤ E ∧ w.heap[gb]? = some (.map es ck) ∧ ∀ x ∈ es.toList, MapKept.IsKey (.int .i64) x.key

theorem MemIs.below {base : Nat} {w w' : World} {gm L : Nat} {P : Nat → List (Nat × Int)} {E : Nat} (h : MemIs base w gm L P E) (hb : Below w.heap.size w w') : MemIs base w' gm L P E := by
  obtain ⟨gl, gb, cur, Ae, ne, ce, xs, es, ck, h1, h2, h3, h4, hM, hL, hZ, hP, hA, hE, hn, hB, hK⟩ := h
  refine ⟨gl, gb, cur, Ae, ne, ce, xs, es, ck, h1, h2, h3, h4, hM.below hb hM.lt, hL.below hb hL.lt, hZ, fun i hi => ?_, hA, own_below hE hb, hn, (hb.block gb (lt_of_heap hB)).trans hB, hK⟩
  obtain ⟨v, m, a, b, c, d⟩ := hP i hi
  exact ⟨v, m, a, b, own_below c hb, d⟩

/-- Only blocks from 'base' on that belong to memories may have changed. -/
def GrewM (base : Nat) (w w' : World) : Prop :=
  w'.os = w.os ∧ w'.tape = w.tape ∧ w'.output = w.output ∧ w.heap.size ≤ w'.heap.size ∧
  ∀ g, g < w.heap.size → w'.heap[g]? = w.heap[g]? ∨ (base ≤ g ∧ ((∃ cs e fr, w.heap[g]? = some (.cells cs e fr) ∧ (e = 92 ∨ e = 88 ∨ e = 137 ∨ e = 111)) ∨ ∃ es ck, w.heap[g]? = some (.map es ck)))
def Alien (t : TypeId) : Prop := t ≠ 92 ∧ t ≠ 88 ∧ t ≠ 137 ∧ t ≠ 111
instance (t : TypeId) : Decidable (Alien t) := by unfold Alien; infer_instance

section
variable {w w' w'' : World} {base : Nat}
theorem GrewM.size (h : GrewM base w w') : w.heap.size ≤ w'.heap.size := h.2.2.2.1
theorem GrewM.cl (h : GrewM base w w') {g : Nat} {t : TypeId} {cs : Array Value} (hg : Cl w g t cs) (hne : Alien t) : Cl w' g t cs := by
  rcases h.2.2.2.2 g hg.lt with h1 | ⟨_, ⟨cs', e, fr, h1, h2⟩ | ⟨es, ck, h1⟩⟩
  · exact h1.trans hg
  · unfold Cl at hg
    rw [h1] at hg
    injection hg with hg
    injection hg with _ ht
    subst ht
    unfold Alien at hne
    rcases h2 with h2 | h2 | h2 | h2 <;> simp_all
  · unfold Cl at hg
    rw [h1] at hg
    injection hg with hg
    cases hg
theorem GrewM.rd (h : GrewM base w w') {t : TypeId} {size n : Nat} {v : Value} {xs : List Value} (hr : Rd w t size v n xs) (hne : Alien t) : Rd w' t size v n xs := by
  obtain ⟨h1, A, c, hv, hc, hm, hz, h2⟩ := hr
  refine ⟨h1, A, c, hv, hc, hm, hz, fun hn => ?_⟩
  obtain ⟨b, o, cur, fr, hA, hh, hcell⟩ := h2 hn
  refine ⟨b, o, cur, fr, hA, ?_, hcell⟩
  rcases h.2.2.2.2 b (lt_of_heap hh) with h1 | ⟨_, ⟨cs', e, fr', h1, h3⟩ | ⟨es, ck, h1⟩⟩
  · exact h1.trans hh
  · rw [h1] at hh
    injection hh with hh
    injection hh with _ ht
    subst ht
    unfold Alien at hne
    obtain ⟨n1, n2, n3, n4⟩ := hne
    rcases h3 with h3 | h3 | h3 | h3
    · exact absurd h3 n1
    · exact absurd h3 n2
    · exact absurd h3 n3
    · exact absurd h3 n4
  · rw [h1] at hh
    injection hh with hh
    cases hh
theorem GrewM.below (h : GrewM base w w') {B : Nat} {a : World} (hb : Below B a w) (h1 : B ≤ w.heap.size) (h2 : B ≤ base) : Below B a w' :=
  hb.trans ⟨h.1, h.2.1, h.2.2.1, h.2.2.2.1, fun k hk => by
    rcases h.2.2.2.2 k (by omega) with h3 | ⟨h3, _⟩
    · exact h3
    · omega⟩
theorem GrewM.of_below (hb : Below w.heap.size w w') : GrewM base w w' := ⟨hb.os, hb.tape, hb.output, hb.size, fun g hg => .inl (hb.block g hg)⟩
theorem GrewM.trans (h : GrewM base w w') (h' : GrewM base w' w'') : GrewM base w w'' := by
  refine ⟨h'.1.trans h.1, h'.2.1.trans h.2.1, h'.2.2.1.trans h.2.2.1, Nat.le_trans h.size h'.size, fun g hg => ?_⟩
  rcases h.2.2.2.2 g hg with h1 | h1
  · rcases h'.2.2.2.2 g (Nat.lt_of_lt_of_le hg h.size) with h2 | h2
    · exact .inl (h2.trans h1)
    · rw [h1] at h2; exact .inr h2
  · exact .inr h1
end

def zLine : Array Value := #[.int .i64 0, .int .i64 0, .int .i64 0, .int .i64 0, .int .i64 0, .int .i64 0, .int .i64 0, .int .i64 0, .int .i64 0, .slice none 0 0, .int .i64 0]
theorem made_get (L i j : Nat) (hi : i < L) (hj : j < 11) : (madeCells zLine (L * 11))[i * 11 + j]? = zLine[j]? := by
  have h1 : i * 11 + j < L * 11 := by omega
  have h2 : (i * 11 + j) % 11 = j := by omega
  rw [Array.getElem?_eq_getElem (by rw [size_madeCells]; exact h1)]
  simp only [madeCells, Array.getElem_map, Array.getElem_range]
  rw [show zLine.size = 11 from rfl, h2]
  match j, hj with
  | 0, _ => rfl
  | 1, _ => rfl
  | 2, _ => rfl
  | 3, _ => rfl
  | 4, _ => rfl
  | 5, _ => rfl
  | 6, _ => rfl
  | 7, _ => rfl
  | 8, _ => rfl
  | 9, _ => rfl
  | 10, _ => rfl
theorem lines_made {w2 : World} {g L : Nat} (h : w2.ownsRow g 88 11 (.slice (some ⟨g, 0, none⟩) L L) L (madeCells zLine (L * 11)).toList) (_hL : 1 ≤ L) :
    ∃ cur, Cl w2 g 88 cur ∧ ZeroLines cur L ∧ ∀ i, i < L → cur[i * 11 + 9]? = some (.slice none 0 0) ∧ cur[i * 11 + 10]? = some (.int .i64 0) := by
  rcases h.2 with ⟨h0, _⟩ | ⟨g', cap, cur, hv, _, hh, _, _, hsz, ht⟩
  · cases h0
  · injection hv with hA _ hc
    injection hA with hA
    injection hA with hA
    subst hA
    subst hc
    have get : ∀ i j, i < L → j < 11 → cur[i * 11 + j]? = zLine[j]? := by
      intro i j hi hj
      have h1 := made_get L i j hi hj
      rw [← h1]
      have h2 : (cur.toList.take (L * 11))[i * 11 + j]? = cur[i * 11 + j]? := by
        rw [List.getElem?_take, if_pos (by omega)]
        simp
      rw [← h2, ht]
      simp
    refine ⟨cur, hh, ⟨hsz, fun i hi j hj => ?_⟩, fun i hi => ⟨get i 9 hi (by omega), get i 10 hi (by omega)⟩⟩
    rw [get i j hi (by omega)]
    match j, hj with
    | 0, _ => rfl
    | 1, _ => rfl
    | 2, _ => rfl
    | 3, _ => rfl
    | 4, _ => rfl
    | 5, _ => rfl
    | 6, _ => rfl
    | 7, _ => rfl
    | 8, _ => rfl
theorem ZeroLines.set {cur : Array Value} {L : Nat} (h : ZeroLines cur L) (k : Nat) (u : Value) (hk : ∀ i j, i < L → j < 9 → i * 11 + j = k → u = .int .i64 0) : ZeroLines (cur.setIfInBounds k u) L := by
  refine ⟨by simpa using h.1, fun i hi j hj => ?_⟩
  by_cases he : i * 11 + j = k
  · have hu := hk i j hi hj he
    subst hu
    rw [← he, Array.getElem?_setIfInBounds_self_of_lt (by rw [h.1]; omega)]
  · rw [Array.getElem?_setIfInBounds_ne (Ne.symm he)]
    exact h.2 i hi j hj

def NewRel (w : World) (gl L : Nat) (i : Value) (wr : World) : Prop :=
  ∃ (k : Nat) (cur : Array Value), k ≤ L ∧ i = .int .i64 k ∧ Cl wr gl 88 cur ∧ ZeroLines cur L ∧ (∀ i, i < L → cur[i * 11 + 9]? = some (.slice none 0 0) ∧ cur[i * 11 + 10]? = some (.int .i64 0)) ∧ Below w.heap.size w wr

def NewPost (w : World) (L : Nat) (e : Ending) (w' : World) : Prop := ∃ gm, e = .returned (.pointer (some ⟨gm, 0, none⟩)) ∧ MemIs w.heap.size w' gm L (fun _ => []) 0 ∧ Below w.heap.size w w'

set_option maxRecDepth 100000 in
set_option maxHeartbeats 2000000 in
theorem new_calls (w : World) (L : Nat) (h1 : 1 ≤ L) (h2 : L ≤ 200) :
    Calls Tryz.prog 10 #[.int .i64 (L : Int)] w (NewPost w L) := by
  obtain ⟨j0, hj0, hy0, hy1, hy2⟩ := info_parts ln_info
  have hmm := @run_makeMap Tryz.prog
  go_enter Tryz.func10, Tryz.ntmps10
  go_wp2_with (at_make; refine wpList_make_full _ rfl _ _ 82 rfl w.heap.size 88 j0 _ 11 Tryz.underlying82 hj0 hy0 hy1 _ _ _ _ L rfl rfl rfl rfl (by rw [hy2]; omega) (by unfold maxLen; omega) (by simp) ?_; intro w2 hown2 hg2)
  obtain ⟨cur, hcur, hZ, hT⟩ := lines_made hown2 h1
  have hB2 : Below w.heap.size w w2 := Below.grown (Below.refl _ _) hg2 (Nat.le_refl _) (by simp)
  have hHT := Lib.hid hT
  have hHZ := Lib.hid hZ
  clear hown2 hg2 hT hZ
  refine (encode_zero _).mono ?_
  rintro e w3 ⟨rfl, hb3⟩
  have hB3 := hB2.trans (hb3.mono hB2.size)
  replace hcur := hcur.below hb3 hcur.lt
  clear hb3 hB2
  go_wp2_with fail
  go_loopw [5, 18] (fun _ i wr => NewRel w w.heap.size L i wr) (fun _ i _ => L - (intOf i).toNat)
  case atStart => exact ⟨0, cur, Nat.zero_le _, rfl, hcur, hHZ.out, hHT.out, hB3⟩
  case round =>
    clear hcur hHZ hHT hB3
    obtain ⟨k, cur, hk, rfl, hC, hZ, hT, hb⟩ := hrel
    have HZ := Lib.hid hZ
    have HT := Lib.hid hT
    have hl := hC.lt
    by_cases hlt : k < L
    · have c8 := (hC.cell (k * 11 + 8)).trans (hZ.2 k hlt 8 (by omega))
      have f8 := hC.free (k * 11 + 8)
      clear hZ hT
      go_wp2_with fail
      refine ⟨⟨k + 1, _, by omega, by go_num, hC.set_ _ _, HZ.out.set _ _ (fun _ _ _ _ _ => rfl), fun i hi => ?_, by (repeat (first | with_reducible exact Below.refl _ _ | with_reducible assumption | with_reducible refine below_drewN ?_ _ | with_reducible refine Below.drew ?_ | with_reducible refine Below.alloc ?_ (by first | omega | (simp; omega) | simp) _ | with_reducible refine Below.setCell ?_ (by first | omega | (simp; omega) | simp) _))⟩, by simp [intOf]; omega⟩
      rw [Array.getElem?_setIfInBounds_ne (by omega), Array.getElem?_setIfInBounds_ne (by omega)]
      exact HT.out i hi
    · clear hZ hT
      go_wp2_with fail
      have hGb : ((wr.alloc (.map #[] 0)).alloc (.cells #[.slice (some ⟨w.heap.size, 0, none⟩) L L, .map (some wr.heap.size), .int .i64 0, .slice none 0 0] 92)).heap[wr.heap.size]? = some (.map #[] 0) := by
        rw [Below.heap_alloc _ _ _ (by simp)]
        exact heap_alloc_new wr _
      have hsz := hb.size
      refine bodyPost_ret (v := .pointer (some ⟨wr.heap.size + 1, 0, none⟩)) ?_ rfl ⟨wr.heap.size + 1, rfl, ⟨w.heap.size, wr.heap.size, cur, none, 0, 0, [], #[], 0, by omega, by omega, by omega, h2, Cl.new_ _ _ _ _ (by simp), (hC.alloc _).alloc _, HZ.out, fun i hi => ⟨_, 0, (HT.out i hi).1, (HT.out i hi).2, World.ownsRow_nil _ _ _ _, by simp⟩, ?_, World.ownsRow_nil _ _ _ _, by omega, hGb, by simp⟩, by (repeat (first | with_reducible exact Below.refl _ _ | with_reducible assumption | with_reducible refine below_drewN ?_ _ | with_reducible refine Below.drew ?_ | with_reducible refine Below.alloc ?_ (by first | omega | (simp; omega) | simp) _ | with_reducible refine Below.setCell ?_ (by first | omega | (simp; omega) | simp) _))⟩
      · simp [results, Tryz.results10, go_sem, *]
      · intro i j hi hj _ v v' hv _ b hb'
        rw [(HT.out i hi).1] at hv
        injection hv with hv
        subst hv
        simp [Value.ownBlock] at hb'
end Go.Proofs.YtckamjbdogpacaaGreatDoor

namespace Go.Proofs.YtckamjbdogpacaaGreatDoor
open Go.RowKit

/-- What a word shows behind some stores. -/
def sh (ps : List (Nat × Int)) (i : Nat) : Int := ps.foldl (fun a p => if p.1 = i then p.2 else a) 0
theorem sh_snoc (ps : List (Nat × Int)) (p : Nat × Int) (i : Nat) : sh (ps ++ [p]) i = if p.1 = i then p.2 else sh ps i := by simp [sh]
theorem sh_set (ps : List (Nat × Int)) (p : Nat × Int) (hp : p.1 < 8) : (#[.int .i64 (sh ps 0), .int .i64 (sh ps 1), .int .i64 (sh ps 2), .int .i64 (sh ps 3), .int .i64 (sh ps 4), .int .i64 (sh ps 5), .int .i64 (sh ps 6), .int .i64 (sh ps 7)] : Array Value).setIfInBounds p.1 (.int .i64 p.2) = #[.int .i64 (sh (ps ++ [p]) 0), .int .i64 (sh (ps ++ [p]) 1), .int .i64 (sh (ps ++ [p]) 2), .int .i64 (sh (ps ++ [p]) 3), .int .i64 (sh (ps ++ [p]) 4), .int .i64 (sh (ps ++ [p]) 5), .int .i64 (sh (ps ++ [p]) 6), .int .i64 (sh (ps ++ [p]) 7)] := by
  obtain ⟨a, b⟩ := p
  simp only [sh_snoc]
  have hp' : a < 8 := hp
  match a, hp' with
  | 0, _ => rfl
  | 1, _ => rfl
  | 2, _ => rfl
  | 3, _ => rfl
  | 4, _ => rfl
  | 5, _ => rfl
  | 6, _ => rfl
  | 7, _ => rfl
theorem s8_get (ps : List (Nat × Int)) (r : Nat) (hr : r < 8) : (#[.int .i64 (sh ps 0), .int .i64 (sh ps 1), .int .i64 (sh ps 2), .int .i64 (sh ps 3), .int .i64 (sh ps 4), .int .i64 (sh ps 5), .int .i64 (sh ps 6), .int .i64 (sh ps 7)] : Array Value)[r]? = some (.int .i64 (sh ps r)) := by
  match r, hr with
  | 0, _ => rfl
  | 1, _ => rfl
  | 2, _ => rfl
  | 3, _ => rfl
  | 4, _ => rfl
  | 5, _ => rfl
  | 6, _ => rfl
  | 7, _ => rfl
theorem stCells_get (ps : List (Nat × Int)) (k : Nat) (p : Nat × Int) (h : ps[k]? = some p) : (stCells ps)[k * 2]? = some (.int .i64 (p.1 : Int)) ∧ (stCells ps)[k * 2 + 1]? = some (.int .i64 p.2) := by
  induction ps generalizing k with
  | nil => simp at h
  | cons a l ih =>
    cases k with
    | zero => simp at h; subst h; simp [stCells]
    | succ k =>
      have := ih k (by simpa using h)
      simp only [stCells, List.flatMap_cons] at this ⊢
      rw [show (k + 1) * 2 = k * 2 + 2 by omega]
      exact ⟨this.1, this.2⟩

/-- The cells of one line, as a walk asks for them. -/
def LineAt (w : World) (gl n : Nat) (v : Value) : Prop := (w.cell? ⟨gl, n * 11, none⟩ = some (.int .i64 0) ∧ w.cell? ⟨gl, n * 11 + 1, none⟩ = some (.int .i64 0) ∧ w.cell? ⟨gl, n * 11 + 2, none⟩ = some (.int .i64 0) ∧ w.cell? ⟨gl, n * 11 + 3, none⟩ = some (.int .i64 0) ∧
  w.cell? ⟨gl, n * 11 + 4, none⟩ = some (.int .i64 0) ∧ w.cell? ⟨gl, n * 11 + 5, none⟩ = some (.int .i64 0) ∧ w.cell? ⟨gl, n * 11 + 6, none⟩ = some (.int .i64 0) ∧ w.cell? ⟨gl, n * 11 + 7, none⟩ = some (.int .i64 0) ∧ w.cell? ⟨gl, n * 11 + 8, none⟩ = some (.int .i64 0)) ∧ w.cell? ⟨gl, n * 11 + 9, none⟩ = some v
theorem LineAt.of {w : World} {gl L n : Nat} {cur : Array Value} {v : Value} (hL : Cl w gl 88 cur) (hZ : ZeroLines cur L) (hn : n < L) (hv : cur[n * 11 + 9]? = some v) : LineAt w gl n v := by
  have g : ∀ j, j < 9 → w.cell? ⟨gl, n * 11 + j, none⟩ = some (.int .i64 0) := fun j hj => (hL.cell _).trans (hZ.2 n hn j hj)
  exact ⟨⟨g 0 (by omega), g 1 (by omega), g 2 (by omega), g 3 (by omega), g 4 (by omega), g 5 (by omega), g 6 (by omega), g 7 (by omega), g 8 (by omega)⟩, (hL.cell _).trans hv⟩

set_option maxHeartbeats 400000 in
theorem has_yes (w : World) (gm L n : Nat) (A : Option Addr) (c : Nat) (hm : w.cell? ⟨gm, 0, none⟩ = some (.slice A L c)) (hn : n < L) (_hL : L ≤ 200) :
    Calls Tryz.prog 63 #[.pointer (some ⟨gm, 0, none⟩), .int .i64 (n : Int)] w fun e w' => e = .returned (.bool true) ∧ w = w' := by
  go_enter Tryz.func63, Tryz.ntmps63
  go_wp2
  go_ret
  exact ⟨rfl, rfl⟩

set_option maxRecDepth 100000 in
set_option maxHeartbeats 2000000 in
theorem state_zero (base : Nat) (w : World) (gm L n : Nat) (P : Nat → List (Nat × Int)) (E : Nat) (hM : MemIs base w gm L P E) (hn : n < L) :
    Calls Tryz.prog 50 #[.pointer (some ⟨gm, 0, none⟩), .int .i64 (n : Int)] w fun e w' => e = .returned (.int .i64 0) ∧ Below w.heap.size w w' := by
  obtain ⟨gl, gb, cur, Ae, ne, ce, xs, es, ck, _, _, _, hL200, hG, hLn, hZ, hP, -, -, -, -⟩ := hM
  obtain ⟨v, m, hv, _, _, _⟩ := hP n hn
  obtain ⟨⟨l0, l1, l2, l3, l4, l5, l6, l7, l8⟩, -⟩ := LineAt.of hLn hZ hn hv
  have m0 := hG.cell 0
  simp only [List.getElem?_toArray, List.getElem?_cons_zero] at m0
  have hgl := hLn.lt
  have hgm := hG.lt
  clear hP hZ hv
  go_enter Tryz.func50, Tryz.ntmps50
  go_wp2_with fail
  refine (has_yes _ gm L n _ _ m0 hn hL200).mono ?_
  rintro e w1 ⟨rfl, rfl⟩
  go_wp2_with fail
  go_region_held3 (fun w' => w'.cell? ⟨gm, 0, none⟩ = some (.slice (some ⟨gl, 0, none⟩) L L) ∧ w'.cell? ⟨gl, n * 11, none⟩ = some (.int .i64 0) ∧ w'.cell? ⟨gl, n * 11 + 1, none⟩ = some (.int .i64 0) ∧ w'.cell? ⟨gl, n * 11 + 2, none⟩ = some (.int .i64 0) ∧ w'.cell? ⟨gl, n * 11 + 3, none⟩ = some (.int .i64 0) ∧ w'.cell? ⟨gl, n * 11 + 4, none⟩ = some (.int .i64 0) ∧ w'.cell? ⟨gl, n * 11 + 5, none⟩ = some (.int .i64 0) ∧ w'.cell? ⟨gl, n * 11 + 6, none⟩ = some (.int .i64 0) ∧ w'.cell? ⟨gl, n * 11 + 7, none⟩ = some (.int .i64 0) ∧ w'.cell? ⟨gl, n * 11 + 8, none⟩ = some (.int .i64 0)) (go_keep)
    (first | (go_at_call 81; refine (check_zero _).mono ?_; rintro e wa ⟨rfl, ba0⟩; (have ba : Below w.heap.size w wa := (by first | exact below_of_drew ba0 | exact ba0)); (have em := (ba.cell (p := ⟨gm, 0, none⟩) hgm).trans m0); (have e0 := (ba.cell (p := ⟨gl, n * 11, none⟩) hgl).trans l0); (have e1 := (ba.cell (p := ⟨gl, n * 11 + 1, none⟩) hgl).trans l1); (have e2 := (ba.cell (p := ⟨gl, n * 11 + 2, none⟩) hgl).trans l2); (have e3 := (ba.cell (p := ⟨gl, n * 11 + 3, none⟩) hgl).trans l3); (have e4 := (ba.cell (p := ⟨gl, n * 11 + 4, none⟩) hgl).trans l4); (have e5 := (ba.cell (p := ⟨gl, n * 11 + 5, none⟩) hgl).trans l5); (have e6 := (ba.cell (p := ⟨gl, n * 11 + 6, none⟩) hgl).trans l6); (have e7 := (ba.cell (p := ⟨gl, n * 11 + 7, none⟩) hgl).trans l7); (have e8 := (ba.cell (p := ⟨gl, n * 11 + 8, none⟩) hgl).trans l8); (have sa := ba.size)))
  go_wp2_with fail
  go_ret
  exact ⟨rfl, ba⟩

theorem Cl.set8 {w : World} {g : Nat} {t : TypeId} {v0 v1 v2 v3 v4 v5 v6 v7 : Value} (h : Cl w g t #[v0, v1, v2, v3, v4, v5, v6, v7]) (u0 u1 u2 u3 u4 u5 u6 u7 : Value) :
    Cl ((((((((w.setCell ⟨g, 0, none⟩ u0).setCell ⟨g, 1, none⟩ u1).setCell ⟨g, 2, none⟩ u2).setCell ⟨g, 3, none⟩ u3).setCell ⟨g, 4, none⟩ u4).setCell ⟨g, 5, none⟩ u5).setCell ⟨g, 6, none⟩ u6).setCell ⟨g, 7, none⟩ u7) g t #[u0, u1, u2, u3, u4, u5, u6, u7] := by
  have h0 : Cl (w.setCell ⟨g, 0, none⟩ u0) g t #[u0, v1, v2, v3, v4, v5, v6, v7] := h.set_ 0 u0
  have h1 : Cl ((w.setCell ⟨g, 0, none⟩ u0).setCell ⟨g, 1, none⟩ u1) g t #[u0, u1, v2, v3, v4, v5, v6, v7] := h0.set_ 1 u1
  have h2 : Cl (((w.setCell ⟨g, 0, none⟩ u0).setCell ⟨g, 1, none⟩ u1).setCell ⟨g, 2, none⟩ u2) g t #[u0, u1, u2, v3, v4, v5, v6, v7] := h1.set_ 2 u2
  have h3 : Cl ((((w.setCell ⟨g, 0, none⟩ u0).setCell ⟨g, 1, none⟩ u1).setCell ⟨g, 2, none⟩ u2).setCell ⟨g, 3, none⟩ u3) g t #[u0, u1, u2, u3, v4, v5, v6, v7] := h2.set_ 3 u3
  have h4 : Cl (((((w.setCell ⟨g, 0, none⟩ u0).setCell ⟨g, 1, none⟩ u1).setCell ⟨g, 2, none⟩ u2).setCell ⟨g, 3, none⟩ u3).setCell ⟨g, 4, none⟩ u4) g t #[u0, u1, u2, u3, u4, v5, v6, v7] := h3.set_ 4 u4
  have h5 : Cl ((((((w.setCell ⟨g, 0, none⟩ u0).setCell ⟨g, 1, none⟩ u1).setCell ⟨g, 2, none⟩ u2).setCell ⟨g, 3, none⟩ u3).setCell ⟨g, 4, none⟩ u4).setCell ⟨g, 5, none⟩ u5) g t #[u0, u1, u2, u3, u4, u5, v6, v7] := h4.set_ 5 u5
  have h6 : Cl (((((((w.setCell ⟨g, 0, none⟩ u0).setCell ⟨g, 1, none⟩ u1).setCell ⟨g, 2, none⟩ u2).setCell ⟨g, 3, none⟩ u3).setCell ⟨g, 4, none⟩ u4).setCell ⟨g, 5, none⟩ u5).setCell ⟨g, 6, none⟩ u6) g t #[u0, u1, u2, u3, u4, u5, u6, v7] := h5.set_ 6 u6
  have h7 : Cl ((((((((w.setCell ⟨g, 0, none⟩ u0).setCell ⟨g, 1, none⟩ u1).setCell ⟨g, 2, none⟩ u2).setCell ⟨g, 3, none⟩ u3).setCell ⟨g, 4, none⟩ u4).setCell ⟨g, 5, none⟩ u5).setCell ⟨g, 6, none⟩ u6).setCell ⟨g, 7, none⟩ u7) g t #[u0, u1, u2, u3, u4, u5, u6, u7] := h6.set_ 7 u7
  exact h7

/-- What a line shows behind its pending stores. -/
def ShowRel (w : World) (g : Nat) (ps : List (Nat × Int)) (v : Value) (i : Value) (wr : World) : Prop :=
  ∃ j : Nat, j ≤ ps.length ∧ i = .int .i64 j ∧ Cl wr g 67 #[.int .i64 (sh (ps.take j) 0), .int .i64 (sh (ps.take j) 1), .int .i64 (sh (ps.take j) 2), .int .i64 (sh (ps.take j) 3), .int .i64 (sh (ps.take j) 4), .int .i64 (sh (ps.take j) 5), .int .i64 (sh (ps.take j) 6), .int .i64 (sh (ps.take j) 7)] ∧ Cl wr w.heap.size 67 #[.int .i64 0, .int .i64 0, .int .i64 0, .int .i64 0, .int .i64 0, .int .i64 0, .int .i64 0, .int .i64 0] ∧ Rd wr 137 2 v ps.length (stCells ps) ∧ Below w.heap.size w wr

set_option maxRecDepth 100000 in
set_option maxHeartbeats 4000000 in
theorem shows_calls (w : World) (gl n : Nat) (A : Option Addr) (c : Nat) (ps : List (Nat × Int)) (hL : LineAt w gl n (.slice A ps.length c)) (hR : Rd w 137 2 (.slice A ps.length c) ps.length (stCells ps)) (hl : ps.length ≤ 100) (h8 : ∀ p ∈ ps, p.1 < 8) :
    Calls Tryz.prog 78 #[.pointer (some ⟨gl, n * 11, none⟩), .int .i64 (ps.length : Int)] w fun e w' => e = .returned (.tuple #[.agg #[.int .i64 (sh ps 0), .int .i64 (sh ps 1), .int .i64 (sh ps 2), .int .i64 (sh ps 3), .int .i64 (sh ps 4), .int .i64 (sh ps 5), .int .i64 (sh ps 6), .int .i64 (sh ps 7)], .int .i64 0]) ∧ Below w.heap.size w w' := by
  obtain ⟨⟨l0, l1, l2, l3, l4, l5, l6, l7, l8⟩, l9⟩ := hL
  have hgl : gl < w.heap.size := World.block_lt_of_cell? w _ l0
  have hR0 := hR
  obtain ⟨_, A', c', hv', hcc, hmx, hnil, hcell⟩ := hR
  injection hv' with e1 _ e3
  subst e1
  subst e3
  go_enter Tryz.func78, Tryz.ntmps78
  go_upto_region 1 with (fail)
  generalize hwn : w.alloc (.cells #[.int .i64 0, .int .i64 0, .int .i64 0, .int .i64 0, .int .i64 0, .int .i64 0, .int .i64 0, .int .i64 0] 67) = wn
  have hZn : Cl wn w.heap.size 67 #[.int .i64 0, .int .i64 0, .int .i64 0, .int .i64 0, .int .i64 0, .int .i64 0, .int .i64 0, .int .i64 0] := by rw [← hwn]; exact Cl.new _ _ _
  have hAn : Below w.heap.size w wn := by rw [← hwn]; (repeat (first | with_reducible exact Below.refl _ _ | with_reducible assumption | with_reducible refine below_drewN ?_ _ | with_reducible refine Below.drew ?_ | with_reducible refine Below.alloc ?_ (by first | omega | (simp; omega) | simp) _ | with_reducible refine Below.setCell ?_ (by first | omega | (simp; omega) | simp) _))
  clear hwn
  have cl_ : ∀ o, wn.cell? ⟨gl, o, none⟩ = w.cell? ⟨gl, o, none⟩ := fun o => hAn.cell (p := ⟨gl, o, none⟩) hgl
  replace l0 := (cl_ _).trans l0
  replace l1 := (cl_ _).trans l1
  replace l2 := (cl_ _).trans l2
  replace l3 := (cl_ _).trans l3
  replace l4 := (cl_ _).trans l4
  replace l5 := (cl_ _).trans l5
  replace l6 := (cl_ _).trans l6
  replace l7 := (cl_ _).trans l7
  replace l8 := (cl_ _).trans l8
  replace l9 := (cl_ _).trans l9
  have hgn : gl < wn.heap.size := Nat.lt_of_lt_of_le hgl hAn.size
  clear cl_
  have hzl := hZn.lt
  have yn : ¬ gl = wn.heap.size := by omega
  have yn' : ¬ wn.heap.size = gl := by omega
  go_cut [6, 7, 8] (fun s t u wx => ∃ g, s = .pointer (some ⟨g, 0, none⟩) ∧ t = .int .i64 0 ∧ u = .int .i64 0 ∧ wn.heap.size ≤ g ∧ Cl wx g 67 #[.int .i64 0, .int .i64 0, .int .i64 0, .int .i64 0, .int .i64 0, .int .i64 0, .int .i64 0, .int .i64 0] ∧ Below wn.heap.size wn wx)
  case first =>
    go_region_held3 (fun w' => w'.cell? ⟨gl, n * 11, none⟩ = some (.int .i64 0) ∧ w'.cell? ⟨gl, n * 11 + 1, none⟩ = some (.int .i64 0) ∧ w'.cell? ⟨gl, n * 11 + 2, none⟩ = some (.int .i64 0) ∧ w'.cell? ⟨gl, n * 11 + 3, none⟩ = some (.int .i64 0) ∧ w'.cell? ⟨gl, n * 11 + 4, none⟩ = some (.int .i64 0) ∧ w'.cell? ⟨gl, n * 11 + 5, none⟩ = some (.int .i64 0) ∧ w'.cell? ⟨gl, n * 11 + 6, none⟩ = some (.int .i64 0) ∧ w'.cell? ⟨gl, n * 11 + 7, none⟩ = some (.int .i64 0) ∧ w'.cell? ⟨gl, n * 11 + 8, none⟩ = some (.int .i64 0)) (go_keep)
      (first | (go_at_call 103; refine (fix_zero _).mono ?_; rintro e wa ⟨rfl, ba0⟩; (have ba : Below wn.heap.size wn wa := (by first | exact below_of_drew ba0 | exact Below.trans (by (repeat (first | with_reducible exact Below.refl _ _ | with_reducible assumption | with_reducible refine below_drewN ?_ _ | with_reducible refine Below.drew ?_ | with_reducible refine Below.alloc ?_ (by first | omega | (simp; omega) | simp) _ | with_reducible refine Below.setCell ?_ (by first | omega | (simp; omega) | simp) _))) (ba0.mono (by simp)))); (have e0 := (ba.cell (p := ⟨gl, n * 11, none⟩) hgn).trans l0); (have e1 := (ba.cell (p := ⟨gl, n * 11 + 1, none⟩) hgn).trans l1); (have e2 := (ba.cell (p := ⟨gl, n * 11 + 2, none⟩) hgn).trans l2); (have e3 := (ba.cell (p := ⟨gl, n * 11 + 3, none⟩) hgn).trans l3); (have e4 := (ba.cell (p := ⟨gl, n * 11 + 4, none⟩) hgn).trans l4); (have e5 := (ba.cell (p := ⟨gl, n * 11 + 5, none⟩) hgn).trans l5); (have e6 := (ba.cell (p := ⟨gl, n * 11 + 6, none⟩) hgn).trans l6); (have e7 := (ba.cell (p := ⟨gl, n * 11 + 7, none⟩) hgn).trans l7); (have e8 := (ba.cell (p := ⟨gl, n * 11 + 8, none⟩) hgn).trans l8); (have sa := ba.size); (have q1 : gl < wa.heap.size := (by omega)); (first | (have g1 := (Cl.new wn 67 #[.int .i64 0, .int .i64 0, .int .i64 0, .int .i64 0, .int .i64 0, .int .i64 0, .int .i64 0, .int .i64 0]).drew.below ba0 (by simp); obtain ⟨k0, k1, k2, k3, k4, k5, k6, k7⟩ := g1.has8'; obtain ⟨j0, j1, j2, j3, j4, j5, j6, j7⟩ := g1.free8') | skip)))
    all_goals (go_wp2_with fail; go_meet)
    · exact ⟨wa.heap.size, rfl, rfl, rfl, by omega, Cl.new _ _ _, by (repeat (first | with_reducible exact Below.refl _ _ | with_reducible assumption | with_reducible refine below_drewN ?_ _ | with_reducible refine Below.drew ?_ | with_reducible refine Below.alloc ?_ (by first | omega | (simp; omega) | simp) _ | with_reducible refine Below.setCell ?_ (by first | omega | (simp; omega) | simp) _))⟩
    · exact ⟨wn.heap.size, rfl, rfl, rfl, by omega, g1.set8 _ _ _ _ _ _ _ _, by (repeat (first | with_reducible exact Below.refl _ _ | with_reducible assumption | with_reducible refine below_drewN ?_ _ | with_reducible refine Below.drew ?_ | with_reducible refine Below.alloc ?_ (by first | omega | (simp; omega) | simp) _ | with_reducible refine Below.setCell ?_ (by first | omega | (simp; omega) | simp) _))⟩
  case rest =>
    obtain ⟨g, rfl, rfl, rfl, hg, hG, hbx⟩ := hcut
    obtain ⟨w2, hw2⟩ : ∃ x : World, x = wc := ⟨_, rfl⟩
    subst hw2
    have hB := hAn.trans (hbx.mono hAn.size)
    have hZ2 := hZn.below hbx hZn.lt
    have hg2 := hG.lt
    have hz2 := hZ2.lt
    have l9' := (hbx.cell (p := ⟨gl, n * 11 + 9, none⟩) hgn).trans l9
    have hl3 : gl < w2.heap.size := Nat.lt_of_lt_of_le hgn hbx.size
    have ngz : g ≠ w.heap.size := by omega
    have hgw : w.heap.size < g := by omega
    clear l0 l1 l2 l3 l4 l5 l6 l7 l8 l9 hbx hZn hAn hgn yn yn' hzl
    have hRn := hR0.below hB
    have H8 := Lib.hid h8
    clear hcell h8 hR0
    go_wp2_with fail
    go_loopw [10, 37] (fun _ i wr => ShowRel w g ps (.slice A ps.length c) i wr) (fun _ i _ => ps.length - (intOf i).toNat)
    case atStart => exact ⟨0, Nat.zero_le _, rfl, hG, hZ2, hRn, hB⟩
    case round =>
      clear hG hZ2 hB l9'
      obtain ⟨j, hj, rfl, hG, hZ, hRj, hb⟩ := hrel
      have hgl2 := hG.lt
      have hzl2 := hZ.lt
      by_cases hlt : j < ps.length
      · obtain ⟨⟨wd, vl⟩, hp⟩ : ∃ x, ps[j]? = some x := ⟨_, List.getElem?_eq_getElem hlt⟩
        have hw8 : wd < 8 := H8.out _ (List.mem_of_getElem? hp)
        have hT : ps.take (j + 1) = ps.take j ++ [(wd, vl)] := by rw [List.take_add_one, hp]; rfl
        obtain ⟨c0, c1⟩ := stCells_get ps j _ hp
        obtain ⟨_, A1, c2, hv2, _, _, _, hcell⟩ := hRj
        obtain ⟨b, o, cur, fr, hA, hh, hcl⟩ := hcell (by omega)
        injection hv2 with f1 _ f3
        subst hA
        subst f1
        subst f3
        have hbl := lt_of_heap hh
        have d0 : wr.cell? ⟨b, o + j * 2, none⟩ = some (.int .i64 (wd : Int)) := by rw [cell_of_row wr b _ cur _ fr hh]; exact hcl _ _ c0
        have d1 : wr.cell? ⟨b, o + j * 2 + 1, none⟩ = some (.int .i64 vl) := by rw [Nat.add_assoc, cell_of_row wr b _ cur _ fr hh]; exact hcl _ _ c1
        have ng : b ≠ g := by
          rintro rfl
          unfold Cl at hG
          rw [hh] at hG
          injection hG with hG
          injection hG with _ ht
          exact absurd ht (by decide)
        have ng' : g ≠ b := Ne.symm ng
        have gw := (hG.cell wd).trans (s8_get _ _ hw8)
        have gf := hG.free wd
        have HT := Lib.hid hT
        have hRj' : Rd wr 137 2 (.slice (some ⟨b, o, none⟩) ps.length c) ps.length (stCells ps) := ⟨by assumption, _, c, rfl, hcc, hmx, hnil, fun _ => ⟨b, o, cur, fr, rfl, hh, hcl⟩⟩
        have hset := hG.set_ wd (.int .i64 vl)
        rw [sh_set (ps.take j) (wd, vl) hw8, ← hT] at hset
        clear hcell hT c0 c1 hp
        go_wp2_with fail
        exact ⟨⟨j + 1, by omega, by go_num, hset.alloc _, (hZ.far (Ne.symm ngz) _).alloc _, Rd.alloc (Rd.far hRj' hG (by decide) _ _) _, by (repeat (first | with_reducible exact Below.refl _ _ | with_reducible assumption | with_reducible refine below_drewN ?_ _ | with_reducible refine Below.drew ?_ | with_reducible refine Below.alloc ?_ (by first | omega | (simp; omega) | simp) _ | with_reducible refine Below.setCell ?_ (by first | omega | (simp; omega) | simp) _))⟩, by simp [intOf]; omega⟩
      · rw [List.take_of_length_le (by omega)] at hG
        obtain ⟨x0, x1, x2, x3, x4, x5, x6, x7⟩ := hG.has8'
        obtain ⟨y0, y1, y2, y3, y4, y5, y6, y7⟩ := hZ.free8'
        obtain ⟨z0, z1, z2, z3, z4, z5, z6, z7⟩ := hZ.has8'
        have ngz' : ¬ w.heap.size = g := fun h => ngz h.symm
        go_wp2_with fail
        refine bodyPost_ret (v := .tuple #[.agg #[.int .i64 (sh ps 0), .int .i64 (sh ps 1), .int .i64 (sh ps 2), .int .i64 (sh ps 3), .int .i64 (sh ps 4), .int .i64 (sh ps 5), .int .i64 (sh ps 6), .int .i64 (sh ps 7)], .int .i64 0]) ?_ rfl ⟨rfl, ?_⟩
        · simp [results, Tryz.results78, go_sem, *]
        · (repeat (first | with_reducible exact Below.refl _ _ | with_reducible assumption | with_reducible refine below_drewN ?_ _ | with_reducible refine Below.drew ?_ | with_reducible refine Below.alloc ?_ (by first | omega | (simp; omega) | simp) _ | with_reducible refine Below.setCell ?_ (by first | omega | (simp; omega) | simp) _))

/-- A memory's line, and its pending row. -/
theorem MemIs.line {base : Nat} {w : World} {gm L : Nat} {P : Nat → List (Nat × Int)} {E : Nat} (hM : MemIs base w gm L P E) {n : Nat} (hn : n < L) :
    ∃ gl A c, LineAt w gl n (.slice A (P n).length c) ∧ Rd w 137 2 (.slice A (P n).length c) (P n).length (stCells (P n)) ∧ (P n).length ≤ 100 ∧ w.cell? ⟨gm, 0, none⟩ = some (.slice (some ⟨gl, 0, none⟩) L L) ∧ L ≤ 200 := by
  obtain ⟨gl, gb, cur, Ae, ne, ce, xs, es, ck, _, _, _, hL200, hG, hLn, hZ, hP, -, -, -, -⟩ := hM
  obtain ⟨v, m, hv, _, ho, hl⟩ := hP n hn
  obtain ⟨A, c, rfl⟩ := (Rd.own ho).form
  have m0 := hG.cell 0
  simp only [List.getElem?_toArray, List.getElem?_cons_zero] at m0
  exact ⟨gl, A, c, LineAt.of hLn hZ hn hv, Rd.own ho, hl, m0, hL200⟩

set_option maxRecDepth 100000 in
set_option maxHeartbeats 2000000 in
theorem load_calls (base : Nat) (w : World) (gm L n r : Nat) (at' : Int) (P : Nat → List (Nat × Int)) (E : Nat) (hM : MemIs base w gm L P E) (hn : n < L) (h0 : 0 ≤ at') (h1 : at' ≤ 100000) (h8 : at' / 8 = (n : Int)) (hr : at' % 8 = (r : Int)) (hp8 : ∀ p ∈ P n, p.1 < 8) :
    Calls Tryz.prog 42 #[.pointer (some ⟨gm, 0, none⟩), .int .i64 at'] w fun e w' => e = .returned (.tuple #[.int .i64 (sh (P n) r), .int .i64 0]) ∧ Below w.heap.size w w' := by
  obtain ⟨gl, A, c, hL, hR, hl, m0, hL200⟩ := hM.line hn
  have hr8 : r < 8 := by omega
  have l9 := hL.2
  go_enter Tryz.func42, Tryz.ntmps42
  go_wp2_with fail
  refine (has_yes _ gm L n _ _ m0 hn hL200).mono ?_
  rintro e w1 ⟨rfl, rfl⟩
  go_wp2_with fail
  refine (shows_calls _ gl n A c (P n) hL hR hl hp8).mono ?_
  rintro e w2 ⟨rfl, hb2⟩
  have hs2 := hb2.size
  have gw := ((Cl.new w2 67 #[.int .i64 (sh (P n) 0), .int .i64 (sh (P n) 1), .int .i64 (sh (P n) 2), .int .i64 (sh (P n) 3), .int .i64 (sh (P n) 4), .int .i64 (sh (P n) 5), .int .i64 (sh (P n) 6), .int .i64 (sh (P n) 7)]).cell r).trans (s8_get _ _ hr8)
  go_wp2_with fail
  go_ret2
  exact ⟨rfl, by (repeat (first | with_reducible exact Below.refl _ _ | with_reducible assumption | with_reducible refine below_drewN ?_ _ | with_reducible refine Below.drew ?_ | with_reducible refine Below.alloc ?_ (by first | omega | (simp; omega) | simp) _ | with_reducible refine Below.setCell ?_ (by first | omega | (simp; omega) | simp) _))⟩
end Go.Proofs.YtckamjbdogpacaaGreatDoor
