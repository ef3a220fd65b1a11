/-
  A memory whose durable words are all zero: what lies where. memory.New.
-/
import Derived.Test.YtcoeoggoaiebeaaDoorCode
import Derived.Test.YtcoeoggoaiebeaaDoorAppend
import Derived.Test.YtcoeoggoaiebeaaDoorGiven
import Derived.Carry
import Derived.MapKept
namespace Go.Proofs.YtcoeoggoaiebeaaDoor
open Go.RowKit

theorem ln_info : (Tryd.prog.info? 69).map (fun i => (i.zero, i.size, i.bytes)) = some (some (.agg #[.int .i64 0, .int .i64 0, .int .i64 0, .int .i64 0, .int .i64 0, .int .i64 0, .int .i64 0, .int .i64 0, .int .i64 0, .slice none 0 0, .int .i64 0]), 11, 104) := by kernel_rfl

/-- The cells of a list of pending stores. -/
def stCells (ps : List (Nat × Int)) : List Value := ps.flatMap fun p => [.int .i64 (p.1 : Int), .int .i64 p.2]
/-- 'L' lines, of which all words and codes are zero. -/
def ZeroLines (cur : Array Value) (L : Nat) : Prop := cur.size = L * 11 ∧ ∀ i, i < L → ∀ j, j < 9 → cur[i * 11 + j]? = some (.int .i64 0)
/-- The pending stores of each line are a row of the owner's. -/
def Pend (w : World) (base : Nat) (cur : Array Value) (L : Nat) (P : Nat → List (Nat × Int)) : Prop :=
  ∀ i, i < L → ∃ v m, cur[i * 11 + 9]? = some v ∧ cur[i * 11 + 10]? = some (.int .i64 m) ∧ w.ownsRow base 102 2 v (P i).length (stCells (P i)) ∧ (P i).length ≤ 100
/-- No two lines share their pending row. -/
def ApartP (cur : Array Value) (L : Nat) : Prop :=
  ∀ i j, i < L → j < L → i ≠ j → ∀ v v', cur[i * 11 + 9]? = some v → cur[j * 11 + 9]? = some v' → ∀ b, v.ownBlock = some b → v'.ownBlock ≠ some b

/-- A memory at block 'gm', of 'L' lines that are zero but for the pending stores 'P'; all of it lies from block 'base' on. -/
def MemIs (base : Nat) (w : World) (gm L : Nat) (P : Nat → List (Nat × Int)) (E : Nat) : Prop :=
  ∃ gl gb cur Ae ne ce xs es ck, base ≤ gm ∧ base ≤ gl ∧ base ≤ gb ∧ L ≤ 200 ∧
    Cl w gm 73 #[.slice (some ⟨gl, 0, none⟩) L L, .map (some gb), .int .i64 0, .slice Ae ne ce] ∧
    Cl w gl 69 cur ∧ ZeroLines cur L ∧ Pend w base cur L P ∧ ApartP cur L ∧
    w.ownsRow base 104 12 (.slice Ae ne ce) ne xs ∧ ne ≤ E ∧ w.heap[gb]? = some (.map es ck) ∧ ∀ x ∈ es.toList, MapKept.IsKey (.int .i64) x.key

theorem MemIs.below {base : Nat} {w w' : World} {gm L : Nat} {P : Nat → List (Nat × Int)} {E : Nat} (h : MemIs base w gm L P E) (hb : Below w.heap.size w w') : MemIs base w' gm L P E := by
  obtain ⟨gl, gb, cur, Ae, ne, ce, xs, es, ck, h1, h2, h3, h4, hM, hL, hZ, hP, hA, hE, hn, hB, hK⟩ := h
  refine ⟨gl, gb, cur, Ae, ne, ce, xs, es, ck, h1, h2, h3, h4, hM.below hb hM.lt, hL.below hb hL.lt, hZ, fun i hi => ?_, hA, own_below hE hb, hn, (hb.block gb (lt_of_heap hB)).trans hB, hK⟩
  obtain ⟨v, m, a, b, c, d⟩ := hP i hi
  exact ⟨v, m, a, b, own_below c hb, d⟩

/-- Only blocks from 'base' on that belong to memories may have changed. -/
def GrewM (base : Nat) (w w' : World) : Prop :=
  w'.os = w.os ∧ w'.tape = w.tape ∧ w'.output = w.output ∧ w.heap.size ≤ w'.heap.size ∧
  ∀ g, g < w.heap.size → w'.heap[g]? = w.heap[g]? ∨ (base ≤ g ∧ ((∃ cs e fr, w.heap[g]? = some (.cells cs e fr) ∧ (e = 73 ∨ e = 69 ∨ e = 102 ∨ e = 104)) ∨ ∃ es ck, w.heap[g]? = some (.map es ck)))
def Alien (t : TypeId) : Prop := t ≠ 73 ∧ t ≠ 69 ∧ t ≠ 102 ∧ t ≠ 104
instance (t : TypeId) : Decidable (Alien t) := by unfold Alien; infer_instance

section
variable {w w' w'' : World} {base : Nat}
theorem GrewM.size (h : GrewM base w w') : w.heap.size ≤ w'.heap.size := h.2.2.2.1
theorem GrewM.cl (h : GrewM base w w') {g : Nat} {t : TypeId} {cs : Array Value} (hg : Cl w g t cs) (hne : Alien t) : Cl w' g t cs := by
  rcases h.2.2.2.2 g hg.lt with h1 | ⟨_, ⟨cs', e, fr, h1, h2⟩ | ⟨es, ck, h1⟩⟩
  · exact h1.trans hg
  · unfold Cl at hg
    rw [h1] at hg
    injection hg with hg
    injection hg with _ ht
    subst ht
    unfold Alien at hne
    rcases h2 with h2 | h2 | h2 | h2 <;> simp_all
  · unfold Cl at hg
    rw [h1] at hg
    injection hg with hg
    cases hg
theorem GrewM.rd (h : GrewM base w w') {t : TypeId} {size n : Nat} {v : Value} {xs : List Value} (hr : Rd w t size v n xs) (hne : Alien t) : Rd w' t size v n xs := by
  obtain ⟨h1, A, c, hv, hc, hm, hz, h2⟩ := hr
  refine ⟨h1, A, c, hv, hc, hm, hz, fun hn => ?_⟩
  obtain ⟨b, o, cur, fr, hA, hh, hcell⟩ := h2 hn
  refine ⟨b, o, cur, fr, hA, ?_, hcell⟩
  rcases h.2.2.2.2 b (lt_of_heap hh) with h1 | ⟨_, ⟨cs', e, fr', h1, h3⟩ | ⟨es, ck, h1⟩⟩
  · exact h1.trans hh
  · rw [h1] at hh
    injection hh with hh
    injection hh with _ ht
    subst ht
    unfold Alien at hne
    obtain ⟨n1, n2, n3, n4⟩ := hne
    rcases h3 with h3 | h3 | h3 | h3
    · exact absurd h3 n1
    · exact absurd h3 n2
    · exact absurd h3 n3
    · exact absurd h3 n4
  · rw [h1] at hh
    injection hh with hh
    cases hh
theorem GrewM.below (h : GrewM base w w') {B : Nat} {a : World} (hb : Below B a w) (h1 : B ≤ w.heap.size) (h2 : B ≤ base) : Below B a w' :=
  hb.trans ⟨h.1, h.2.1, h.2.2.1, h.2.2.2.1, fun k hk => by
    rcases h.2.2.2.2 k (by omega) with h3 | ⟨h3, _⟩
    · exact h3
    · omega⟩
theorem GrewM.of_below (hb : Below w.heap.size w w') : GrewM base w w' := ⟨hb.os, hb.tape, hb.output, hb.size, fun g hg => .inl (hb.block g hg)⟩
theorem GrewM.trans (h : GrewM base w w') (h' : GrewM base w' w'') : GrewM base w w'' := by
  refine ⟨h'.1.trans h.1, h'.2.1.trans h.2.1, h'.2.2.1.trans h.2.2.1, Nat.le_trans h.size h'.size, fun g hg => ?_⟩
  rcases h.2.2.2.2 g hg with h1 | h1
  · rcases h'.2.2.2.2 g (Nat.lt_of_lt_of_le hg h.size) with h2 | h2
    · exact .inl (h2.trans h1)
    · rw [h1] at h2; exact .inr h2
  · exact .inr h1
end

def zLine : Array Value := #[.int .i64 0, .int .i64 0, .int .i64 0, .int .i64 0, .int .i64 0, .int .i64 0, .int .i64 0, .int .i64 0, .int .i64 0, .slice none 0 0, .int .i64 0]
theorem made_get (L i j : Nat) (hi : i < L) (hj : j < 11) : (madeCells zLine (L * 11))[i * 11 + j]? = zLine[j]? := by
  have h1 : i * 11 + j < L * 11 := by omega
  have h2 : (i * 11 + j) % 11 = j := by omega
  rw [Array.getElem?_eq_getElem (by rw [size_madeCells]; exact h1)]
  simp only [madeCells, Array.getElem_map, Array.getElem_range]
  rw [show zLine.size = 11 from rfl, h2]
  match j, hj with
  | 0, _ => rfl
  | 1, _ => rfl
  | 2, _ => rfl
  | 3, _ => rfl
  | 4, _ => rfl
  | 5, _ => rfl
  | 6, _ => rfl
  | 7, _ => rfl
  | 8, _ => rfl
  | 9, _ => rfl
  | 10, _ => rfl
theorem lines_made {w2 : World} {g L : Nat} (h : w2.ownsRow g 69 11 (.slice (some ⟨g, 0, none⟩) L L) L (madeCells zLine (L * 11)).toList) (_hL : 1 ≤ L) :
    ∃ cur, Cl w2 g 69 cur ∧ ZeroLines cur L ∧ ∀ i, i < L → cur[i * 11 + 9]? = some (.slice none 0 0) ∧ cur[i * 11 + 10]? = some (.int .i64 0) := by
  rcases h.2 with ⟨h0, _⟩ | ⟨g', cap, cur, hv, _, hh, _, _, hsz, ht⟩
  · cases h0
  · injection hv with hA _ hc
    injection hA with hA
    injection hA with hA
    subst hA
    subst hc
    have get : ∀ i j, i < L → j < 11 → cur[i * 11 + j]? = zLine[j]? := by
      intro i j hi hj
      have h1 := made_get L i j hi hj
      rw [← h1]
      have h2 : (cur.toList.take (L * 11))[i * 11 + j]? = cur[i * 11 + j]? := by
        rw [List.getElem?_take, if_pos (by omega)]
        simp
      rw [← h2, ht]
      simp
    refine ⟨cur, hh, ⟨hsz, fun i hi j hj => ?_⟩, fun i hi => ⟨get i 9 hi (by omega), get i 10 hi (by omega)⟩⟩
    rw [get i j hi (by omega)]
    match j, hj with
    | 0, _ => rfl
    | 1, _ => rfl
    | 2, _ => rfl
    | 3, _ => rfl
    | 4, _ => rfl
    | 5, _ => rfl
    | 6, _ => rfl
    | 7, _ => rfl
    | 8, _ => rfl
theorem ZeroLines.set {cur : Array Value} {L : Nat} (h : ZeroLines cur L) (k : Nat) (u : Value) (hk : ∀ i j, i < L → j < 9 → i * 11 + j = k → u = .int .i64 0) : ZeroLines (cur.setIfInBounds k u) L := by
  refine ⟨by simpa using h.1, fun i hi j hj => ?_⟩
  by_cases he : i * 11 + j = k
  · have hu := hk i j hi hj he
    subst hu
    rw [← he, Array.getElem?_setIfInBounds_self_of_lt (by rw [h.1]; omega)]
  · rw [Array.getElem?_setIfInBounds_ne (Ne.symm he)]
    exact h.2 i hi j hj

def NewRel (w : World) (gl L : Nat) (i : Value) (wr : World) : Prop :=
  ∃ (k : Nat) (cur : Array Value), k ≤ L ∧ i = .int .i64 k ∧ Cl wr gl 69 cur ∧ ZeroLines cur L ∧ (∀ i, i < L → cur[i * 11 + 9]? = some (.slice none 0 0) ∧ cur[i * 11 + 10]? = some (.int .i64 0)) ∧ Below w.heap.size w wr

def NewPost (w : World) (L : Nat) (e : Ending) (w' : World) : Prop := ∃ gm, e = .returned (.pointer (some ⟨gm, 0, none⟩)) ∧ MemIs w.heap.size w' gm L (fun _ => []) 0 ∧ Below w.heap.size w w'

set_option maxRecDepth 100000 in
set_option maxHeartbeats 2000000 in
theorem new_calls (w : World) (L : Nat) (h1 : 1 ≤ L) (h2 : L ≤ 200) :
    Calls Tryd.prog 17 #[.int .i64 (L : Int)] w (NewPost w L) := by
  obtain ⟨j0, hj0, hy0, hy1, hy2⟩ := info_parts ln_info
  have hmm := @run_makeMap Tryd.prog
  go_enter Tryd.func17, Tryd.ntmps17
  go_wp2_with (at_make; refine wpList_make_full _ rfl _ _ 62 rfl w.heap.size 69 j0 _ 11 Tryd.underlying62 hj0 hy0 hy1 _ _ _ _ L rfl rfl rfl rfl (by rw [hy2]; omega) (by unfold maxLen; omega) (by simp) ?_; intro w2 hown2 hg2)
  obtain ⟨cur, hcur, hZ, hT⟩ := lines_made hown2 h1
  have hB2 : Below w.heap.size w w2 := Below.grown (Below.refl _ _) hg2 (Nat.le_refl _) (by simp)
  have hHT := Lib.hid hT
  have hHZ := Lib.hid hZ
  clear hown2 hg2 hT hZ
  refine (encode_zero _).mono ?_
  rintro e w3 ⟨rfl, hb3⟩
  have hB3 := hB2.trans (hb3.mono hB2.size)
  replace hcur := hcur.below hb3 hcur.lt
  clear hb3 hB2
  go_wp2_with fail
  go_loopw [5, 18] (fun _ i wr => NewRel w w.heap.size L i wr) (fun _ i _ => L - (intOf i).toNat)
  case atStart => exact ⟨0, cur, Nat.zero_le _, rfl, hcur, hHZ.out, hHT.out, hB3⟩
  case round =>
    clear hcur hHZ hHT hB3
    obtain ⟨k, cur, hk, rfl, hC, hZ, hT, hb⟩ := hrel
    have HZ := Lib.hid hZ
    have HT := Lib.hid hT
    have hl := hC.lt
    by_cases hlt : k < L
    · have c8 := (hC.cell (k * 11 + 8)).trans (hZ.2 k hlt 8 (by omega))
      have f8 := hC.free (k * 11 + 8)
      clear hZ hT
      go_wp2_with fail
      refine ⟨⟨k + 1, _, by omega, by go_num, hC.set_ _ _, HZ.out.set _ _ (fun _ _ _ _ _ => rfl), fun i hi => ?_, by (repeat (first | with_reducible exact Below.refl _ _ | with_reducible assumption | with_reducible refine below_drewN ?_ _ | with_reducible refine Below.drew ?_ | with_reducible refine Below.alloc ?_ (by first | omega | (simp; omega) | simp) _ | with_reducible refine Below.setCell ?_ (by first | omega | (simp; omega) | simp) _))⟩, by simp [intOf]; omega⟩
      rw [Array.getElem?_setIfInBounds_ne (by omega), Array.getElem?_setIfInBounds_ne (by omega)]
      exact HT.out i hi
    · clear hZ hT
      go_wp2_with fail
      have hGb : ((wr.alloc (.map #[] 0)).alloc (.cells #[.slice (some ⟨w.heap.size, 0, none⟩) L L, .map (some wr.heap.size), .int .i64 0, .slice none 0 0] 73)).heap[wr.heap.size]? = some (.map #[] 0) := by
        rw [Below.heap_alloc _ _ _ (by simp)]
        exact heap_alloc_new wr _
      have hsz := hb.size
      refine bodyPost_ret (v := .pointer (some ⟨wr.heap.size + 1, 0, none⟩)) ?_ rfl ⟨wr.heap.size + 1, rfl, ⟨w.heap.size, wr.heap.size, cur, none, 0, 0, [], #[], 0, by omega, by omega, by omega, h2, Cl.new_ _ _ _ _ (by simp), (hC.alloc _).alloc _, HZ.out, fun i hi => ⟨_, 0, (HT.out i hi).1, (HT.out i hi).2, World.ownsRow_nil _ _ _ _, by simp⟩, ?_, World.ownsRow_nil _ _ _ _, by omega, hGb, by simp⟩, by (repeat (first | with_reducible exact Below.refl _ _ | with_reducible assumption | with_reducible refine below_drewN ?_ _ | with_reducible refine Below.drew ?_ | with_reducible refine Below.alloc ?_ (by first | omega | (simp; omega) | simp) _ | with_reducible refine Below.setCell ?_ (by first | omega | (simp; omega) | simp) _))⟩
      · simp [results, Tryd.results17, go_sem, *]
      · intro i j hi hj _ v v' hv _ b hb'
        rw [(HT.out i hi).1] at hv
        injection hv with hv
        subst hv
        simp [Value.ownBlock] at hb'
end Go.Proofs.YtcoeoggoaiebeaaDoor
