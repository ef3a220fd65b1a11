/-
  class.Check at every picture: what the program and the specification compute, as a plain function; the contracts of Starts at a chunk's class.
-/
import Derived.Test.YtcoeoggoaiebeaaDoorCanC
import Derived.Test.YtcoeoggoaiebeaaDoorCheck
import Derived.Test.YtcoeoggoaiebeaaDoorRStarts
namespace Go.Proofs.YtcoeoggoaiebeaaDoor
open Go.RowKit
set_option linter.unusedSimpArgs false
set_option linter.unusedVariables false

/-- The first lines of the blocks of a chunk. -/
def chunkLs (heap : Int) (k : Nat) (c : Int) : List Int := if c < 0 ∨ 4 < c then [] else (chunkSpots heap k c.toNat).map (·.1)
theorem chunkLs_length (heap : Int) (k : Nat) (c : Int) : (chunkLs heap k c).length ≤ 16 := by
  unfold chunkLs
  split
  · simp
  · rw [List.length_map]
    unfold chunkSpots
    rw [spotsN_length]
    exact Nat.div_le_self _ _
theorem chunkLs_in {heap : Int} {k j : Nat} {c : Int} (h : j < (chunkLs heap k c).length) : 0 ≤ c := by
  rcases Int.lt_or_le c 0 with hc | hc
  · rw [chunkLs, if_pos (.inl hc)] at h
    simp at h
  · exact hc

/-- The blocks of a chunk are gone through: what is left of the blocks and of the bad lines; none: they do not fit. -/
def ckLines (c : Int) : List Int → List Bk → List Int → Option (List Bk × List Int)
  | [], bs, ds => some (bs, ds)
  | a :: st, bs, ds =>
    if ds.head? = some a then ckLines c st bs ds.tail
    else match bs with
      | [] => none
      | b :: bs' => if b.line = a ∧ b.cls = c ∧ canZ b.kind b.gen = true then ckLines c st bs' ds else none
/-- All chunks are gone through. -/
def ckChunks (heap : Int) : Nat → List Int → List Bk → List Int → Bool
  | _, [], bs, ds => bs.isEmpty && ds.isEmpty
  | k, c :: cs, bs, ds => if c < -2 ∨ 4 < c then false else match ckLines c (chunkLs heap k c) bs ds with
    | none => false
    | some s => ckChunks heap (k + 1) cs s.1 s.2
def ckB (heap : Int) (m : Nat) (cs : List Int) (bs : List Bk) (ds : List Int) : Bool := cs.length == m && ckChunks heap 0 cs bs ds
/-- The error that Check returns. -/
def ckE (b : Bool) : Int := if b then 0 else 3
theorem ckE_yes {b : Bool} (h : b = true) : ckE b = 0 := by rw [h]; rfl
theorem ckE_no {b : Bool} (h : b = false) : ckE b = 3 := by rw [h]; rfl

/-- What is still to come in a chunk, and then in the others. -/
def ckRest (heap : Int) (k : Nat) (cs : List Int) (c : Int) (st : List Int) (bs : List Bk) (ds : List Int) : Bool := match ckLines c st bs ds with
  | none => false
  | some s => ckChunks heap (k + 1) cs s.1 s.2
section
variable {heap : Int} {k : Nat} {cs : List Int} {c a : Int} {st : List Int} {bs : List Bk} {ds : List Int}
theorem ckChunks_out (h : c < -2 ∨ 4 < c) : ckChunks heap k (c :: cs) bs ds = false := by rw [ckChunks, if_pos h]
theorem ckChunks_in (h : ¬ (c < -2 ∨ 4 < c)) : ckChunks heap k (c :: cs) bs ds = ckRest heap k cs c (chunkLs heap k c) bs ds := by rw [ckChunks, if_neg h]; rfl
theorem ckRest_nil : ckRest heap k cs c [] bs ds = ckChunks heap (k + 1) cs bs ds := rfl
theorem ckRest_bad : ckRest heap k cs c (a :: st) bs (a :: ds) = ckRest heap k cs c st bs ds := by simp [ckRest, ckLines]
theorem ckRest_none (h : ds.head? ≠ some a) : ckRest heap k cs c (a :: st) [] ds = false := by simp [ckRest, ckLines, h]
theorem ckRest_no {b : Bk} (h : ds.head? ≠ some a) (hb : ¬ (b.line = a ∧ b.cls = c ∧ canZ b.kind b.gen = true)) : ckRest heap k cs c (a :: st) (b :: bs) ds = false := by
  rw [ckRest, ckLines, if_neg h]
  rw [if_neg hb]
theorem ckRest_yes {b : Bk} (h : ds.head? ≠ some a) (hb : b.line = a ∧ b.cls = c ∧ canZ b.kind b.gen = true) : ckRest heap k cs c (a :: st) (b :: bs) ds = ckRest heap k cs c st bs ds := by
  rw [ckRest, ckLines, if_neg h]
  rw [if_pos hb]
  rfl
end

theorem starts_at (w : World) (l0 l1 l2 l3 l4 l5 heap : Int) (chunks k : Nat) (c : Int) (hk : k < chunks) (hc : chunks ≤ 300) (hh0 : 0 ≤ heap) (hh1 : heap ≤ 5000) (h0 : -2 ≤ c) (h4 : c ≤ 4) :
    Calls Tryd.prog 15 #[.agg #[.int .i64 l0, .int .i64 l1, .int .i64 l2, .int .i64 l3, .int .i64 l4, .int .i64 l5, .int .i64 heap, .int .i64 (chunks : Int)], .int .i64 (k : Int), .int .i64 c] w (IntsPost w (chunkLs heap k c)) := by
  by_cases hn : c < 0
  · rw [chunkLs, if_pos (.inl hn)]
    exact starts_out w _ k c (.inl hn)
  · rw [chunkLs, if_neg (by omega)]
    obtain ⟨q, hq⟩ : ∃ q : Nat, c = q := ⟨c.toNat, by omega⟩
    subst hq
    rw [Int.toNat_natCast]
    exact starts_calls w l0 l1 l2 l3 l4 l5 heap chunks k q hk hc hh0 hh1 (by omega)

theorem rstarts_at (w : World) (l0 l1 l2 l3 l4 l5 heap : Int) (chunks k : Nat) (c : Int) (hk : k < chunks) (hc : chunks ≤ 300) (hh0 : 0 ≤ heap) (hh1 : heap ≤ 5000) (h0 : -2 ≤ c) (h4 : c ≤ 4) :
    Calls Tryd.prog 16 #[.agg #[.int .i64 l0, .int .i64 l1, .int .i64 l2, .int .i64 l3, .int .i64 l4, .int .i64 l5, .int .i64 heap, .int .i64 (chunks : Int)], .int .i64 (k : Int), .int .i64 c] w (IntsPost w (chunkLs heap k c)) := by
  by_cases hn : c < 0
  · rw [chunkLs, if_pos (.inl hn)]
    exact rstarts_c w l0 l1 l2 l3 l4 l5 heap chunks k c ⟨by omega, by omega, hn⟩
  · rw [chunkLs, if_neg (by omega)]
    obtain ⟨q, hq⟩ : ∃ q : Nat, c = q := ⟨c.toNat, by omega⟩
    subst hq
    rw [Int.toNat_natCast]
    match q, (show q ≤ 4 by omega) with
    | 0, _ => exact rstarts0 w l0 l1 l2 l3 l4 l5 heap chunks k hk hc hh0 hh1
    | 1, _ => exact rstarts1 w l0 l1 l2 l3 l4 l5 heap chunks k hk hc hh0 hh1
    | 2, _ => exact rstarts2 w l0 l1 l2 l3 l4 l5 heap chunks k hk hc hh0 hh1
    | 3, _ => exact rstarts3 w l0 l1 l2 l3 l4 l5 heap chunks k hk hc hh0 hh1
    | 4, _ => exact rstarts4 w l0 l1 l2 l3 l4 l5 heap chunks k hk hc hh0 hh1

/-- A slice reads as a list of blocks (of integers), whatever the type of the block in which it lies. -/
def RB (w : World) (te : TypeId) (v : Value) (bs : List Bk) : Prop := Rd w te 4 v bs.length (bksCells bs)
def RI (w : World) (te : TypeId) (v : Value) (xs : List Int) : Prop := Rd w te 1 v xs.length (xs.map (Value.int .i64))
section
variable {w w' : World} {te : TypeId}
theorem RB.below {v : Value} {bs : List Bk} (h : RB w te v bs) (hb : Below w.heap.size w w') : RB w' te v bs := Rd.below h hb
theorem RI.below {v : Value} {xs : List Int} (h : RI w te v xs) (hb : Below w.heap.size w w') : RI w' te v xs := Rd.below h hb
theorem RB.len {xs : List Bk} {A : Option Addr} {n c : Nat} (h : RB w te (.slice A n c) xs) : n = xs.length := by
  obtain ⟨_, _, _, hv, _⟩ := h
  injection hv
theorem RI.len {xs : List Int} {A : Option Addr} {n c : Nat} (h : RI w te (.slice A n c) xs) : n = xs.length := by
  obtain ⟨_, _, _, hv, _⟩ := h
  injection hv
theorem RB.zero (A : Option Addr) (c : Nat) (hc : c ≤ maxLen) (hz : A = none → c = 0) : RB w te (.slice A 0 c) [] := ⟨rfl, A, c, rfl, Nat.zero_le _, hc, hz, fun h => by simp at h⟩
theorem RI.zero (A : Option Addr) (c : Nat) (hc : c ≤ maxLen) (hz : A = none → c = 0) : RI w te (.slice A 0 c) [] := ⟨rfl, A, c, rfl, Nat.zero_le _, hc, hz, fun h => by simp at h⟩
theorem RI.first {x : Int} {xs : List Int} {A : Option Addr} {n c : Nat} (h : RI w te (.slice A n c) (x :: xs)) : n = xs.length + 1 ∧ n ≤ c ∧ c ≤ maxLen ∧ ∃ b o, A = some ⟨b, o, none⟩ ∧ b < w.heap.size ∧ w.cell? ⟨b, o, none⟩ = some (.int .i64 x) := by
  obtain ⟨h1, A', c', hv, hl, hm, hz, h2⟩ := h
  injection hv with hA hn hcc
  subst hA hn hcc
  obtain ⟨b', o', cur, fr, hA', hh, hcell⟩ := h2 (by simp)
  refine ⟨rfl, by simpa using hl, hm, b', o', hA', lt_of_heap hh, ?_⟩
  rw [cell_of_row w b' o' cur _ fr hh]
  exact hcell 0 _ rfl
theorem RB.first {x : Bk} {xs : List Bk} {A : Option Addr} {n c : Nat} (h : RB w te (.slice A n c) (x :: xs)) : n = xs.length + 1 ∧ n ≤ c ∧ c ≤ maxLen ∧ ∃ b o, A = some ⟨b, o, none⟩ ∧ b < w.heap.size ∧ w.cell? ⟨b, o, none⟩ = some (.int .i64 x.line) ∧ w.cell? ⟨b, o + 1, none⟩ = some (.int .i64 x.cls) ∧ w.cell? ⟨b, o + 2, none⟩ = some (.int .i64 x.kind) ∧ w.cell? ⟨b, o + 3, none⟩ = some (.int .i64 x.gen) := by
  obtain ⟨h1, A', c', hv, hl, hm, hz, h2⟩ := h
  injection hv with hA hn hcc
  subst hA hn hcc
  obtain ⟨b', o', cur, fr, hA', hh, hcell⟩ := h2 (by simp)
  have g : ∀ j u, (bksCells (x :: xs))[j]? = some u → w.cell? ⟨b', o' + j, none⟩ = some u := fun j u hu => by
    rw [cell_of_row w b' _ cur _ fr hh]
    exact hcell j u hu
  exact ⟨rfl, by simpa using hl, hm, b', o', hA', lt_of_heap hh, g 0 _ rfl, g 1 _ rfl, g 2 _ rfl, g 3 _ rfl⟩
theorem RB.tail {b o n c : Nat} {x : Bk} {xs : List Bk} (h : RB w te (.slice (some ⟨b, o, none⟩) n c) (x :: xs)) (hc : 1 < c) : RB w te (.slice (some ⟨b, o + 4, none⟩) (n - 1) (c - 1)) xs := by
  obtain rfl := h.len
  obtain ⟨h1, A, c', hv, hl, hm, hz, h2⟩ := h
  injection hv with hA _ hcc
  subst hcc
  obtain ⟨b', o', cur, fr, hA', hh, hcell⟩ := h2 (by simp)
  rw [hA'] at hA
  injection hA with hA
  injection hA with hb ho _
  subst hb ho
  refine ⟨bksCells_length xs, _, c - 1, by simp, by simp at hl; omega, by omega, by simp, fun _ => ⟨b, o + 4, cur, fr, rfl, hh, fun j u hu => ?_⟩⟩
  have := hcell (4 + j) u (by
    rw [bksCells, List.flatMap_cons, List.getElem?_append_right (by simp [bkCells])]
    simp only [bkCells, List.length_cons, List.length_nil, Nat.zero_add, Nat.reduceAdd, Nat.add_sub_cancel_left]
    exact hu)
  rw [show o + 4 + j = o + (4 + j) by omega]
  exact this
theorem RI.tail {b o n c : Nat} {x : Int} {xs : List Int} (h : RI w te (.slice (some ⟨b, o, none⟩) n c) (x :: xs)) (hc : 1 < c) : RI w te (.slice (some ⟨b, o + 1, none⟩) (n - 1) (c - 1)) xs := by
  obtain rfl := h.len
  obtain ⟨h1, A, c', hv, hl, hm, hz, h2⟩ := h
  injection hv with hA _ hcc
  subst hcc
  obtain ⟨b', o', cur, fr, hA', hh, hcell⟩ := h2 (by simp)
  rw [hA'] at hA
  injection hA with hA
  injection hA with hb ho _
  subst hb ho
  refine ⟨by simp, _, c - 1, by simp, by simp at hl; omega, by omega, by simp, fun _ => ⟨b, o + 1, cur, fr, rfl, hh, fun j u hu => ?_⟩⟩
  have := hcell (1 + j) u (by
    rw [List.map_cons, Nat.add_comm, List.getElem?_cons_succ]
    exact hu)
  rw [show o + 1 + j = o + (1 + j) by omega]
  exact this
end
theorem drop_at {α : Type} {l : List α} {k : Nat} {x : α} (h : l[k]? = some x) : l.drop k = x :: l.drop (k + 1) := by
  have hlt : k < l.length := (List.getElem?_eq_some_iff.1 h).1
  rw [List.drop_eq_getElem_cons hlt]
  rw [List.getElem?_eq_getElem hlt] at h
  injection h with h
  rw [h]
end Go.Proofs.YtcoeoggoaiebeaaDoor
