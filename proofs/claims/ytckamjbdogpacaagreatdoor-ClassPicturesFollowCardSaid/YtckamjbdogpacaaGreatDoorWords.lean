/-
  What the functions on pictures come to, in plain Lean: no program in sight.
  Words for memory: a slice value reads as a list of cells.
-/
import Derived.Test.YtckamjbdogpacaaGreatDoorProg
import Derived.WalkKit
import Derived.WalkSpells
import Derived.WalkLawsBesides
import Derived.Deep.QuietTactic
import Derived.BigQuiet
import Derived.Lib.Hide
import Derived.KernelRfl
namespace Go.Proofs.YtckamjbdogpacaaGreatDoor

/-- A block of a picture: its line, class, kind and generation. -/
abbrev Bk := Int × Int × Int × Int
def Bk.line (b : Bk) : Int := b.1
def Bk.cls (b : Bk) : Int := b.2.1
def Bk.kind (b : Bk) : Int := b.2.2.1
def Bk.gen (b : Bk) : Int := b.2.2.2
def rarerB (g l g' l' : Int) : Bool := decide (g < g') || (g == g' && decide (l < l'))
def nextGen (g : Int) : Int := if g < 0 ∨ 1048575 ≤ g then 1 else g + 1
def freeB (c k c0 : Int) : Bool := c == c0 && k == 0
def usedB (c k c0 : Int) : Bool := c == c0 && k != 0

theorem rarerB_yes {g l g' l' : Int} (h : g < g') : rarerB g l g' l' = true := by simp [rarerB, h]
theorem rarerB_eq {g l l' : Int} : rarerB g l g l' = decide (l < l') := by simp [rarerB]
theorem rarerB_no {g l g' l' : Int} (h : g' < g) : rarerB g l g' l' = false := by simp [rarerB]; omega

def useStep (c : Int) (s : Int × Int × Int) (b : Bk) : Int × Int × Int :=
  if b.cls = c then (min (if s.2.2 = 0 then b.gen else s.1) b.gen, max s.2.1 b.gen, s.2.2 + 1) else s
def useOf (bs : List Bk) (c : Int) : Int × Int × Int := bs.foldl (useStep c) (0, 0, 0)

theorem useOf_snoc (bs : List Bk) (c : Int) (k : Nat) (x : Bk) (h : bs[k]? = some x) : useOf (bs.take (k + 1)) c = useStep c (useOf (bs.take k) c) x := by
  rw [useOf, List.take_add_one, h, List.foldl_append]; rfl

theorem useOf_count (bs : List Bk) (c : Int) : 0 ≤ (useOf bs c).2.2 ∧ (useOf bs c).2.2 ≤ bs.length := by
  have : ∀ (bs : List Bk) (s : Int × Int × Int), 0 ≤ s.2.2 → 0 ≤ (bs.foldl (useStep c) s).2.2 ∧ (bs.foldl (useStep c) s).2.2 ≤ s.2.2 + bs.length := by
    intro bs
    induction bs with
    | nil => intro s h; simp; exact h
    | cons b bs ih =>
      intro s h
      have hs : 0 ≤ (useStep c s b).2.2 ∧ (useStep c s b).2.2 ≤ s.2.2 + 1 := by unfold useStep; split <;> (try simp only) <;> omega
      have := ih (useStep c s b) hs.1
      simp only [List.foldl_cons, List.length_cons]
      omega
  have := this bs (0, 0, 0) (by simp)
  simp at this
  exact this

theorem useOf_most (bs : List Bk) (c B : Int) (hB : 0 ≤ B) (h : ∀ b ∈ bs, b.gen ≤ B) : 0 ≤ (useOf bs c).2.1 ∧ (useOf bs c).2.1 ≤ B := by
  have : ∀ (l : List Bk) (s : Int × Int × Int), 0 ≤ s.2.1 ∧ s.2.1 ≤ B → (∀ b ∈ l, b.gen ≤ B) → 0 ≤ (l.foldl (useStep c) s).2.1 ∧ (l.foldl (useStep c) s).2.1 ≤ B := by
    intro l
    induction l with
    | nil => intro s h _; exact h
    | cons b l ih =>
      intro s hs hl
      refine ih (useStep c s b) ?_ (fun y hy => hl y (List.mem_cons_of_mem _ hy))
      have := hl b List.mem_cons_self
      unfold useStep
      split <;> (try simp only) <;> omega
  exact this bs (0, 0, 0) (by simp; exact hB) h

def firstStep (p : Bk → Bool) (acc : Option Bk) (b : Bk) : Option Bk :=
  if p b && (match acc with | none => true | some a => rarerB b.gen b.line a.gen a.line) then some b else acc
def firstB (p : Bk → Bool) (bs : List Bk) : Option Bk := bs.foldl (firstStep p) none
def outBk (o : Option Bk) : Bk := o.getD (0, 0, 0, 0)

theorem firstB_snoc (p : Bk → Bool) (bs : List Bk) (k : Nat) (x : Bk) (h : bs[k]? = some x) : firstB p (bs.take (k + 1)) = firstStep p (firstB p (bs.take k)) x := by
  rw [firstB, List.take_add_one, h, List.foldl_append]; rfl

theorem firstStep_no {p : Bk → Bool} {x : Bk} (acc : Option Bk) (h : p x = false) : firstStep p acc x = acc := by simp [firstStep, h]
theorem firstStep_none {p : Bk → Bool} {x : Bk} (h : p x = true) : firstStep p none x = some x := by simp [firstStep, h]
theorem firstStep_take {p : Bk → Bool} {x a : Bk} (h : p x = true) (hr : rarerB x.gen x.line a.gen a.line = true) : firstStep p (some a) x = some x := by simp [firstStep, h, hr]
theorem firstStep_keep {p : Bk → Bool} {x a : Bk} (hr : rarerB x.gen x.line a.gen a.line = false) : firstStep p (some a) x = some a := by simp [firstStep, hr]

theorem firstB_mem (p : Bk → Bool) (bs : List Bk) (b : Bk) (h : firstB p bs = some b) : b ∈ bs ∧ p b = true := by
  have : ∀ (l : List Bk) (acc : Option Bk), (∀ a, acc = some a → a ∈ bs ∧ p a = true) → (∀ x ∈ l, x ∈ bs) → ∀ a, l.foldl (firstStep p) acc = some a → a ∈ bs ∧ p a = true := by
    intro l
    induction l with
    | nil => intro acc ha _ a h; exact ha a h
    | cons x l ih =>
      intro acc ha hl a h
      refine ih (firstStep p acc x) ?_ (fun y hy => hl y (List.mem_cons_of_mem _ hy)) a h
      intro z hz
      have hor : z = x ∧ p x = true ∨ acc = some z := by
        cases hp : p x
        · rw [firstStep_no acc hp] at hz
          exact .inr hz
        · cases acc with
          | none =>
            rw [firstStep_none hp] at hz
            injection hz with hz
            exact .inl ⟨hz.symm, rfl⟩
          | some a =>
            cases hr : rarerB x.gen x.line a.gen a.line
            · rw [firstStep_keep hr] at hz
              exact .inr hz
            · rw [firstStep_take hp hr] at hz
              injection hz with hz
              exact .inl ⟨hz.symm, rfl⟩
      rcases hor with ⟨rfl, hp⟩ | hz
      · exact ⟨hl z List.mem_cons_self, hp⟩
      · exact ha z hz
  exact this bs none (by simp) (fun _ hx => hx) b h

def nextB (bs : List Bk) (c : Int) : Option Bk := firstB (fun b => freeB b.cls b.kind c) bs
def coldB (bs : List Bk) (c : Int) : Option Bk := firstB (fun b => usedB b.cls b.kind c) bs
/-- The block whose content is to be moved next. -/
def levelB (bs : List Bk) (c : Int) : Option Bk := match coldB bs c with
  | none => none
  | some b => if (useOf bs c).2.1 - b.gen < 8 then none else some b

/-- What a move makes of a block. -/
def afterF (f t b : Bk) : Bk := if b = f then (b.line, b.cls, 0, b.gen) else if b = t then (b.line, b.cls, f.kind, nextGen b.gen) else b
def afterB (bs : List Bk) (f t : Bk) : List Bk := bs.map (afterF f t)
/-- The first k blocks turned, the others as they were. -/
def part (F : Bk → Bk) (bs : List Bk) (k : Nat) : List Bk := (bs.take k).map F ++ bs.drop k

theorem part_zero (F : Bk → Bk) (bs : List Bk) : part F bs 0 = bs := by simp [part]
theorem part_all (F : Bk → Bk) (bs : List Bk) (k : Nat) (h : bs.length ≤ k) : part F bs k = bs.map F := by
  simp [part, List.take_of_length_le h, List.drop_eq_nil_of_le h]
theorem part_length (F : Bk → Bk) (bs : List Bk) (k : Nat) : (part F bs k).length = bs.length := by
  simp only [part, List.length_append, List.length_map, List.length_take, List.length_drop]; omega
theorem part_at (F : Bk → Bk) (bs : List Bk) (k : Nat) : (part F bs k)[k]? = bs[k]? := by
  by_cases h : k < bs.length
  · have hl : ((bs.take k).map F).length = k := by simp; omega
    rw [part, List.getElem?_append_right (by omega), hl, Nat.sub_self, List.getElem?_drop, Nat.add_zero]
  · rw [List.getElem?_eq_none (by rw [part_length]; omega), List.getElem?_eq_none (by omega)]
theorem part_succ (F : Bk → Bk) (bs : List Bk) (k : Nat) (x : Bk) (h : bs[k]? = some x) : part F bs (k + 1) = (part F bs k).set k (F x) := by
  have hlt : k < bs.length := (List.getElem?_eq_some_iff.1 h).1
  have hl : ((bs.take k).map F).length = k := by simp; omega
  rw [part, part, List.set_append_right _ _ (by omega), hl, Nat.sub_self, List.take_add_one, h]
  have hd : bs.drop k = x :: bs.drop (k + 1) := by
    rw [List.drop_eq_getElem_cons hlt]
    rw [List.getElem?_eq_getElem hlt] at h
    injection h with h
    rw [h]
  rw [hd]
  simp

/-- The next move of a class, if there is one. -/
def moveOf (bs : List Bk) (c : Int) : Option (Bk × Bk) := match levelB bs c, nextB bs c with
  | some f, some t => some (f, t)
  | _, _ => none
/-- The moves that are made one after the other, at most n of them. -/
def movesB : Nat → List Bk → Int → List (Bk × Bk)
  | 0, _, _ => []
  | n + 1, bs, c => match moveOf bs c with
    | none => []
    | some m => m :: movesB n (afterB bs m.1 m.2) c
theorem movesB_none {n : Nat} {bs : List Bk} {c : Int} (h : moveOf bs c = none) : movesB n bs c = [] := by
  cases n with
  | zero => rfl
  | succ n => simp [movesB, h]
theorem movesB_some {n : Nat} {bs : List Bk} {c : Int} {f t : Bk} (h : moveOf bs c = some (f, t)) : movesB (n + 1) bs c = (f, t) :: movesB n (afterB bs f t) c := by
  simp [movesB, h]
theorem movesB_length (n : Nat) (bs : List Bk) (c : Int) : (movesB n bs c).length ≤ n := by
  induction n generalizing bs with
  | zero => simp [movesB]
  | succ n ih =>
    cases h : moveOf bs c with
    | none => rw [movesB_none h]; simp
    | some m => simp only [movesB, h, List.length_cons]; have := ih (afterB bs m.1 m.2); omega
theorem moveOf_some {bs : List Bk} {c : Int} {f t : Bk} (hf : levelB bs c = some f) (ht : nextB bs c = some t) : moveOf bs c = some (f, t) := by simp [moveOf, hf, ht]
theorem moveOf_cold {bs : List Bk} {c : Int} (hf : levelB bs c = none) : moveOf bs c = none := by simp [moveOf, hf]
theorem moveOf_room {bs : List Bk} {c : Int} (ht : nextB bs c = none) : moveOf bs c = none := by
  unfold moveOf
  rw [ht]
  cases levelB bs c <;> rfl
theorem levelB_cold {bs : List Bk} {c : Int} {f : Bk} (h : levelB bs c = some f) : coldB bs c = some f ∧ 8 ≤ (useOf bs c).2.1 - f.gen := by
  unfold levelB at h
  cases hc : coldB bs c with
  | none => rw [hc] at h; cases h
  | some b =>
    rw [hc] at h
    simp only at h
    split at h
    · cases h
    · injection h with h
      subst h
      exact ⟨rfl, by omega⟩
def okMove (bs : List Bk) (f t : Bk) : Prop := f.cls = t.cls ∧ f.kind ≠ 0 ∧ t.kind = 0 ∧ f ∈ bs ∧ t ∈ bs
theorem okMove_of {bs : List Bk} {c : Int} {f t : Bk} (hf : levelB bs c = some f) (ht : nextB bs c = some t) : okMove bs f t := by
  obtain ⟨m1, u1⟩ := firstB_mem _ bs f (levelB_cold hf).1
  obtain ⟨m2, u2⟩ := firstB_mem _ bs t ht
  simp [usedB] at u1
  simp [freeB] at u2
  exact ⟨by omega, u1.2, u2.2, m1, m2⟩
theorem nextGen_le (g : Int) (B : Int) (h : 1048575 ≤ B) : 0 ≤ nextGen g ∧ nextGen g ≤ B := by unfold nextGen; split <;> omega
def GenOk (B : Int) (bs : List Bk) : Prop := ∀ b ∈ bs, 0 ≤ b.gen ∧ b.gen ≤ B
theorem GenOk.after {B : Int} {bs : List Bk} (hB : 1048575 ≤ B) (h : GenOk B bs) (f t : Bk) : GenOk B (afterB bs f t) := by
  intro b hb
  simp only [afterB, List.mem_map] at hb
  obtain ⟨a, ha, rfl⟩ := hb
  have := h a ha
  unfold afterF
  split
  · exact this
  · split
    · exact nextGen_le a.gen B hB
    · exact this
theorem afterB_length (bs : List Bk) (f t : Bk) : (afterB bs f t).length = bs.length := List.length_map _

end Go.Proofs.YtckamjbdogpacaaGreatDoor

namespace Go.Proofs.YtckamjbdogpacaaGreatDoor
open Go.RowKit

/-- The slice value 'v' has 'n' elements (of the type 'e', of 'size' cells each), and reads as the cells 'xs' in the world 'w'. -/
def Rd (w : World) (e : TypeId) (size : Nat) (v : Value) (n : Nat) (xs : List Value) : Prop :=
  xs.length = n * size ∧ ∃ (A : Option Addr) (c : Nat), v = .slice A n c ∧ n ≤ c ∧ c ≤ maxLen ∧ (A = none → c = 0) ∧
    (0 < n → ∃ b o cur fr, A = some ⟨b, o, none⟩ ∧ w.heap[b]? = some (.cells cur e fr) ∧ ∀ j u, xs[j]? = some u → cur[o + j]? = some u)

theorem lt_of_heap {w : World} {b : Nat} {x : Obj} (h : w.heap[b]? = some x) : b < w.heap.size := by
  rcases Nat.lt_or_ge b w.heap.size with hlt | hge
  · exact hlt
  · rw [Array.getElem?_eq_none hge] at h; cases h

theorem Rd.below {w w' : World} {e : TypeId} {size n : Nat} {v : Value} {xs : List Value} (h : Rd w e size v n xs) (hb : Below w.heap.size w w') : Rd w' e size v n xs := by
  obtain ⟨h1, A, c, hv, hc, hm, hz, h2⟩ := h
  refine ⟨h1, A, c, hv, hc, hm, hz, fun hn => ?_⟩
  obtain ⟨b, o, cur, fr, hA, hh, hcell⟩ := h2 hn
  exact ⟨b, o, cur, fr, hA, (hb.block b (lt_of_heap hh)).trans hh, hcell⟩

/-- Behind an append to a row of another element type. -/
theorem Rd.grown {w w' : World} {e e' : TypeId} {size n base size' n' : Nat} {v v' : Value} {xs xs' : List Value} (h : Rd w e size v n xs) (hg : w.grownBy w' v'.ownBlock) (ho : w.ownsRow base e' size' v' n' xs') (hne : e ≠ e') : Rd w' e size v n xs := by
  obtain ⟨h1, A, c, hv, hc, hm, hz, h2⟩ := h
  refine ⟨h1, A, c, hv, hc, hm, hz, fun hn => ?_⟩
  obtain ⟨b, o, cur, fr, hA, hh, hcell⟩ := h2 hn
  refine ⟨b, o, cur, fr, hA, (hg.block b (lt_of_heap hh) ?_).trans hh, hcell⟩
  intro hb
  rcases ho.2 with ⟨rfl, _⟩ | ⟨g, cap, cur', rfl, _, hh', _⟩
  · simp [Value.ownBlock] at hb
  · simp only [Value.ownBlock, Option.some.injEq] at hb
    subst hb
    rw [hh] at hh'
    injection hh' with hh'
    injection hh' with _ ht
    exact hne ht

/-- Behind a store into a block of another element type. -/
theorem Rd.far {w : World} {e : TypeId} {size n g : Nat} {v : Value} {xs : List Value} {t : TypeId} {cs : Array Value} {fr0 : Nat × Nat} (h : Rd w e size v n xs) (hg : w.heap[g]? = some (.cells cs t fr0)) (hne : e ≠ t) (i : Nat) (u : Value) : Rd (w.setCell ⟨g, i, none⟩ u) e size v n xs := by
  obtain ⟨h1, A, c, hv, hc, hm, hz, h2⟩ := h
  refine ⟨h1, A, c, hv, hc, hm, hz, fun hn => ?_⟩
  obtain ⟨b, o, cur, fr, hA, hh, hcell⟩ := h2 hn
  refine ⟨b, o, cur, fr, hA, (Below.heap_setCell w _ u b ?_).trans hh, hcell⟩
  rintro rfl
  rw [hh] at hg
  injection hg with hg
  injection hg with _ ht
  exact hne ht

def bkCells (b : Bk) : List Value := [.int .i64 b.line, .int .i64 b.cls, .int .i64 b.kind, .int .i64 b.gen]
def bksCells (bs : List Bk) : List Value := bs.flatMap bkCells
def RdB (w : World) (v : Value) (bs : List Bk) : Prop := Rd w 43 4 v bs.length (bksCells bs)
def RdI (w : World) (v : Value) (xs : List Int) : Prop := Rd w 3 1 v xs.length (xs.map (Value.int .i64))

theorem bksCells_length (bs : List Bk) : (bksCells bs).length = bs.length * 4 := by
  induction bs with
  | nil => rfl
  | cons b bs ih => simp only [bksCells, List.flatMap_cons, List.length_append, List.length_cons] at ih ⊢; rw [ih]; simp [bkCells]; omega

theorem bksCells_get (bs : List Bk) (k j : Nat) (hj : j < 4) : (bksCells bs)[k * 4 + j]? = (bs[k]?).bind (fun b => (bkCells b)[j]?) := by
  induction bs generalizing k with
  | nil => simp [bksCells]
  | cons b bs ih =>
    cases k with
    | zero =>
      simp only [bksCells, List.flatMap_cons, List.getElem?_cons_zero, Option.bind_some, Nat.zero_mul, Nat.zero_add]
      rw [List.getElem?_append_left (by simpa [bkCells] using hj)]
    | succ k =>
      have := ih k
      simp only [bksCells, List.flatMap_cons, List.getElem?_cons_succ] at this ⊢
      rw [List.getElem?_append_right (by simp [bkCells]; omega)]
      rw [← this]
      congr 1
      simp [bkCells]; omega

theorem Rd.atB {w : World} {te : TypeId} {v : Value} {bs : List Bk} (h : Rd w te 4 v bs.length (bksCells bs)) : ∃ (A : Option Addr) (c : Nat), v = .slice A bs.length c ∧ bs.length ≤ c ∧
    (∀ k, k < bs.length → ∃ b o, A = some ⟨b, o, none⟩ ∧ b < w.heap.size ∧ ∀ x, bs[k]? = some x → w.cell? ⟨b, o + k * 4, none⟩ = some (.int .i64 x.line) ∧ w.cell? ⟨b, o + k * 4 + 1, none⟩ = some (.int .i64 x.cls) ∧ w.cell? ⟨b, o + k * 4 + 2, none⟩ = some (.int .i64 x.kind) ∧ w.cell? ⟨b, o + k * 4 + 3, none⟩ = some (.int .i64 x.gen)) := by
  obtain ⟨_, A, c, hv, hc, _, _, h2⟩ := h
  refine ⟨A, c, hv, hc, fun k hk => ?_⟩
  obtain ⟨b, o, cur, fr, hA, hh, hcell⟩ := h2 (by omega)
  refine ⟨b, o, hA, lt_of_heap hh, fun x hx => ?_⟩
  have g : ∀ j, j < 4 → ∀ u, (bkCells x)[j]? = some u → w.cell? ⟨b, o + k * 4 + j, none⟩ = some u := fun j hj u hu => by
    rw [Nat.add_assoc, cell_of_row w b _ cur _ fr hh]
    exact hcell _ u (by rw [bksCells_get bs k j hj, hx]; exact hu)
  exact ⟨g 0 (by omega) _ rfl, g 1 (by omega) _ rfl, g 2 (by omega) _ rfl, g 3 (by omega) _ rfl⟩
theorem RdB.at_ {w : World} {v : Value} {bs : List Bk} (h : RdB w v bs) : ∃ (A : Option Addr) (c : Nat), v = .slice A bs.length c ∧ bs.length ≤ c ∧
    (∀ k, k < bs.length → ∃ b o, A = some ⟨b, o, none⟩ ∧ b < w.heap.size ∧ ∀ x, bs[k]? = some x → w.cell? ⟨b, o + k * 4, none⟩ = some (.int .i64 x.line) ∧ w.cell? ⟨b, o + k * 4 + 1, none⟩ = some (.int .i64 x.cls) ∧ w.cell? ⟨b, o + k * 4 + 2, none⟩ = some (.int .i64 x.kind) ∧ w.cell? ⟨b, o + k * 4 + 3, none⟩ = some (.int .i64 x.gen)) := Rd.atB h

theorem Rd.atI {w : World} {te : TypeId} {v : Value} {xs : List Int} (h : Rd w te 1 v xs.length (xs.map (Value.int .i64))) : ∃ (A : Option Addr) (c : Nat), v = .slice A xs.length c ∧ xs.length ≤ c ∧
    (∀ k, k < xs.length → ∃ b o, A = some ⟨b, o, none⟩ ∧ b < w.heap.size ∧ ∀ x, xs[k]? = some x → w.cell? ⟨b, o + k, none⟩ = some (.int .i64 x)) := by
  obtain ⟨_, A, c, hv, hc, _, _, h2⟩ := h
  refine ⟨A, c, hv, hc, fun k hk => ?_⟩
  obtain ⟨b, o, cur, fr, hA, hh, hcell⟩ := h2 (by omega)
  exact ⟨b, o, hA, lt_of_heap hh, fun x hx => by rw [cell_of_row w b _ cur _ fr hh]; exact hcell k _ (by rw [List.getElem?_map, hx]; rfl)⟩
theorem RdI.at_ {w : World} {v : Value} {xs : List Int} (h : RdI w v xs) : ∃ (A : Option Addr) (c : Nat), v = .slice A xs.length c ∧ xs.length ≤ c ∧
    (∀ k, k < xs.length → ∃ b o, A = some ⟨b, o, none⟩ ∧ b < w.heap.size ∧ ∀ x, xs[k]? = some x → w.cell? ⟨b, o + k, none⟩ = some (.int .i64 x)) := Rd.atI h

theorem add_plain (b o j : Nat) : (⟨b, o, none⟩ : Addr).add j = ⟨b, o + j, none⟩ := by unfold Addr.add; split <;> simp_all
theorem Rd.news {w : World} {e : TypeId} {size n c : Nat} {ad : Addr} {xs : List Value} (h : Rd w e size (.slice (some ad) n c) n xs) : ∀ j u, xs[j]? = some u → w.cell? (ad.add j) = some u := by
  intro j u hu
  obtain ⟨hl, A, c', hv, _, _, _, hcell⟩ := h
  injection hv with hA _ _
  have hlt := (List.getElem?_eq_some_iff.1 hu).1
  have hn : 0 < n := by
    rcases Nat.eq_zero_or_pos n with h0 | h0
    · subst h0; omega
    · exact h0
  obtain ⟨b, o, cur, fr, hA', hh, hc⟩ := hcell hn
  rw [hA'] at hA
  injection hA with hA
  subst hA
  rw [add_plain, cell_of_row w b _ cur _ fr hh]
  exact hc j u hu
theorem bks_one (bs : List Bk) : ∀ u ∈ bksCells bs, u.oneCell' = true := by
  intro u hu
  simp only [bksCells, List.mem_flatMap, bkCells, List.mem_cons, List.not_mem_nil, or_false] at hu
  obtain ⟨b, _, h⟩ := hu
  rcases h with rfl | rfl | rfl | rfl <;> rfl
theorem ints_one (xs : List Int) : ∀ u ∈ xs.map (Value.int .i64), u.oneCell' = true := by
  intro u hu
  simp only [List.mem_map] at hu
  obtain ⟨b, _, rfl⟩ := hu
  rfl

/-- What the call itself owns can be read. -/
theorem Rd.own {w : World} {base : Nat} {e : TypeId} {size n : Nat} {v : Value} {xs : List Value} (h : w.ownsRow base e size v n xs) : Rd w e size v n xs := by
  refine ⟨h.1, ?_⟩
  rcases h.2 with ⟨rfl, rfl⟩ | ⟨g, cap, cur, rfl, hb, hg, hn, hm, hs, ht⟩
  · exact ⟨none, 0, rfl, Nat.le_refl _, by simp [maxLen], fun _ => rfl, fun h => by omega⟩
  · refine ⟨_, cap, rfl, hn, hm, by simp, fun _ => ⟨g, 0, cur, (0, 0), rfl, hg, fun j u hu => ?_⟩⟩
    rw [← ht, List.getElem?_take] at hu
    split at hu
    · simpa using hu
    · cases hu
theorem Rd.form {w : World} {e : TypeId} {size n : Nat} {v : Value} {xs : List Value} (h : Rd w e size v n xs) : ∃ (A : Option Addr) (c : Nat), v = .slice A n c := by
  obtain ⟨_, A, c, hv, _⟩ := h
  exact ⟨A, c, hv⟩
theorem Rd.nil_ (w : World) (e : TypeId) (size : Nat) : Rd w e size (.slice none 0 0) 0 [] := ⟨by simp, none, 0, rfl, Nat.le_refl _, by simp [maxLen], fun _ => rfl, fun h => by omega⟩

/-- Block 'g' is just the cells 'cs' (of the element type 't'), and none of them is frozen. -/
def Cl (w : World) (g : Nat) (t : TypeId) (cs : Array Value) : Prop := w.heap[g]? = some (.cells cs t (0, 0))

section
variable {w w' : World} {g : Nat} {t : TypeId} {cs : Array Value}
theorem Cl.lt (h : Cl w g t cs) : g < w.heap.size := by
  rcases Nat.lt_or_ge g w.heap.size with hlt | hge
  · exact hlt
  · unfold Cl at h; rw [Array.getElem?_eq_none hge] at h; cases h
theorem Cl.cell (h : Cl w g t cs) (i : Nat) : w.cell? ⟨g, i, none⟩ = cs[i]? := cell_of_row w g i cs t (0, 0) h
theorem Cl.free (h : Cl w g t cs) (i : Nat) : w.frozen? ⟨g, i, none⟩ = false := by
  unfold Cl at h
  simp [World.frozen?, h]
theorem Cl.new (w : World) (t : TypeId) (cs : Array Value) : Cl (w.alloc (.cells cs t)) w.heap.size t cs := heap_alloc_new w _
theorem Cl.new_ (w : World) (t : TypeId) (cs : Array Value) (g : Nat) (h : g = w.heap.size) : Cl (w.alloc (.cells cs t)) g t cs := by subst h; exact heap_alloc_new w _
theorem Cl.drew (h : Cl w g t cs) : Cl w.drew g t cs := h
theorem Cl.drewN (h : Cl w g t cs) (n : Nat) : Cl (w.drewN n) g t cs := h
theorem Cl.alloc (h : Cl w g t cs) (o : Obj) : Cl (w.alloc o) g t cs := (Below.heap_alloc w o g h.lt).trans h
theorem Cl.set_ (h : Cl w g t cs) (i : Nat) (u : Value) : Cl (w.setCell ⟨g, i, none⟩ u) g t (cs.setIfInBounds i u) := by
  unfold Cl at h ⊢
  simp [World.setCell, Array.getElem?_modify, h]
theorem Cl.far (h : Cl w g t cs) {p : Addr} (hp : g ≠ p.block) (u : Value) : Cl (w.setCell p u) g t cs := (Below.heap_setCell w p u g hp).trans h
theorem Cl.below {B : Nat} (h : Cl w g t cs) (hb : Below B w w') (hg : g < B) : Cl w' g t cs := (hb.block g hg).trans h
theorem Cl.grown {row : Option Nat} (h : Cl w g t cs) (hb : w.grownBy w' row) (hg : some g ≠ row) : Cl w' g t cs := (hb.block g h.lt hg).trans h
end

/-- Four cells of a block, as the walk asks for them: each can be read, none is frozen. -/
def Has4 (w : World) (g : Nat) (v0 v1 v2 v3 : Value) : Prop :=
  (w.cell? ⟨g, 0, none⟩ = some v0 ∧ w.cell? ⟨g, 1, none⟩ = some v1 ∧ w.cell? ⟨g, 2, none⟩ = some v2 ∧ w.cell? ⟨g, 3, none⟩ = some v3) ∧
  (w.frozen? ⟨g, 0, none⟩ = false ∧ w.frozen? ⟨g, 1, none⟩ = false ∧ w.frozen? ⟨g, 2, none⟩ = false ∧ w.frozen? ⟨g, 3, none⟩ = false)
theorem Cl.has4 {w : World} {g : Nat} {t : TypeId} {v0 v1 v2 v3 : Value} (h : Cl w g t #[v0, v1, v2, v3]) : Has4 w g v0 v1 v2 v3 :=
  ⟨⟨h.cell 0, h.cell 1, h.cell 2, h.cell 3⟩, ⟨h.free 0, h.free 1, h.free 2, h.free 3⟩⟩
theorem Cl.set4 {w : World} {g : Nat} {t : TypeId} {v0 v1 v2 v3 : Value} (h : Cl w g t #[v0, v1, v2, v3]) (u0 u1 u2 u3 : Value) :
    Cl ((((w.setCell ⟨g, 0, none⟩ u0).setCell ⟨g, 1, none⟩ u1).setCell ⟨g, 2, none⟩ u2).setCell ⟨g, 3, none⟩ u3) g t #[u0, u1, u2, u3] :=
  (((h.set_ 0 u0).set_ 1 u1).set_ 2 u2).set_ 3 u3

/-- Two blocks are compared field by field. -/
def bkEq (l c k g l' c' k' g' : Int) : Bool := l == l' && (c == c' && (k == k' && g == g'))
theorem bkEq_iff (x y : Bk) : bkEq x.line x.cls x.kind x.gen y.line y.cls y.kind y.gen = true ↔ x = y := by
  obtain ⟨a, b, c, d⟩ := x
  obtain ⟨a', b', c', d'⟩ := y
  simp [bkEq, Bk.line, Bk.cls, Bk.kind, Bk.gen]

theorem run_equalIn_blk (w : World) (l c k g l' c' k' g' : Int) :
    (Op.equalIn 10000 43 (.agg #[.int .i64 l, .int .i64 c, .int .i64 k, .int .i64 g]) (.agg #[.int .i64 l', .int .i64 c', .int .i64 k', .int .i64 g'])).run Tryz.prog w = .ok (bkEq l c k g l' c' k' g') w := by
  have hu : Tryz.prog.underlying 43 = some (.struct (Tryz.prog.fieldsOf 43)) := by kernel_rfl
  have hs : Tryz.prog.stoodInHeld 43 = false := by kernel_rfl
  rw [run_equalIn_struct w 9999 _ _ _ hu hs]
  clear hu hs
  simp only [Program.fieldsOf, Tryz.underlying43]
  go_simp
  by_cases h0 : l = l' <;> by_cases h1 : c = c' <;> by_cases h2 : k = k' <;> by_cases h3 : g = g' <;> simp [bkEq, *]

theorem run_eql_blk (w : World) (l c k g l' c' k' g' : Int) :
    (binOp .eql 43 (.agg #[.int .i64 l, .int .i64 c, .int .i64 k, .int .i64 g]) (.agg #[.int .i64 l', .int .i64 c', .int .i64 k', .int .i64 g'])).run Tryz.prog w = .ok (.bool (bkEq l c k g l' c' k' g')) w := by
  rw [run_eql_struct, run_equalIn_blk]; rfl
theorem run_neq_blk (w : World) (l c k g l' c' k' g' : Int) :
    (binOp .neq 43 (.agg #[.int .i64 l, .int .i64 c, .int .i64 k, .int .i64 g]) (.agg #[.int .i64 l', .int .i64 c', .int .i64 k', .int .i64 g'])).run Tryz.prog w = .ok (.bool (!bkEq l c k g l' c' k' g')) w := by
  rw [run_neq_struct, run_equalIn_blk]; rfl
attribute [go_sem high] run_eql_blk run_neq_blk

end Go.Proofs.YtckamjbdogpacaaGreatDoor
