/-
  What the functions on pictures come to, in plain Lean: no program in sight.
  More of what the functions come to, in plain words.
  The picture that is made of classes and raw blocks, in plain words.
-/
namespace Go.Proofs.YtcoeoggoaiebeaaDoor

/-- A block of a picture: its line, class, kind and generation. -/
abbrev Bk := Int × Int × Int × Int
def Bk.line (b : Bk) : Int := b.1
def Bk.cls (b : Bk) : Int := b.2.1
def Bk.kind (b : Bk) : Int := b.2.2.1
def Bk.gen (b : Bk) : Int := b.2.2.2
def rarerB (g l g' l' : Int) : Bool := decide (g < g') || (g == g' && decide (l < l'))
def nextGen (g : Int) : Int := if g < 0 ∨ 1048575 ≤ g then 1 else g + 1
def freeB (c k c0 : Int) : Bool := c == c0 && k == 0
def usedB (c k c0 : Int) : Bool := c == c0 && k != 0

theorem rarerB_yes {g l g' l' : Int} (h : g < g') : rarerB g l g' l' = true := by simp [rarerB, h]
theorem rarerB_eq {g l l' : Int} : rarerB g l g l' = decide (l < l') := by simp [rarerB]
theorem rarerB_no {g l g' l' : Int} (h : g' < g) : rarerB g l g' l' = false := by simp [rarerB]; omega

def useStep (c : Int) (s : Int × Int × Int) (b : Bk) : Int × Int × Int :=
  if b.cls = c then (min (if s.2.2 = 0 then b.gen else s.1) b.gen, max s.2.1 b.gen, s.2.2 + 1) else s
def useOf (bs : List Bk) (c : Int) : Int × Int × Int := bs.foldl (useStep c) (0, 0, 0)

theorem useOf_snoc (bs : List Bk) (c : Int) (k : Nat) (x : Bk) (h : bs[k]? = some x) : useOf (bs.take (k + 1)) c = useStep c (useOf (bs.take k) c) x := by
  rw [useOf, List.take_add_one, h, List.foldl_append]; rfl

theorem useOf_count (bs : List Bk) (c : Int) : 0 ≤ (useOf bs c).2.2 ∧ (useOf bs c).2.2 ≤ bs.length := by
  have : ∀ (bs : List Bk) (s : Int × Int × Int), 0 ≤ s.2.2 → 0 ≤ (bs.foldl (useStep c) s).2.2 ∧ (bs.foldl (useStep c) s).2.2 ≤ s.2.2 + bs.length := by
    intro bs
    induction bs with
    | nil => intro s h; simp; exact h
    | cons b bs ih =>
      intro s h
      have hs : 0 ≤ (useStep c s b).2.2 ∧ (useStep c s b).2.2 ≤ s.2.2 + 1 := by unfold useStep; split <;> (try simp only) <;> omega
      have := ih (useStep c s b) hs.1
      simp only [List.foldl_cons, List.length_cons]
      omega
  have := this bs (0, 0, 0) (by simp)
  simp at this
  exact this

theorem useOf_most (bs : List Bk) (c B : Int) (hB : 0 ≤ B) (h : ∀ b ∈ bs, b.gen ≤ B) : 0 ≤ (useOf bs c).2.1 ∧ (useOf bs c).2.1 ≤ B := by
  have : ∀ (l : List Bk) (s : Int × Int × Int), 0 ≤ s.2.1 ∧ s.2.1 ≤ B → (∀ b ∈ l, b.gen ≤ B) → 0 ≤ (l.foldl (useStep c) s).2.1 ∧ (l.foldl (useStep c) s).2.1 ≤ B := by
    intro l
    induction l with
    | nil => intro s h _; exact h
    | cons b l ih =>
      intro s hs hl
      refine ih (useStep c s b) ?_ (fun y hy => hl y (List.mem_cons_of_mem _ hy))
      have := hl b List.mem_cons_self
      unfold useStep
      split <;> (try simp only) <;> omega
  exact this bs (0, 0, 0) (by simp; exact hB) h

def firstStep (p : Bk → Bool) (acc : Option Bk) (b : Bk) : Option Bk :=
  if p b && (match acc with | none => true | some a => rarerB b.gen b.line a.gen a.line) then some b else acc
def firstB (p : Bk → Bool) (bs : List Bk) : Option Bk := bs.foldl (firstStep p) none
def outBk (o : Option Bk) : Bk := o.getD (0, 0, 0, 0)

theorem firstB_snoc (p : Bk → Bool) (bs : List Bk) (k : Nat) (x : Bk) (h : bs[k]? = some x) : firstB p (bs.take (k + 1)) = firstStep p (firstB p (bs.take k)) x := by
  rw [firstB, List.take_add_one, h, List.foldl_append]; rfl

theorem firstStep_no {p : Bk → Bool} {x : Bk} (acc : Option Bk) (h : p x = false) : firstStep p acc x = acc := by simp [firstStep, h]
theorem firstStep_none {p : Bk → Bool} {x : Bk} (h : p x = true) : firstStep p none x = some x := by simp [firstStep, h]
theorem firstStep_take {p : Bk → Bool} {x a : Bk} (h : p x = true) (hr : rarerB x.gen x.line a.gen a.line = true) : firstStep p (some a) x = some x := by simp [firstStep, h, hr]
theorem firstStep_keep {p : Bk → Bool} {x a : Bk} (hr : rarerB x.gen x.line a.gen a.line = false) : firstStep p (some a) x = some a := by simp [firstStep, hr]

theorem firstB_mem (p : Bk → Bool) (bs : List Bk) (b : Bk) (h : firstB p bs = some b) : b ∈ bs ∧ p b = true := by
  have : ∀ (l : List Bk) (acc : Option Bk), (∀ a, acc = some a → a ∈ bs ∧ p a = true) → (∀ x ∈ l, x ∈ bs) → ∀ a, l.foldl (firstStep p) acc = some a → a ∈ bs ∧ p a = true := by
    intro l
    induction l with
    | nil => intro acc ha _ a h; exact ha a h
    | cons x l ih =>
      intro acc ha hl a h
      refine ih (firstStep p acc x) ?_ (fun y hy => hl y (List.mem_cons_of_mem _ hy)) a h
      intro z hz
      have hor : z = x ∧ p x = true ∨ acc = some z := by
        cases hp : p x
        · rw [firstStep_no acc hp] at hz
          exact .inr hz
        · cases acc with
          | none =>
            rw [firstStep_none hp] at hz
            injection hz with hz
            exact .inl ⟨hz.symm, rfl⟩
          | some a =>
            cases hr : rarerB x.gen x.line a.gen a.line
            · rw [firstStep_keep hr] at hz
              exact .inr hz
            · rw [firstStep_take hp hr] at hz
              injection hz with hz
              exact .inl ⟨hz.symm, rfl⟩
      rcases hor with ⟨rfl, hp⟩ | hz
      · exact ⟨hl z List.mem_cons_self, hp⟩
      · exact ha z hz
  exact this bs none (by simp) (fun _ hx => hx) b h

def nextB (bs : List Bk) (c : Int) : Option Bk := firstB (fun b => freeB b.cls b.kind c) bs
def coldB (bs : List Bk) (c : Int) : Option Bk := firstB (fun b => usedB b.cls b.kind c) bs
/-- The block whose content is to be moved next. -/
def levelB (bs : List Bk) (c : Int) : Option Bk := match coldB bs c with
  | none => none
  | some b => if (useOf bs c).2.1 - b.gen < 8 then none else some b

/-- What a move makes of a block. -/
def afterF (f t b : Bk) : Bk := if b = f then (b.line, b.cls, 0, b.gen) else if b = t then (b.line, b.cls, f.kind, nextGen b.gen) else b
def afterB (bs : List Bk) (f t : Bk) : List Bk := bs.map (afterF f t)
/-- The first k blocks turned, the others as they were. -/
def part (F : Bk → Bk) (bs : List Bk) (k : Nat) : List Bk := (bs.take k).map F ++ bs.drop k

theorem part_zero (F : Bk → Bk) (bs : List Bk) : part F bs 0 = bs := by simp [part]
theorem part_all (F : Bk → Bk) (bs : List Bk) (k : Nat) (h : bs.length ≤ k) : part F bs k = bs.map F := by
  simp [part, List.take_of_length_le h, List.drop_eq_nil_of_le h]
theorem part_length (F : Bk → Bk) (bs : List Bk) (k : Nat) : (part F bs k).length = bs.length := by
  simp only [part, List.length_append, List.length_map, List.length_take, List.length_drop]; omega
theorem part_at (F : Bk → Bk) (bs : List Bk) (k : Nat) : (part F bs k)[k]? = bs[k]? := by
  by_cases h : k < bs.length
  · have hl : ((bs.take k).map F).length = k := by simp; omega
    rw [part, List.getElem?_append_right (by omega), hl, Nat.sub_self, List.getElem?_drop, Nat.add_zero]
  · rw [List.getElem?_eq_none (by rw [part_length]; omega), List.getElem?_eq_none (by omega)]
theorem part_succ (F : Bk → Bk) (bs : List Bk) (k : Nat) (x : Bk) (h : bs[k]? = some x) : part F bs (k + 1) = (part F bs k).set k (F x) := by
  have hlt : k < bs.length := (List.getElem?_eq_some_iff.1 h).1
  have hl : ((bs.take k).map F).length = k := by simp; omega
  rw [part, part, List.set_append_right _ _ (by omega), hl, Nat.sub_self, List.take_add_one, h]
  have hd : bs.drop k = x :: bs.drop (k + 1) := by
    rw [List.drop_eq_getElem_cons hlt]
    rw [List.getElem?_eq_getElem hlt] at h
    injection h with h
    rw [h]
  rw [hd]
  simp

/-- The next move of a class, if there is one. -/
def moveOf (bs : List Bk) (c : Int) : Option (Bk × Bk) := match levelB bs c, nextB bs c with
  | some f, some t => some (f, t)
  | _, _ => none
/-- The moves that are made one after the other, at most n of them. -/
def movesB : Nat → List Bk → Int → List (Bk × Bk)
  | 0, _, _ => []
  | n + 1, bs, c => match moveOf bs c with
    | none => []
    | some m => m :: movesB n (afterB bs m.1 m.2) c
theorem movesB_none {n : Nat} {bs : List Bk} {c : Int} (h : moveOf bs c = none) : movesB n bs c = [] := by
  cases n with
  | zero => rfl
  | succ n => simp [movesB, h]
theorem movesB_some {n : Nat} {bs : List Bk} {c : Int} {f t : Bk} (h : moveOf bs c = some (f, t)) : movesB (n + 1) bs c = (f, t) :: movesB n (afterB bs f t) c := by
  simp [movesB, h]
theorem movesB_length (n : Nat) (bs : List Bk) (c : Int) : (movesB n bs c).length ≤ n := by
  induction n generalizing bs with
  | zero => simp [movesB]
  | succ n ih =>
    cases h : moveOf bs c with
    | none => rw [movesB_none h]; simp
    | some m => simp only [movesB, h, List.length_cons]; have := ih (afterB bs m.1 m.2); omega
theorem moveOf_some {bs : List Bk} {c : Int} {f t : Bk} (hf : levelB bs c = some f) (ht : nextB bs c = some t) : moveOf bs c = some (f, t) := by simp [moveOf, hf, ht]
theorem moveOf_cold {bs : List Bk} {c : Int} (hf : levelB bs c = none) : moveOf bs c = none := by simp [moveOf, hf]
theorem moveOf_room {bs : List Bk} {c : Int} (ht : nextB bs c = none) : moveOf bs c = none := by
  unfold moveOf
  rw [ht]
  cases levelB bs c <;> rfl
theorem levelB_cold {bs : List Bk} {c : Int} {f : Bk} (h : levelB bs c = some f) : coldB bs c = some f ∧ 8 ≤ (useOf bs c).2.1 - f.gen := by
  unfold levelB at h
  cases hc : coldB bs c with
  | none => rw [hc] at h; cases h
  | some b =>
    rw [hc] at h
    simp only at h
    split at h
    · cases h
    · injection h with h
      subst h
      exact ⟨rfl, by omega⟩
def okMove (bs : List Bk) (f t : Bk) : Prop := f.cls = t.cls ∧ f.kind ≠ 0 ∧ t.kind = 0 ∧ f ∈ bs ∧ t ∈ bs
theorem okMove_of {bs : List Bk} {c : Int} {f t : Bk} (hf : levelB bs c = some f) (ht : nextB bs c = some t) : okMove bs f t := by
  obtain ⟨m1, u1⟩ := firstB_mem _ bs f (levelB_cold hf).1
  obtain ⟨m2, u2⟩ := firstB_mem _ bs t ht
  simp [usedB] at u1
  simp [freeB] at u2
  exact ⟨by omega, u1.2, u2.2, m1, m2⟩
theorem nextGen_le (g : Int) (B : Int) (h : 1048575 ≤ B) : 0 ≤ nextGen g ∧ nextGen g ≤ B := by unfold nextGen; split <;> omega
def GenOk (B : Int) (bs : List Bk) : Prop := ∀ b ∈ bs, 0 ≤ b.gen ∧ b.gen ≤ B
theorem GenOk.after {B : Int} {bs : List Bk} (hB : 1048575 ≤ B) (h : GenOk B bs) (f t : Bk) : GenOk B (afterB bs f t) := by
  intro b hb
  simp only [afterB, List.mem_map] at hb
  obtain ⟨a, ha, rfl⟩ := hb
  have := h a ha
  unfold afterF
  split
  · exact this
  · split
    · exact nextGen_le a.gen B hB
    · exact this
theorem afterB_length (bs : List Bk) (f t : Bk) : (afterB bs f t).length = bs.length := List.length_map _

end Go.Proofs.YtcoeoggoaiebeaaDoor

namespace Go.Proofs.YtcoeoggoaiebeaaDoor

/-- The block that is taken: its kind is that of a node, and its generation the next one. -/
def takenF (n b : Bk) : Bk := if b = n then (b.line, b.cls, 2, b.gen + 1) else b
theorem map_snoc (F : Bk → Bk) (bs : List Bk) (k : Nat) (x : Bk) (h : bs[k]? = some x) : (bs.take (k + 1)).map F = (bs.take k).map F ++ [F x] := by
  rw [List.take_add_one, h]; simp
theorem takeMap_length (F : Bk → Bk) (bs : List Bk) (k : Nat) (h : k ≤ bs.length) : ((bs.take k).map F).length = k := by simp; omega
/-- The lines of the used blocks of a class. -/
def usedLines (bs : List Bk) (c : Int) : List Int := (bs.filter (fun b => usedB b.cls b.kind c)).map Bk.line
theorem usedLines_snoc (bs : List Bk) (c : Int) (k : Nat) (x : Bk) (h : bs[k]? = some x) : usedLines (bs.take (k + 1)) c = usedLines (bs.take k) c ++ (if usedB x.cls x.kind c = true then [x.line] else []) := by
  rw [usedLines, List.take_add_one, h, List.filter_append, List.map_append]
  unfold usedLines
  congr 1
  cases hu : usedB x.cls x.kind c <;> simp [hu]
theorem usedLines_length (bs : List Bk) (c : Int) (k : Nat) : (usedLines (bs.take k) c).length ≤ k := by
  unfold usedLines
  rw [List.length_map]
  exact Nat.le_trans (List.length_filter_le _ _) (List.length_take_le _ _)
def givenF (o : Option Int) (b : Bk) : Bk := match o with
  | some l => if b.line = l then (b.line, b.cls, 0, b.gen) else b
  | none => b
def givenB (bs : List Bk) (c : Int) (n : Nat) : List Bk := bs.map (givenF (usedLines bs c)[n % (usedLines bs c).length]?)
end Go.Proofs.YtcoeoggoaiebeaaDoor

namespace Go.Proofs.YtcoeoggoaiebeaaDoor

/-- The block at a line that the raw blocks give: 'i' blocks are there already. -/
def rawKind (rs : List (Nat × Nat)) (i : Nat) : Int := match rs[i % rs.length]? with | none => 0 | some r => ((r.1 % 7 : Nat) : Int)
def rawGen (rs : List (Nat × Nat)) (more i : Nat) : Int := match rs[i % rs.length]? with | none => 0 | some r => (((r.2 + more) % 1048576 : Nat) : Int)
def fixGen (k g : Int) : Int := if k ≠ 0 ∧ g = 0 then 1 else g
def rawBk (rs : List (Nat × Nat)) (more i : Nat) (line c : Int) : Bk := (line, c, rawKind rs i, fixGen (rawKind rs i) (rawGen rs more i))
/-- 'j' blocks more, of the class 'c', whose lines begin at 'base' and go by 's'. -/
def addN (rs : List (Nat × Nat)) (more : Nat) (base c s : Int) : Nat → List Bk → List Bk
  | 0, bs => bs
  | j + 1, bs => addN rs more base c s j bs ++ [rawBk rs more (addN rs more base c s j bs).length (base + j * s) c]
def picB (heap : Int) (cls : List Nat) (rs : List (Nat × Nat)) (more : Nat) : Nat → List Bk
  | 0 => []
  | k + 1 => match cls[k]? with
    | none => picB heap cls rs more k
    | some c => addN rs more (heap + 16 * k) ((c % 5 : Nat) : Int) ((2 ^ (c % 5) : Nat) : Int) (16 / 2 ^ (c % 5)) (picB heap cls rs more k)
def picC (cls : List Nat) : Nat → List Int
  | 0 => []
  | k + 1 => picC cls k ++ [match cls[k]? with | none => -1 | some c => ((c % 5 : Nat) : Int)]

theorem addN_length (rs : List (Nat × Nat)) (more : Nat) (base c s : Int) (j : Nat) (bs : List Bk) : (addN rs more base c s j bs).length = bs.length + j := by
  induction j with
  | zero => rfl
  | succ j ih => simp only [addN, List.length_append, ih, List.length_cons, List.length_nil]; omega
theorem picB_length (heap : Int) (cls : List Nat) (rs : List (Nat × Nat)) (more k : Nat) : (picB heap cls rs more k).length ≤ 16 * k := by
  induction k with
  | zero => simp [picB]
  | succ k ih =>
    unfold picB
    split
    · omega
    · rename_i c _
      rw [addN_length]
      have : 16 / 2 ^ (c % 5) ≤ 16 := Nat.div_le_self _ _
      omega
theorem picC_length (cls : List Nat) (k : Nat) : (picC cls k).length = k := by
  induction k with
  | zero => rfl
  | succ k ih => simp only [picC, List.length_append, ih, List.length_cons, List.length_nil]
theorem rawKind_ok (rs : List (Nat × Nat)) (i : Nat) : 0 ≤ rawKind rs i ∧ rawKind rs i ≤ 6 := by unfold rawKind; split <;> omega
theorem rawGen_ok (rs : List (Nat × Nat)) (more i : Nat) : 0 ≤ rawGen rs more i ∧ rawGen rs more i ≤ 1048575 := by unfold rawGen; split <;> omega
theorem fixGen_ok (k g : Int) (h : 0 ≤ g ∧ g ≤ 1048575) : 0 ≤ fixGen k g ∧ fixGen k g ≤ 1048575 := by unfold fixGen; split <;> omega
theorem addN_gen (rs : List (Nat × Nat)) (more : Nat) (base c s : Int) (j : Nat) (bs : List Bk) (h : GenOk 1048575 bs) : GenOk 1048575 (addN rs more base c s j bs) := by
  induction j with
  | zero => exact h
  | succ j ih =>
    intro b hb
    simp only [addN, List.mem_append, List.mem_cons, List.not_mem_nil, or_false] at hb
    rcases hb with hb | rfl
    · exact ih b hb
    · exact fixGen_ok _ _ (rawGen_ok _ _ _)
theorem picB_gen (heap : Int) (cls : List Nat) (rs : List (Nat × Nat)) (more k : Nat) : GenOk 1048575 (picB heap cls rs more k) := by
  induction k with
  | zero => intro b hb; simp [picB] at hb
  | succ k ih =>
    unfold picB
    split
    · exact ih
    · exact addN_gen _ _ _ _ _ _ _ ih
theorem GenOk.mono {B B' : Int} {bs : List Bk} (h : GenOk B bs) (hB : B ≤ B') : GenOk B' bs := fun b hb => ⟨(h b hb).1, Int.le_trans (h b hb).2 hB⟩
end Go.Proofs.YtcoeoggoaiebeaaDoor
