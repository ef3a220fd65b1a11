/-
  The plain law of WearEvenIsEven: blocks that are taken and given back one at a time stay even.
-/
import Derived.Test.YtidiapfmjalaiaaPlainB
import Derived.Test.YtidiapfmjalaiaaPlainC
namespace Go.Proofs.Ytidiapfmjalaiaa

theorem useOf_bounds (bs : List Bk) (c lo hi : Int) (h0 : 0 ≤ lo) (hlh : lo ≤ hi) (hall : ∀ b ∈ bs, b.cls = c → lo ≤ b.gen ∧ b.gen ≤ hi) :
    ((useOf bs c).2.2 = 0 ∧ (useOf bs c).1 = 0 ∧ (useOf bs c).2.1 = 0) ∨ (0 < (useOf bs c).2.2 ∧ lo ≤ (useOf bs c).1 ∧ (useOf bs c).2.1 ≤ hi ∧ (useOf bs c).1 ≤ hi ∧ lo ≤ (useOf bs c).2.1) := by
  have : ∀ (l : List Bk) (s : Int × Int × Int), (∀ b ∈ l, b.cls = c → lo ≤ b.gen ∧ b.gen ≤ hi) →
      ((s.2.2 = 0 ∧ s.1 = 0 ∧ s.2.1 = 0) ∨ (0 < s.2.2 ∧ lo ≤ s.1 ∧ s.2.1 ≤ hi ∧ s.1 ≤ hi ∧ lo ≤ s.2.1)) →
      (((l.foldl (useStep c) s).2.2 = 0 ∧ (l.foldl (useStep c) s).1 = 0 ∧ (l.foldl (useStep c) s).2.1 = 0) ∨ (0 < (l.foldl (useStep c) s).2.2 ∧ lo ≤ (l.foldl (useStep c) s).1 ∧ (l.foldl (useStep c) s).2.1 ≤ hi ∧ (l.foldl (useStep c) s).1 ≤ hi ∧ lo ≤ (l.foldl (useStep c) s).2.1)) := by
    intro l
    induction l with
    | nil => intro s _ h; exact h
    | cons b l ih =>
      intro s hl h
      refine ih (useStep c s b) (fun y hy => hl y (List.mem_cons_of_mem _ hy)) ?_
      by_cases hc : b.cls = c
      · have hb := hl b List.mem_cons_self hc
        simp only [useStep, if_pos hc]
        by_cases hz : s.2.2 = 0
        · rw [if_pos hz]
          right
          rcases h with h | h
          · omega
          · omega
        · rw [if_neg hz]
          right
          rcases h with h | h
          · omega
          · omega
      · simp only [useStep, if_neg hc]
        exact h
  exact this bs (0, 0, 0) hall (.inl ⟨rfl, rfl, rfl⟩)

/-- No used block lies far enough below the greatest generation: nothing is moved. -/
theorem levelB_none {bs : List Bk} {c lo hi : Int} (h0 : 0 ≤ lo) (hlh : lo ≤ hi) (hd : hi - lo < 8) (hall : ∀ b ∈ bs, b.cls = c → lo ≤ b.gen ∧ b.gen ≤ hi) : levelB bs c = none := by
  cases h : levelB bs c with
  | none => rfl
  | some f =>
    obtain ⟨hc, h8⟩ := levelB_cold h
    obtain ⟨hm, hu⟩ := firstB_mem _ bs f hc
    have hcls : f.cls = c := by simp [usedB] at hu; exact hu.1
    have hf := hall f hm hcls
    rcases useOf_bounds bs c lo hi h0 hlh hall with h1 | h1 <;> omega

/-- What 'first' finds: there is one that fits, if any does, and none that fits is rarer. -/
theorem firstB_spec (p : Bk → Bool) (bs : List Bk) : (firstB p bs = none ∧ ∀ b ∈ bs, p b = false) ∨ ∃ a, firstB p bs = some a ∧ a ∈ bs ∧ p a = true ∧ ∀ b ∈ bs, p b = true → rarerB b.gen b.line a.gen a.line = false := by
  have rr : ∀ (x y z : Bk), rarerB x.gen x.line y.gen y.line = false → rarerB z.gen z.line y.gen y.line = true → rarerB x.gen x.line z.gen z.line = false := by
    intro x y z h1 h2
    simp [rarerB] at h1 h2 ⊢
    omega
  have irr : ∀ x : Bk, rarerB x.gen x.line x.gen x.line = false := by intro x; simp [rarerB]
  have : ∀ (l seen : List Bk) (acc : Option Bk),
      ((acc = none ∧ ∀ b ∈ seen, p b = false) ∨ ∃ a, acc = some a ∧ a ∈ seen ∧ p a = true ∧ ∀ b ∈ seen, p b = true → rarerB b.gen b.line a.gen a.line = false) →
      ((l.foldl (firstStep p) acc = none ∧ ∀ b ∈ seen ++ l, p b = false) ∨ ∃ a, l.foldl (firstStep p) acc = some a ∧ a ∈ seen ++ l ∧ p a = true ∧ ∀ b ∈ seen ++ l, p b = true → rarerB b.gen b.line a.gen a.line = false) := by
    intro l
    induction l with
    | nil => intro seen acc h; simpa using h
    | cons x l ih =>
      intro seen acc h
      have := ih (seen ++ [x]) (firstStep p acc x) ?_
      · simpa using this
      cases hp : p x
      · rw [firstStep_no acc hp]
        rcases h with ⟨h1, h2⟩ | ⟨a, h1, h2, h3, h4⟩
        · left
          refine ⟨h1, fun b hb => ?_⟩
          rcases List.mem_append.1 hb with hb | hb
          · exact h2 b hb
          · rw [List.mem_singleton.1 hb]; exact hp
        · right
          refine ⟨a, h1, List.mem_append_left _ h2, h3, fun b hb hpb => ?_⟩
          rcases List.mem_append.1 hb with hb | hb
          · exact h4 b hb hpb
          · rw [List.mem_singleton.1 hb, hp] at hpb; cases hpb
      · right
        rcases h with ⟨rfl, h2⟩ | ⟨a, rfl, h2, h3, h4⟩
        · rw [firstStep_none hp]
          refine ⟨x, rfl, List.mem_append_right _ (List.mem_singleton.2 rfl), hp, fun b hb hpb => ?_⟩
          rcases List.mem_append.1 hb with hb | hb
          · rw [h2 b hb] at hpb; cases hpb
          · rw [List.mem_singleton.1 hb]; exact irr x
        · cases hr : rarerB x.gen x.line a.gen a.line
          · rw [firstStep_keep hr]
            refine ⟨a, rfl, List.mem_append_left _ h2, h3, fun b hb hpb => ?_⟩
            rcases List.mem_append.1 hb with hb | hb
            · exact h4 b hb hpb
            · rw [List.mem_singleton.1 hb]; exact hr
          · rw [firstStep_take hp hr]
            refine ⟨x, rfl, List.mem_append_right _ (List.mem_singleton.2 rfl), hp, fun b hb hpb => ?_⟩
            rcases List.mem_append.1 hb with hb | hb
            · exact rr b a x (h4 b hb hpb) hr
            · rw [List.mem_singleton.1 hb]; exact irr x
  have h := this bs [] none (.inl ⟨rfl, fun b hb => by cases hb⟩)
  rw [List.nil_append] at h
  exact h
theorem rarerB_le {g l g' l' : Int} (h : rarerB g l g' l' = false) : g' ≤ g := by simp [rarerB] at h; omega

/-- All blocks are free, of the class 4, and their generations are m or m + 1. -/
def EvenInv (bs : List Bk) (m : Int) : Prop := bs ≠ [] ∧ 0 ≤ m ∧ ∀ b ∈ bs, b.cls = 4 ∧ b.kind = 0 ∧ m ≤ b.gen ∧ b.gen ≤ m + 1

theorem even_next {bs : List Bk} {m : Int} (h : EvenInv bs m) : ∃ n, nextB bs 4 = some n ∧ n ∈ bs ∧ ∀ b ∈ bs, n.gen ≤ b.gen := by
  obtain ⟨hne, h0, hall⟩ := h
  rcases firstB_spec (fun b => freeB b.cls b.kind 4) bs with ⟨_, h2⟩ | ⟨n, h1, h2, _, h4⟩
  · exfalso
    cases bs with
    | nil => exact hne rfl
    | cons b bs =>
      have h3 := h2 b List.mem_cons_self
      have h4 := hall b List.mem_cons_self
      simp [freeB, h4.1, h4.2.1] at h3
  · refine ⟨n, h1, h2, fun b hb => rarerB_le (h4 b hb ?_)⟩
    have := hall b hb
    simp [freeB, this.1, this.2.1]

theorem even_taken {bs : List Bk} {m : Int} {n : Bk} (h : EvenInv bs m) (hn : n ∈ bs) (hmin : ∀ b ∈ bs, n.gen ≤ b.gen) :
    ∃ m', m ≤ m' ∧ m' ≤ m + 1 ∧ ∀ b ∈ bs.map (takenF n), b.cls = 4 ∧ m' ≤ b.gen ∧ b.gen ≤ m' + 1 ∧ (b.kind = 0 ∨ b.line = n.line) := by
  obtain ⟨_, h0, hall⟩ := h
  have hn' := hall n hn
  refine ⟨n.gen, by omega, by omega, fun b hb => ?_⟩
  simp only [List.mem_map] at hb
  obtain ⟨a, ha, rfl⟩ := hb
  have h1 := hall a ha
  have h2 := hmin a ha
  unfold takenF
  by_cases he : a = n
  · rw [if_pos he]
    subst he
    exact ⟨h1.1, by show a.gen ≤ a.gen + 1; omega, by show a.gen + 1 ≤ a.gen + 1; omega, .inr rfl⟩
  · rw [if_neg he]
    exact ⟨h1.1, h2, by omega, .inl h1.2.1⟩

theorem even_step {bs : List Bk} {m : Int} (h : EvenInv bs m) :
    ∃ n m', nextB bs 4 = some n ∧ m ≤ m' ∧ m' ≤ m + 1 ∧ (useOf (bs.map (takenF n)) 4).2.1 - (useOf (bs.map (takenF n)) 4).1 ≤ 1 ∧ 0 ≤ (useOf (bs.map (takenF n)) 4).1 ∧ (useOf (bs.map (takenF n)) 4).2.1 ≤ m' + 1 ∧ (useOf (bs.map (takenF n)) 4).1 ≤ m' + 1 ∧ 0 ≤ (useOf (bs.map (takenF n)) 4).2.1 ∧ levelB (bs.map (takenF n)) 4 = none ∧ EvenInv (givenB (bs.map (takenF n)) 4 0) m' := by
  obtain ⟨n, hn1, hn2, hmin⟩ := even_next h
  obtain ⟨m', hm1, hm2, hall⟩ := even_taken h hn2 hmin
  have h0 := h.2.1
  have hb : ∀ b ∈ bs.map (takenF n), b.cls = 4 → m' ≤ b.gen ∧ b.gen ≤ m' + 1 := fun b hb _ => ⟨(hall b hb).2.1, (hall b hb).2.2.1⟩
  refine ⟨n, m', hn1, hm1, hm2, ?_, ?_, ?_, ?_, ?_, levelB_none (lo := m') (hi := m' + 1) (by omega) (by omega) (by omega) hb, ?_, by omega, ?_⟩
  · rcases useOf_bounds _ 4 m' (m' + 1) (by omega) (by omega) hb with h1 | h1 <;> omega
  · rcases useOf_bounds _ 4 m' (m' + 1) (by omega) (by omega) hb with h1 | h1 <;> omega
  · rcases useOf_bounds _ 4 m' (m' + 1) (by omega) (by omega) hb with h1 | h1 <;> omega
  · rcases useOf_bounds _ 4 m' (m' + 1) (by omega) (by omega) hb with h1 | h1 <;> omega
  · rcases useOf_bounds _ 4 m' (m' + 1) (by omega) (by omega) hb with h1 | h1 <;> omega
  · have hne := h.1
    intro he
    have h1 : (givenB (bs.map (takenF n)) 4 0).length = bs.length := by simp [givenB]
    rw [he] at h1
    exact hne (List.eq_nil_of_length_eq_zero h1.symm)
  · intro b hb
    simp only [givenB, List.mem_map] at hb
    obtain ⟨a, ha, rfl⟩ := hb
    have ha' : a ∈ bs.map (takenF n) := by simpa using ha
    have h1 := hall a ha'
    have hlines : ∀ l ∈ usedLines (bs.map (takenF n)) 4, l = n.line := by
      intro l hl
      simp only [usedLines, List.mem_map, List.mem_filter] at hl
      obtain ⟨x, ⟨hx, hu⟩, rfl⟩ := hl
      have hx' : x ∈ bs.map (takenF n) := by simpa using hx
      have h2 := hall x hx'
      simp [usedB] at hu
      rcases h2.2.2.2 with h3 | h3
      · exact absurd h3 hu.2
      · exact h3
    by_cases hk : a.kind = 0
    · have : (givenF (usedLines (bs.map (takenF n)) 4)[0 % (usedLines (bs.map (takenF n)) 4).length]? a) = a ∨ (givenF (usedLines (bs.map (takenF n)) 4)[0 % (usedLines (bs.map (takenF n)) 4).length]? a) = (a.line, a.cls, 0, a.gen) := by
        unfold givenF
        split
        · split
          · exact .inr rfl
          · exact .inl rfl
        · exact .inl rfl
      rcases this with h2 | h2 <;> rw [h2]
      · exact ⟨h1.1, hk, h1.2.1, h1.2.2.1⟩
      · exact ⟨h1.1, rfl, h1.2.1, h1.2.2.1⟩
    · have hal : a.line = n.line := h1.2.2.2.resolve_left hk
      have hain : a.line ∈ usedLines (bs.map (takenF n)) 4 := by
        simp only [usedLines, List.mem_map, List.mem_filter]
        exact ⟨a, ⟨by simpa using ha', by simp [usedB, h1.1, hk]⟩, rfl⟩
      have hpos : 0 < (usedLines (bs.map (takenF n)) 4).length := List.length_pos_of_mem hain
      have hget : (usedLines (bs.map (takenF n)) 4)[0 % (usedLines (bs.map (takenF n)) 4).length]? = some n.line := by
        rw [Nat.zero_mod, List.getElem?_eq_getElem hpos]
        exact congrArg some (hlines _ (List.getElem_mem hpos))
      rw [hget]
      simp only [givenF, if_pos hal]
      exact ⟨h1.1, rfl, h1.2.1, h1.2.2.1⟩

theorem even_end {bs : List Bk} {m : Int} (h : EvenInv bs m) : levelB bs 4 = none :=
  levelB_none (lo := m) (hi := m + 1) h.2.1 (by omega) (by omega) (fun b hb _ => ⟨(h.2.2 b hb).2.2.1, (h.2.2 b hb).2.2.2⟩)

theorem moves_of_level {bs : List Bk} {c : Int} (h : levelB bs c = none) (n : Nat) : movesB n bs c = [] := movesB_none (moveOf_cold h)

/-- The picture that 'even' returns. -/
theorem even_pic (n g : Nat) (hg : g < 1048576) (k : Nat) : (∀ b ∈ picB 32 (List.replicate n 4) [(0, 0)] g k, b.cls = 4 ∧ b.kind = 0 ∧ b.gen = (g : Int)) ∧ (picB 32 (List.replicate n 4) [(0, 0)] g k).length = min k n := by
  induction k with
  | zero => simp [picB]
  | succ k ih =>
    obtain ⟨h1, h2⟩ := ih
    by_cases hk : k < n
    · have hx : (List.replicate n 4)[k]? = some 4 := by simp [hk]
      have he : picB 32 (List.replicate n 4) [(0, 0)] g (k + 1) = picB 32 (List.replicate n 4) [(0, 0)] g k ++ [rawBk [(0, 0)] g (picB 32 (List.replicate n 4) [(0, 0)] g k).length (32 + 16 * (k : Int)) 4] := by
        simp only [picB, hx]
        simp [addN]
      rw [he]
      refine ⟨fun b hb => ?_, by rw [List.length_append, h2]; simp; omega⟩
      rcases List.mem_append.1 hb with hb | hb
      · exact h1 b hb
      · rw [List.mem_singleton.1 hb]
        have hm : ∀ i : Nat, rawKind [(0, 0)] i = 0 ∧ rawGen [(0, 0)] g i = (g : Int) := by
          intro i
          unfold rawKind rawGen
          simp [Nat.mod_one]
          omega
        refine ⟨rfl, (hm _).1, ?_⟩
        show fixGen (rawKind [(0, 0)] _) (rawGen [(0, 0)] g _) = (g : Int)
        rw [(hm _).1, (hm _).2]
        simp [fixGen]
    · have hx : (List.replicate n 4)[k]? = none := by simp; omega
      have he : picB 32 (List.replicate n 4) [(0, 0)] g (k + 1) = picB 32 (List.replicate n 4) [(0, 0)] g k := by simp only [picB, hx]
      rw [he]
      exact ⟨h1, by rw [h2]; omega⟩

theorem even_start (n g : Nat) (h1 : 1 ≤ n) (hg : g < 1048576) : EvenInv (picB 32 (List.replicate n 4) [(0, 0)] g 14) g := by
  obtain ⟨h2, h3⟩ := even_pic n g hg 14
  refine ⟨fun h => ?_, by omega, fun b hb => ?_⟩
  · rw [h] at h3
    simp at h3
    omega
  · have := h2 b hb
    omega
end Go.Proofs.Ytidiapfmjalaiaa
