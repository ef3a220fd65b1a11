/-
  The plain law of WearKeepsBound: with all moves made after each step, generations stay within nine of each other.
-/
import Derived.Test.YtidiapfmjalaiaaEvenLaw
namespace Go.Proofs.Ytidiapfmjalaiaa

theorem useOf_most_ge (bs : List Bk) (c : Int) (b : Bk) (hb : b ∈ bs) (hc : b.cls = c) : b.gen ≤ (useOf bs c).2.1 := by
  have mono : ∀ (l : List Bk) (s : Int × Int × Int), s.2.1 ≤ (l.foldl (useStep c) s).2.1 := by
    intro l
    induction l with
    | nil => intro s; exact Int.le_refl _
    | cons x l ih =>
      intro s
      refine Int.le_trans ?_ (ih (useStep c s x))
      unfold useStep
      split
      · show s.2.1 ≤ max s.2.1 x.gen
        omega
      · exact Int.le_refl _
  have : ∀ (l : List Bk) (s : Int × Int × Int), b ∈ l → b.gen ≤ (l.foldl (useStep c) s).2.1 := by
    intro l
    induction l with
    | nil => intro s h; cases h
    | cons x l ih =>
      intro s h
      rcases List.mem_cons.1 h with h | h
      · refine Int.le_trans ?_ (mono l (useStep c s x))
        subst h
        unfold useStep
        rw [if_pos hc]
        show b.gen ≤ max s.2.1 b.gen
        omega
      · exact ih _ h
  exact this bs _ hb

/-- While moves are made: all generations are within nine of the greatest, M; and if no free block is below M, within eight. -/
def Jinv (bs : List Bk) (M : Int) : Prop := bs ≠ [] ∧ (∀ b ∈ bs, b.cls = 4 ∧ 0 ≤ b.gen ∧ M - 9 ≤ b.gen ∧ b.gen ≤ M) ∧ (∃ b ∈ bs, b.gen = M) ∧ ((∀ b ∈ bs, b.kind = 0 → b.gen = M) → ∀ b ∈ bs, M - 8 ≤ b.gen)
/-- Besides, some free block is below M: then M stays as it is. -/
def Kinv (bs : List Bk) (M : Int) : Prop := Jinv bs M ∧ ∃ b ∈ bs, b.kind = 0 ∧ b.gen < M
/-- Between the steps: no used block is to be moved, or no block is free. -/
def Binv (bs : List Bk) (M : Int) : Prop := bs ≠ [] ∧ (∀ b ∈ bs, b.cls = 4 ∧ 0 ≤ b.gen ∧ M - 9 ≤ b.gen ∧ b.gen ≤ M) ∧ (∃ b ∈ bs, b.gen = M) ∧
  ((∀ b ∈ bs, b.kind ≠ 0 → M - 7 ≤ b.gen) ∨ ((∀ b ∈ bs, b.kind ≠ 0) ∧ ∀ b ∈ bs, M - 8 ≤ b.gen))

theorem most_is {bs : List Bk} {M : Int} (hall : ∀ b ∈ bs, b.cls = 4 ∧ 0 ≤ b.gen ∧ M - 9 ≤ b.gen ∧ b.gen ≤ M) (hex : ∃ b ∈ bs, b.gen = M) : (useOf bs 4).2.1 = M := by
  obtain ⟨b, hb, he⟩ := hex
  have h1 := useOf_most_ge bs 4 b hb (hall b hb).1
  have h2 := useOf_most bs 4 M (by have := hall b hb; omega) (fun x hx => (hall x hx).2.2.2)
  omega

theorem next_least {bs : List Bk} {t : Bk} (h : nextB bs 4 = some t) (hcls : ∀ b ∈ bs, b.cls = 4) : t ∈ bs ∧ t.kind = 0 ∧ ∀ b ∈ bs, b.kind = 0 → t.gen ≤ b.gen := by
  rcases firstB_spec (fun b => freeB b.cls b.kind 4) bs with ⟨h1, _⟩ | ⟨a, h1, h2, h3, h4⟩
  · rw [nextB, h1] at h; cases h
  · rw [nextB, h1] at h
    injection h with h
    subst h
    refine ⟨h2, by simp [freeB] at h3; exact h3.2, fun b hb hk => rarerB_le (h4 b hb ?_)⟩
    simp [freeB, hcls b hb, hk]
theorem next_none {bs : List Bk} (h : nextB bs 4 = none) (hcls : ∀ b ∈ bs, b.cls = 4) : ∀ b ∈ bs, b.kind ≠ 0 := by
  rcases firstB_spec (fun b => freeB b.cls b.kind 4) bs with ⟨_, h2⟩ | ⟨a, h1, _⟩
  · intro b hb hk
    have := h2 b hb
    simp [freeB, hcls b hb, hk] at this
  · rw [nextB, h1] at h; cases h
theorem level_none {bs : List Bk} {M : Int} (h : levelB bs 4 = none) (hcls : ∀ b ∈ bs, b.cls = 4) (hM : (useOf bs 4).2.1 = M) : ∀ b ∈ bs, b.kind ≠ 0 → M - 7 ≤ b.gen := by
  intro b hb hk
  rcases firstB_spec (fun b => usedB b.cls b.kind 4) bs with ⟨_, h2⟩ | ⟨a, h1, h2, h3, h4⟩
  · have := h2 b hb
    simp [usedB, hcls b hb, hk] at this
  · have h5 := rarerB_le (h4 b hb (by simp [usedB, hcls b hb, hk]))
    unfold levelB at h
    rw [coldB, h1] at h
    simp only at h
    split at h
    · omega
    · cases h

theorem moveOf_parts {bs : List Bk} {f t : Bk} (h : moveOf bs 4 = some (f, t)) : levelB bs 4 = some f ∧ nextB bs 4 = some t := by
  unfold moveOf at h
  split at h
  · rename_i f' t' h1 h2
    injection h with h
    injection h with ha hb
    subst ha hb
    exact ⟨h1, h2⟩
  · cases h
theorem moveOf_none {bs : List Bk} (h : moveOf bs 4 = none) : levelB bs 4 = none ∨ nextB bs 4 = none := by
  cases h1 : levelB bs 4 with
  | none => exact .inl rfl
  | some f =>
    cases h2 : nextB bs 4 with
    | none => exact .inr rfl
    | some t => rw [moveOf_some h1 h2] at h; cases h

theorem jend {bs : List Bk} {M : Int} (h : Jinv bs M) (hm : moveOf bs 4 = none) : Binv bs M := by
  obtain ⟨h1, h2, h3, h4⟩ := h
  have hM := most_is h2 h3
  have hcls : ∀ b ∈ bs, b.cls = 4 := fun b hb => (h2 b hb).1
  refine ⟨h1, h2, h3, ?_⟩
  rcases moveOf_none hm with h5 | h5
  · exact .inl (level_none h5 hcls hM)
  · have h6 := next_none h5 hcls
    exact .inr ⟨h6, h4 (fun b hb hk => absurd hk (h6 b hb))⟩

theorem bspread {bs : List Bk} {M : Int} (h : Binv bs M) : (useOf bs 4).2.1 - (useOf bs 4).1 ≤ 9 ∧ 0 ≤ (useOf bs 4).1 ∧ (useOf bs 4).1 ≤ M ∧ 0 ≤ (useOf bs 4).2.1 ∧ (useOf bs 4).2.1 = M := by
  obtain ⟨h1, h2, h3, _⟩ := h
  have hM := most_is h2 h3
  obtain ⟨b, hb, he⟩ := h3
  have hb2 := h2 b hb
  have := useOf_bounds bs 4 (max 0 (M - 9)) M (by omega) (by omega) (fun x hx _ => by have := h2 x hx; omega)
  rcases this with h4 | h4 <;> omega

theorem nextGen_in {g : Int} (h0 : 0 ≤ g) (h1 : g ≤ 1000000) : nextGen g = g + 1 := by unfold nextGen; rw [if_neg (by omega)]

/-- What a move makes of each block. -/
theorem afterF_cases (f t b : Bk) : (b = f ∧ afterF f t b = (b.line, b.cls, 0, b.gen)) ∨ (b = t ∧ b ≠ f ∧ afterF f t b = (b.line, b.cls, f.kind, nextGen b.gen)) ∨ (b ≠ f ∧ b ≠ t ∧ afterF f t b = b) := by
  by_cases h1 : b = f
  · exact .inl ⟨h1, by simp [afterF, h1]⟩
  · by_cases h2 : b = t
    · refine .inr (.inl ⟨h2, h1, ?_⟩)
      simp only [afterF, if_neg h1, if_pos h2]
    · exact .inr (.inr ⟨h1, h2, by simp only [afterF, if_neg h1, if_neg h2]⟩)

theorem jstep {bs : List Bk} {M : Int} {f t : Bk} (h : Jinv bs M) (hm : moveOf bs 4 = some (f, t)) (hB : M ≤ 900000) :
    ∃ M', M ≤ M' ∧ M' ≤ M + 1 ∧ Kinv (afterB bs f t) M' ∧ (∀ b ∈ bs, b.kind = 0 → t.gen ≤ b.gen) ∧ ((∃ b ∈ bs, b.kind = 0 ∧ b.gen < M) → M' = M) := by
  obtain ⟨h1, h2, h3, h4⟩ := h
  obtain ⟨hl, hn⟩ := moveOf_parts hm
  have hcls : ∀ b ∈ bs, b.cls = 4 := fun b hb => (h2 b hb).1
  have hM := most_is h2 h3
  obtain ⟨t1, t2, t3⟩ := next_least hn hcls
  obtain ⟨hc, h8⟩ := levelB_cold hl
  obtain ⟨f1, fu⟩ := firstB_mem _ bs f hc
  have f2 : f.kind ≠ 0 := by simp [usedB] at fu; exact fu.2
  rw [hM] at h8
  have ft := h2 f f1
  have tt := h2 t t1
  have hng : nextGen t.gen = t.gen + 1 := nextGen_in (by omega) (by omega)
  have hff : (f.line, f.cls, 0, f.gen) ∈ afterB bs f t := by
    simp only [afterB, List.mem_map]
    refine ⟨f, f1, ?_⟩
    simp [afterF]
  have hne : afterB bs f t ≠ [] := by
    intro he
    rw [he] at hff
    cases hff
  have hmem : ∀ (P : Bk → Prop), (∀ b ∈ bs, b = f → P (b.line, b.cls, 0, b.gen)) → (∀ b ∈ bs, b = t → P (b.line, b.cls, f.kind, b.gen + 1)) → (∀ b ∈ bs, P b) → ∀ b ∈ afterB bs f t, P b := by
    intro P p1 p2 p3 b hb
    simp only [afterB, List.mem_map] at hb
    obtain ⟨a, ha, rfl⟩ := hb
    have ha' : a ∈ bs := by simpa using ha
    rcases afterF_cases f t a with ⟨h5, h6⟩ | ⟨h5, _, h6⟩ | ⟨_, _, h6⟩
    · rw [h6]; exact p1 a ha' h5
    · rw [h6]
      have hg : nextGen a.gen = a.gen + 1 := by rw [h5]; exact hng
      rw [hg]; exact p2 a ha' h5
    · rw [h6]; exact p3 a ha'
  by_cases htM : t.gen = M
  · -- the greatest generation grows
    have h9 := h4 (fun b hb hk => by have := t3 b hb hk; have := h2 b hb; omega)
    refine ⟨M + 1, by omega, by omega, ⟨⟨hne, ?_, ?_, ?_⟩, ⟨_, hff, rfl, ?_⟩⟩, t3, ?_⟩
    · refine hmem _ (fun b hb _ => ?_) (fun b hb he => ?_) (fun b hb => ?_)
      · have := h2 b hb; have := h9 b hb
        exact ⟨hcls b hb, by show 0 ≤ b.gen; omega, by show M + 1 - 9 ≤ b.gen; omega, by show b.gen ≤ M + 1; omega⟩
      · have := h2 b hb; have := h9 b hb
        exact ⟨hcls b hb, by show 0 ≤ b.gen + 1; omega, by show M + 1 - 9 ≤ b.gen + 1; omega, by show b.gen + 1 ≤ M + 1; omega⟩
      · have := h2 b hb; have := h9 b hb
        exact ⟨hcls b hb, by omega, by omega, by omega⟩
    · refine ⟨(t.line, t.cls, f.kind, t.gen + 1), ?_, by show t.gen + 1 = M + 1; omega⟩
      simp only [afterB, List.mem_map]
      refine ⟨t, t1, ?_⟩
      rcases afterF_cases f t t with ⟨h5, _⟩ | ⟨_, _, h6⟩ | ⟨_, h5, _⟩
      · exact absurd (h5 ▸ t2) f2
      · rw [h6, hng]
      · exact absurd rfl h5
    · intro hh
      have := hh _ hff rfl
      exact absurd (show f.gen = M + 1 from this) (by omega)
    · show f.gen < M + 1; omega
    · rintro ⟨b, hb, hk, hlt⟩
      have := t3 b hb hk
      omega
  · have htl : t.gen < M := by omega
    refine ⟨M, Int.le_refl _, by omega, ⟨⟨hne, ?_, ?_, ?_⟩, ⟨_, hff, rfl, ?_⟩⟩, t3, fun _ => rfl⟩
    · refine hmem _ (fun b hb _ => ?_) (fun b hb he => ?_) (fun b hb => h2 b hb)
      · have := h2 b hb
        exact ⟨this.1, this.2.1, this.2.2.1, this.2.2.2⟩
      · have := h2 b hb
        have he' : b.gen = t.gen := by rw [he]
        exact ⟨this.1, by show 0 ≤ b.gen + 1; omega, by show M - 9 ≤ b.gen + 1; omega, by show b.gen + 1 ≤ M; omega⟩
    · obtain ⟨x, hx, hxM⟩ := h3
      rcases afterF_cases f t x with ⟨_, h6⟩ | ⟨h5, _, _⟩ | ⟨_, _, h6⟩
      · exact ⟨(x.line, x.cls, 0, x.gen), by simp only [afterB, List.mem_map]; exact ⟨x, hx, h6⟩, hxM⟩
      · rw [h5] at hxM; exact absurd hxM htM
      · exact ⟨x, by simp only [afterB, List.mem_map]; exact ⟨x, hx, h6⟩, hxM⟩
    · intro hh
      have := hh _ hff rfl
      exact absurd (show f.gen = M from this) (by omega)
    · show f.gen < M; omega

/-- How far the generations are below M, all together. -/
def phi (M : Int) (bs : List Bk) : Nat := (bs.map (fun b => (M - b.gen).toNat)).sum
theorem phi_le {bs : List Bk} {M : Int} {k : Nat} (h : ∀ b ∈ bs, M - k ≤ b.gen) : phi M bs ≤ bs.length * k := by
  induction bs with
  | nil => simp [phi]
  | cons b bs ih =>
    have h1 := ih (fun x hx => h x (List.mem_cons_of_mem _ hx))
    have h2 := h b List.mem_cons_self
    simp only [phi, List.map_cons, List.sum_cons, List.length_cons] at h1 ⊢
    rw [Nat.add_mul, Nat.one_mul]
    omega
theorem phi_step {bs : List Bk} {M : Int} {f t : Bk} (hf : f.kind ≠ 0) (ht : t.kind = 0) (hg : nextGen t.gen = t.gen + 1) (hlt : t.gen < M) : phi M (afterB bs f t) ≤ phi M bs ∧ (t ∈ bs → phi M (afterB bs f t) + 1 ≤ phi M bs) := by
  induction bs with
  | nil => simp [phi, afterB]
  | cons b bs ih =>
    obtain ⟨h1, h2⟩ := ih
    simp only [phi, afterB, List.map_cons, List.sum_cons] at h1 h2 ⊢
    rcases afterF_cases f t b with ⟨h5, h6⟩ | ⟨h5, _, h6⟩ | ⟨_, h5, h6⟩
    · rw [h6]
      have hz : (M - Bk.gen (b.line, b.cls, 0, b.gen)).toNat = (M - b.gen).toNat := rfl
      rw [hz]
      refine ⟨by omega, fun hm => ?_⟩
      rcases List.mem_cons.1 hm with hm | hm
      · rw [← hm] at h5; rw [h5] at ht; exact absurd ht hf
      · have := h2 hm; omega
    · rw [h6]
      have hz : (M - Bk.gen (b.line, b.cls, f.kind, nextGen b.gen)).toNat + 1 = (M - b.gen).toNat := by
        show (M - nextGen b.gen).toNat + 1 = _
        rw [h5, hg]
        omega
      exact ⟨by omega, fun _ => by omega⟩
    · rw [h6]
      refine ⟨by omega, fun hm => ?_⟩
      rcases List.mem_cons.1 hm with hm | hm
      · exact absurd hm.symm h5
      · have := h2 hm; omega

theorem kcount {n : Nat} {bs : List Bk} {M : Int} (h : Kinv bs M) (hB : M ≤ 900000) : (movesB n bs 4).length ≤ phi M bs := by
  induction n generalizing bs with
  | zero => simp [movesB]
  | succ n ih =>
    cases hm : moveOf bs 4 with
    | none => rw [movesB_none hm]; simp
    | some m =>
      obtain ⟨f, t⟩ := m
      rw [movesB_some hm]
      obtain ⟨M', _, _, hK, h3, h4⟩ := jstep h.1 hm hB
      obtain rfl := h4 h.2
      obtain ⟨hl, hn⟩ := moveOf_parts hm
      obtain ⟨t1, t2, t3⟩ := next_least hn (fun b hb => (h.1.2.1 b hb).1)
      obtain ⟨f1, fu⟩ := firstB_mem _ bs f (levelB_cold hl).1
      have f2 : f.kind ≠ 0 := by simp [usedB] at fu; exact fu.2
      obtain ⟨x, hx, hxk, hxl⟩ := h.2
      have htl := t3 x hx hxk
      have htt := h.1.2.1 t t1
      have hp := (phi_step (bs := bs) (M := M') f2 t2 (nextGen_in (by omega) (by omega)) (by omega)).2 t1
      have := ih hK
      simp only [List.length_cons]
      omega
theorem jcount {n : Nat} {bs : List Bk} {M : Int} (h : Jinv bs M) (hB : M ≤ 800000) (hl : bs.length ≤ 12) : (movesB n bs 4).length ≤ 109 := by
  cases n with
  | zero => simp [movesB]
  | succ n =>
    cases hm : moveOf bs 4 with
    | none => rw [movesB_none hm]; simp
    | some m =>
      obtain ⟨f, t⟩ := m
      rw [movesB_some hm]
      obtain ⟨M', h1, h2, hK, _, _⟩ := jstep h hm (by omega)
      have h3 := kcount (n := n) hK (by omega)
      have h4 := phi_le (bs := afterB bs f t) (M := M') (k := 9) (fun b hb => (hK.1.2.1 b hb).2.2.1)
      rw [afterB_length] at h4
      simp only [List.length_cons]
      omega

/-- A block is taken: what was settled may be moved again. -/
theorem btake {bs : List Bk} {M : Int} {n : Bk} (h : Binv bs M) (hn : nextB bs 4 = some n) : ∃ M', M ≤ M' ∧ M' ≤ M + 1 ∧ Jinv (bs.map (takenF n)) M' := by
  obtain ⟨h1, h2, h3, h4⟩ := h
  obtain ⟨t1, t2, t3⟩ := next_least hn (fun b hb => (h2 b hb).1)
  have hA : ∀ b ∈ bs, b.kind ≠ 0 → M - 7 ≤ b.gen := by
    rcases h4 with h4 | h4
    · exact h4
    · exact absurd t2 (h4.1 n t1)
  have tt := h2 n t1
  have hne : bs.map (takenF n) ≠ [] := by
    intro he
    exact h1 (List.map_eq_nil_iff.1 he)
  have hmem : ∀ (P : Bk → Prop), (∀ b ∈ bs, b = n → P (b.line, b.cls, 2, b.gen + 1)) → (∀ b ∈ bs, b ≠ n → P b) → ∀ b ∈ bs.map (takenF n), P b := by
    intro P p1 p2 b hb
    simp only [List.mem_map] at hb
    obtain ⟨a, ha, rfl⟩ := hb
    have ha' : a ∈ bs := by simpa using ha
    unfold takenF
    by_cases he : a = n
    · rw [if_pos he]; exact p1 a ha' he
    · rw [if_neg he]; exact p2 a ha' he
  have hin : (n.line, n.cls, 2, n.gen + 1) ∈ bs.map (takenF n) := by
    simp only [List.mem_map]
    exact ⟨n, t1, by simp [takenF]⟩
  by_cases htM : n.gen = M
  · refine ⟨M + 1, by omega, by omega, hne, ?_, ⟨_, hin, by show n.gen + 1 = M + 1; omega⟩, ?_⟩
    · refine hmem _ (fun b hb he => ?_) (fun b hb he => ?_)
      · have := h2 b hb
        have he' : b.gen = n.gen := by rw [he]
        exact ⟨this.1, by show 0 ≤ b.gen + 1; omega, by show M + 1 - 9 ≤ b.gen + 1; omega, by show b.gen + 1 ≤ M + 1; omega⟩
      · have hb2 := h2 b hb
        have : M - 7 ≤ b.gen := by
          by_cases hk : b.kind = 0
          · have := t3 b hb hk; omega
          · exact hA b hb hk
        exact ⟨hb2.1, by omega, by omega, by omega⟩
    · intro _
      refine hmem _ (fun b hb he => ?_) (fun b hb he => ?_)
      · have he' : b.gen = n.gen := by rw [he]
        show M + 1 - 8 ≤ b.gen + 1
        omega
      · have : M - 7 ≤ b.gen := by
          by_cases hk : b.kind = 0
          · have := t3 b hb hk; omega
          · exact hA b hb hk
        omega
  · refine ⟨M, by omega, by omega, hne, ?_, ?_, ?_⟩
    · refine hmem _ (fun b hb he => ?_) (fun b hb he => h2 b hb)
      have := h2 b hb
      have he' : b.gen = n.gen := by rw [he]
      exact ⟨this.1, by show 0 ≤ b.gen + 1; omega, by show M - 9 ≤ b.gen + 1; omega, by show b.gen + 1 ≤ M; omega⟩
    · obtain ⟨x, hx, hxM⟩ := h3
      refine ⟨x, ?_, hxM⟩
      simp only [List.mem_map]
      refine ⟨x, hx, ?_⟩
      have : x ≠ n := by intro he; rw [he] at hxM; exact htM hxM
      simp [takenF, this]
    · intro hfree
      refine hmem _ (fun b hb he => ?_) (fun b hb he => ?_)
      · have := h2 b hb
        show M - 8 ≤ b.gen + 1
        omega
      · by_cases hk : b.kind = 0
        · have hb' : b ∈ bs.map (takenF n) := by
            simp only [List.mem_map]
            exact ⟨b, hb, by simp [takenF, he]⟩
          have := hfree b hb' hk
          omega
        · have := hA b hb hk
          omega

/-- A block is given back. -/
theorem bgive {bs : List Bk} {M : Int} (n : Nat) (h : Binv bs M) : Jinv (givenB bs 4 n) M := by
  obtain ⟨h1, h2, h3, h4⟩ := h
  generalize hu : (usedLines bs 4)[n % (usedLines bs 4).length]? = u
  have hgen : ∀ b : Bk, (givenF u b).gen = b.gen ∧ (givenF u b).cls = b.cls ∧ (givenF u b = b ∨ (givenF u b).kind = 0) := by
    intro b
    unfold givenF
    split
    · split
      · exact ⟨rfl, rfl, .inr rfl⟩
      · exact ⟨rfl, rfl, .inl rfl⟩
    · exact ⟨rfl, rfl, .inl rfl⟩
  have hmem : ∀ (P : Bk → Prop), (∀ b ∈ bs, P (givenF u b)) → ∀ b ∈ givenB bs 4 n, P b := by
    intro P p1 b hb
    simp only [givenB, List.mem_map, hu] at hb
    obtain ⟨a, ha, rfl⟩ := hb
    exact p1 a (by simpa using ha)
  have hin : ∀ b ∈ bs, givenF u b ∈ givenB bs 4 n := by
    intro b hb
    simp only [givenB, List.mem_map, hu]
    exact ⟨b, hb, rfl⟩
  refine ⟨?_, ?_, ?_, ?_⟩
  · intro he
    have : (givenB bs 4 n).length = bs.length := List.length_map _
    rw [he] at this
    exact h1 (List.eq_nil_of_length_eq_zero this.symm)
  · refine hmem _ (fun b hb => ?_)
    obtain ⟨g1, g2, _⟩ := hgen b
    have := h2 b hb
    rw [g1, g2]
    exact this
  · obtain ⟨x, hx, hxM⟩ := h3
    exact ⟨_, hin x hx, by rw [(hgen x).1]; exact hxM⟩
  · intro hfree
    refine hmem _ (fun b hb => ?_)
    obtain ⟨g1, _, g3⟩ := hgen b
    rw [g1]
    rcases h4 with h4 | h4
    · by_cases hk : (givenF u b).kind = 0
      · have := hfree _ (hin b hb) hk
        rw [g1] at this
        omega
      · have hkb : b.kind ≠ 0 := by
          rcases g3 with g3 | g3
          · rw [g3] at hk; exact hk
          · exact absurd g3 hk
        have := h4 b hb hkb
        omega
    · exact h4.2 b hb

/-- At first all generations are equal. -/
theorem bstart {bs : List Bk} {M : Int} (h1 : bs ≠ []) (h0 : 0 ≤ M) (h2 : ∀ b ∈ bs, b.cls = 4 ∧ b.gen = M) : Binv bs M := by
  refine ⟨h1, fun b hb => ?_, ?_, .inl (fun b hb _ => ?_)⟩
  · have := h2 b hb
    exact ⟨this.1, by omega, by omega, by omega⟩
  · cases bs with
    | nil => exact absurd rfl h1
    | cons b bs => exact ⟨b, List.mem_cons_self, (h2 b List.mem_cons_self).2⟩
  · have := h2 b hb
    omega
end Go.Proofs.Ytidiapfmjalaiaa
