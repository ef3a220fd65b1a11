/-
  Plain Lean: what the steps of a stable sort by merging in place come to (swaps of two ranges, a rotation, the insertion of one element, the symmetric merge).
-/
import Derived.Sort.LotA
namespace Go.Proofs.YtcoeoggoaiebeaaDoor
open Go.Sort
section
variable {α : Type} [Inhabited α]

/-! ### Two ranges exchanged -/
def SwR (a b i : Nat) (d d' : Array α) : Prop :=
  d'.size = d.size ∧ ∀ k, d'[k]! = if a ≤ k ∧ k < a + i then d[b + (k - a)]! else if b ≤ k ∧ k < b + i then d[a + (k - b)]! else d[k]!
theorem SwR.zero (a b : Nat) (d : Array α) : SwR a b 0 d d := ⟨rfl, fun k => by rw [if_neg (by omega), if_neg (by omega)]⟩
theorem SwR.step {a b i : Nat} {d d' : Array α} (h : SwR a b i d d') (hab : a + i < b) (hb : b + i < d.size) : SwR a b (i + 1) d (swp d' (a + i) (b + i)) := by
  obtain ⟨hs, h⟩ := h
  refine ⟨by rw [swp_size]; exact hs, fun k => ?_⟩
  rw [swp_get d' (by omega) (by omega) k]
  by_cases h1 : k = b + i
  · subst h1
    rw [if_pos rfl, h, if_neg (by omega), if_neg (by omega), if_neg (by omega), if_pos (by omega)]
    congr 1
    omega
  · rw [if_neg h1]
    by_cases h2 : k = a + i
    · subst h2
      rw [if_pos rfl, h, if_neg (by omega), if_neg (by omega), if_pos (by omega)]
      congr 1
      omega
    · rw [if_neg h2, h]
      repeat' split
      all_goals first | rfl | omega

/-! ### A rotation -/
def rotF (s m e : Nat) (d : Array α) (k : Nat) : α :=
  if s ≤ k ∧ k < s + (e - m) then d[m + (k - s)]! else if s + (e - m) ≤ k ∧ k < e then d[s + (k - (s + (e - m)))]! else d[k]!
/-- What is left to rotate: the whole comes out the same. -/
def RotI (a m b i j : Nat) (d d' : Array α) : Prop := d'.size = d.size ∧ ∀ k, rotF (m - i) m (m + j) d' k = rotF a m b d k
theorem RotI.start {a m b : Nat} (d : Array α) (h1 : a ≤ m) (h2 : m ≤ b) : RotI a m b (m - a) (b - m) d d := by
  refine ⟨rfl, fun k => ?_⟩
  rw [show m - (m - a) = a by omega, show m + (b - m) = b by omega]
theorem RotI.left {a m b i j : Nat} {d d' d'' : Array α} (h : RotI a m b i j d d') (hij : j < i) (hi : i ≤ m) (hs : SwR (m - i) m j d' d'') : RotI a m b (i - j) j d d'' := by
  refine ⟨hs.1.trans h.1, fun k => ?_⟩
  rw [← h.2 k]
  simp only [rotF, hs.2]
  repeat' split
  all_goals first | rfl | (exfalso; omega) | (congr 1; omega)
theorem RotI.right {a m b i j : Nat} {d d' d'' : Array α} (h : RotI a m b i j d d') (hij : i < j) (hi : i ≤ m) (hs : SwR (m - i) (m + j - i) i d' d'') : RotI a m b i (j - i) d d'' := by
  refine ⟨hs.1.trans h.1, fun k => ?_⟩
  rw [← h.2 k]
  simp only [rotF, hs.2]
  repeat' split
  all_goals first | rfl | (exfalso; omega) | (congr 1; omega)
theorem RotI.last {a m b i : Nat} {d d' d'' : Array α} (h : RotI a m b i i d d') (hi : i ≤ m) (hs : SwR (m - i) m i d' d'') : ∀ k, d''[k]! = rotF a m b d k := by
  intro k
  rw [← h.2 k]
  simp only [rotF, hs.2]
  repeat' split
  all_goals first | rfl | (exfalso; omega) | (congr 1; omega)
theorem rotF_none {s m e : Nat} (d : Array α) (h1 : s ≤ m) (h2 : m ≤ e) (h : ¬ (s < m ∧ m < e)) (k : Nat) : d[k]! = rotF s m e d k := by
  unfold rotF
  repeat' split
  all_goals first | rfl | (exfalso; omega) | (congr 1; omega)

/-! ### One element carried up or down -/
def Bub (a k : Nat) (d d' : Array α) : Prop := d'.size = d.size ∧ ∀ t, d'[t]! = if a ≤ t ∧ t < k then d[t + 1]! else if t = k then d[a]! else d[t]!
theorem Bub.zero (a : Nat) (d : Array α) : Bub a a d d := ⟨rfl, fun t => by
  rw [if_neg (by omega)]
  split
  · rename_i h; rw [h]
  · rfl⟩
theorem Bub.step {a k : Nat} {d d' : Array α} (h : Bub a k d d') (ha : a ≤ k) (hk : k + 1 < d.size) : Bub a (k + 1) d (swp d' k (k + 1)) := by
  obtain ⟨hs, h⟩ := h
  refine ⟨by rw [swp_size]; exact hs, fun t => ?_⟩
  rw [swp_get d' (by omega) (by omega) t]
  by_cases h1 : t = k + 1
  · subst h1
    rw [if_pos rfl, h, if_neg (by omega), if_pos rfl, if_neg (by omega), if_pos rfl]
  · rw [if_neg h1]
    by_cases h2 : t = k
    · subst h2
      rw [if_pos rfl, h, if_neg (by omega), if_neg (by omega), if_pos (by omega)]
    · rw [if_neg h2, h]
      repeat' split
      all_goals first | rfl | omega
def Dub (m k : Nat) (d d' : Array α) : Prop := d'.size = d.size ∧ ∀ t, d'[t]! = if k < t ∧ t ≤ m then d[t - 1]! else if t = k then d[m]! else d[t]!
theorem Dub.zero (m : Nat) (d : Array α) : Dub m m d d := ⟨rfl, fun t => by
  rw [if_neg (by omega)]
  split
  · rename_i h; rw [h]
  · rfl⟩
theorem Dub.step {m k : Nat} {d d' : Array α} (h : Dub m (k + 1) d d') (hk : k + 1 ≤ m) (hm : m < d.size) : Dub m k d (swp d' (k + 1) k) := by
  obtain ⟨hs, h⟩ := h
  refine ⟨by rw [swp_size]; exact hs, fun t => ?_⟩
  rw [swp_get d' (by omega) (by omega) t]
  by_cases h1 : t = k
  · subst h1
    rw [if_pos rfl, h, if_neg (by omega), if_pos rfl, if_neg (by omega), if_pos rfl]
  · rw [if_neg h1]
    by_cases h2 : t = k + 1
    · subst h2
      rw [if_pos rfl, h, if_neg (by omega), if_neg (by omega), if_pos (by omega)]
      rfl
    · rw [if_neg h2, h]
      repeat' split
      all_goals first | rfl | omega

variable {lt : α → α → Bool}
omit [Inhabited α] in
theorem SWO.up (hS : SWO lt) {x y z : α} (h1 : lt x y = false) (h2 : lt x z = true) : lt y z = true := by
  cases h : lt y z with
  | true => rfl
  | false => rw [hS.ntrans x y z h1 h] at h2; cases h2
omit [Inhabited α] in
theorem SWO.down (hS : SWO lt) {x y z : α} (h1 : lt y z = false) (h2 : lt x z = true) : lt x y = true := by
  cases h : lt x y with
  | true => rfl
  | false => rw [hS.ntrans x y z h h1] at h2; cases h2

/-! ### The searches -/
/-- Where d[a] belongs among the ascending [m, b). -/
def SearchA (lt : α → α → Bool) (a m b i j : Nat) (d : Array α) : Prop :=
  m ≤ i ∧ i ≤ j ∧ j ≤ b ∧ (∀ k, m ≤ k → k < i → lt d[k]! d[a]! = true) ∧ ∀ k, j ≤ k → k < b → lt d[k]! d[a]! = false
theorem SearchA.start {a m b : Nat} (d : Array α) (h : m ≤ b) : SearchA lt a m b m b d := ⟨Nat.le_refl _, h, Nat.le_refl _, fun k h1 h2 => by omega, fun k h1 h2 => by omega⟩
theorem SearchA.hi (hS : SWO lt) {a m b i j h : Nat} {d : Array α} (hA : SearchA lt a m b i j d) (hs : SortedIn lt m b d) (h1 : i ≤ h) (h2 : h < j) (hl : lt d[h]! d[a]! = true) : SearchA lt a m b (h + 1) j d := by
  obtain ⟨g1, g2, g3, g4, g5⟩ := hA
  refine ⟨by omega, by omega, g3, fun k hk1 hk2 => ?_, g5⟩
  by_cases hk : k = h
  · subst hk; exact hl
  · exact SWO.up hS (hs k h hk1 (by omega) (by omega)) hl
theorem SearchA.lo (hS : SWO lt) {a m b i j h : Nat} {d : Array α} (hA : SearchA lt a m b i j d) (hs : SortedIn lt m b d) (h1 : i ≤ h) (h2 : h < j) (hl : lt d[h]! d[a]! = false) : SearchA lt a m b i h d := by
  obtain ⟨g1, g2, g3, g4, g5⟩ := hA
  refine ⟨g1, by omega, by omega, g4, fun k hk1 hk2 => ?_⟩
  by_cases hk : k = h
  · subst hk; exact hl
  · exact hS.ntrans _ _ _ (hs h k (by omega) (by omega) hk2) hl
theorem SearchA.done (hS : SWO lt) {a b i : Nat} {d d' : Array α} (hA : SearchA lt a (a + 1) b i i d) (hs : SortedIn lt (a + 1) b d) (hb : Bub a (i - 1) d d') : SortedIn lt a b d' := by
  obtain ⟨g1, g2, g3, g4, g5⟩ := hA
  intro p q hp hpq hq
  rw [hb.2 p, hb.2 q]
  by_cases hq1 : q < i - 1
  · rw [if_pos (by omega), if_pos (by omega)]
    exact hs _ _ (by omega) (by omega) (by omega)
  · by_cases hq2 : q = i - 1
    · rw [if_neg (by omega), if_pos hq2, if_pos (by omega)]
      exact hS.asymmA (g4 _ (by omega) (by omega))
    · rw [if_neg (by omega), if_neg hq2]
      by_cases hp1 : p < i - 1
      · rw [if_pos (by omega)]
        exact hs _ _ (by omega) (by omega) (by omega)
      · rw [if_neg (by omega)]
        by_cases hp2 : p = i - 1
        · rw [if_pos hp2]
          exact g5 _ (by omega) hq
        · rw [if_neg hp2]
          exact hs _ _ (by omega) hpq hq
/-- Where d[m] belongs among the ascending [a, m). -/
def SearchB (lt : α → α → Bool) (a m i j : Nat) (d : Array α) : Prop :=
  a ≤ i ∧ i ≤ j ∧ j ≤ m ∧ (∀ k, a ≤ k → k < i → lt d[m]! d[k]! = false) ∧ ∀ k, j ≤ k → k < m → lt d[m]! d[k]! = true
theorem SearchB.start {a m : Nat} (d : Array α) (h : a ≤ m) : SearchB lt a m a m d := ⟨Nat.le_refl _, h, Nat.le_refl _, fun k h1 h2 => by omega, fun k h1 h2 => by omega⟩
theorem SearchB.hi (hS : SWO lt) {a m i j h : Nat} {d : Array α} (hA : SearchB lt a m i j d) (hs : SortedIn lt a m d) (h1 : i ≤ h) (h2 : h < j) (hl : lt d[m]! d[h]! = false) : SearchB lt a m (h + 1) j d := by
  obtain ⟨g1, g2, g3, g4, g5⟩ := hA
  refine ⟨by omega, by omega, g3, fun k hk1 hk2 => ?_, g5⟩
  by_cases hk : k = h
  · subst hk; exact hl
  · exact hS.ntrans _ _ _ hl (hs k h hk1 (by omega) (by omega))
theorem SearchB.lo (hS : SWO lt) {a m i j h : Nat} {d : Array α} (hA : SearchB lt a m i j d) (hs : SortedIn lt a m d) (h1 : i ≤ h) (h2 : h < j) (hl : lt d[m]! d[h]! = true) : SearchB lt a m i h d := by
  obtain ⟨g1, g2, g3, g4, g5⟩ := hA
  refine ⟨g1, by omega, by omega, g4, fun k hk1 hk2 => ?_⟩
  by_cases hk : k = h
  · subst hk; exact hl
  · exact SWO.down hS (hs h k (by omega) (by omega) hk2) hl
theorem SearchB.done (hS : SWO lt) {a m i : Nat} {d d' : Array α} (hA : SearchB lt a m i i d) (hs : SortedIn lt a m d) (hb : Dub m i d d') : SortedIn lt a (m + 1) d' := by
  obtain ⟨g1, g2, g3, g4, g5⟩ := hA
  intro p q hp hpq hq
  rw [hb.2 p, hb.2 q]
  by_cases hq1 : q < i
  · rw [if_neg (by omega), if_neg (by omega), if_neg (by omega), if_neg (by omega)]
    exact hs _ _ hp hpq (by omega)
  · by_cases hq2 : q = i
    · rw [if_neg (by omega), if_pos hq2, if_neg (by omega), if_neg (by omega)]
      exact g4 _ hp (by omega)
    · rw [if_pos (by omega)]
      by_cases hp1 : p < i
      · rw [if_neg (by omega), if_neg (by omega)]
        exact hs _ _ hp (by omega) (by omega)
      · by_cases hp2 : p = i
        · rw [if_neg (by omega), if_pos hp2]
          exact hS.asymmA (g5 _ (by omega) (by omega))
        · rw [if_pos (by omega)]
          exact hs _ _ (by omega) (by omega) (by omega)

/-- The symmetric search: n = mid + m; the sum of the two places is n - 1. -/
def SearchS (lt : α → α → Bool) (n lo hi s r : Nat) (d : Array α) : Prop :=
  lo ≤ s ∧ s ≤ r ∧ r ≤ hi ∧ (lo < s → lt d[n - s]! d[s - 1]! = false) ∧ (r < hi → lt d[n - 1 - r]! d[r]! = true)
theorem SearchS.start {n lo hi : Nat} (d : Array α) (h : lo ≤ hi) : SearchS lt n lo hi lo hi d := ⟨Nat.le_refl _, h, Nat.le_refl _, fun h => by omega, fun h => by omega⟩
theorem SearchS.hi {n lo hi s r c : Nat} {d : Array α} (hA : SearchS lt n lo hi s r d) (h1 : s ≤ c) (h2 : c < r) (hl : lt d[n - 1 - c]! d[c]! = false) : SearchS lt n lo hi (c + 1) r d := by
  obtain ⟨g1, g2, g3, g4, g5⟩ := hA
  refine ⟨by omega, by omega, g3, fun _ => ?_, g5⟩
  rw [show n - (c + 1) = n - 1 - c by omega]
  exact hl
theorem SearchS.lo {n lo hi s r c : Nat} {d : Array α} (hA : SearchS lt n lo hi s r d) (h1 : s ≤ c) (h2 : c < r) (hl : lt d[n - 1 - c]! d[c]! = true) : SearchS lt n lo hi s c d := by
  obtain ⟨g1, g2, g3, g4, g5⟩ := hA
  exact ⟨g1, h1, by omega, g4, fun _ => hl⟩

/-- What the symmetric search and the rotation leave. -/
theorem sym_parts (hS : SWO lt) {a m b s e mid : Nat} {d d1 : Array α} (g1 : a ≤ s) (g2 : s ≤ m) (g3 : m ≤ e) (g4 : e ≤ b) (hm : mid = s + (e - m)) (h1 : SortedIn lt a m d) (h2 : SortedIn lt m b d)
    (hl : a < s → e < b → lt d[e]! d[s - 1]! = false) (hr : s < m → m < e → lt d[s]! d[e - 1]! = false) (hd : ∀ k, d1[k]! = rotF s m e d k) :
    SortedIn lt a s d1 ∧ SortedIn lt s mid d1 ∧ SortedIn lt mid e d1 ∧ SortedIn lt e b d1 ∧ ∀ i j, a ≤ i → i < mid → mid ≤ j → j < b → lt d1[j]! d1[i]! = false := by
  subst hm
  have c1 : ∀ k, a ≤ k → k < s → d1[k]! = d[k]! := fun k _ _ => by rw [hd, rotF, if_neg (by omega), if_neg (by omega)]
  have c2 : ∀ k, s ≤ k → k < s + (e - m) → d1[k]! = d[m + (k - s)]! := fun k _ _ => by rw [hd, rotF, if_pos (by omega)]
  have c3 : ∀ k, s + (e - m) ≤ k → k < e → d1[k]! = d[s + (k - (s + (e - m)))]! := fun k _ _ => by rw [hd, rotF, if_neg (by omega), if_pos (by omega)]
  have c4 : ∀ k, e ≤ k → d1[k]! = d[k]! := fun k _ => by rw [hd, rotF, if_neg (by omega), if_neg (by omega)]
  refine ⟨?_, ?_, ?_, ?_, ?_⟩
  · intro i j p q r
    rw [c1 i p (by omega), c1 j (by omega) r]
    exact h1 i j p q (by omega)
  · intro i j p q r
    rw [c2 i p (by omega), c2 j (by omega) r]
    exact h2 _ _ (by omega) (by omega) (by omega)
  · intro i j p q r
    rw [c3 i p (by omega), c3 j (by omega) r]
    exact h1 _ _ (by omega) (by omega) (by omega)
  · intro i j p q r
    rw [c4 i p, c4 j (by omega)]
    exact h2 _ _ (by omega) (by omega) (by omega)
  · intro i j p q r t
    by_cases hi : i < s
    · rw [c1 i p hi]
      by_cases hj : j < e
      · rw [c3 j r hj]
        exact h1 _ _ p (by omega) (by omega)
      · rw [c4 j (by omega)]
        have k1 := hl (by omega) (by omega)
        have k2 : lt d[s - 1]! d[i]! = false := by
          by_cases hx : i = s - 1
          · rw [hx]; exact hS.irrefl _
          · exact h1 _ _ p (by omega) (by omega)
        have k3 : lt d[j]! d[e]! = false := by
          by_cases hx : j = e
          · rw [hx]; exact hS.irrefl _
          · exact h2 _ _ (by omega) (by omega) t
        exact hS.ntrans _ _ _ k3 (hS.ntrans _ _ _ k1 k2)
    · rw [c2 i (by omega) q]
      by_cases hj : j < e
      · rw [c3 j r hj]
        have k1 := hr (by omega) (by omega)
        have k2 : lt d[e - 1]! d[m + (i - s)]! = false := by
          by_cases hx : m + (i - s) = e - 1
          · rw [hx]; exact hS.irrefl _
          · exact h2 _ _ (by omega) (by omega) (by omega)
        have k3 : lt d[s + (j - (s + (e - m)))]! d[s]! = false := by
          by_cases hx : s + (j - (s + (e - m))) = s
          · rw [hx]; exact hS.irrefl _
          · exact h1 _ _ (by omega) (by omega) (by omega)
        exact hS.ntrans _ _ _ k3 (hS.ntrans _ _ _ k1 k2)
      · rw [c4 j (by omega)]
        exact h2 _ _ (by omega) (by omega) t
/-- Two sorted halves of which the left is nowhere greater: behind permutations of each half, the whole is sorted. -/
theorem sym_join {a mid b : Nat} {d1 d2 d3 : Array α} (h1 : a ≤ mid) (h2 : mid ≤ b) (hb : b ≤ d1.size) (hc : ∀ i j, a ≤ i → i < mid → mid ≤ j → j < b → lt d1[j]! d1[i]! = false)
    (p2 : PermIn a mid d1 d2) (s2 : SortedIn lt a mid d2) (p3 : PermIn mid b d2 d3) (s3 : SortedIn lt mid b d3) : PermIn a b d1 d3 ∧ SortedIn lt a b d3 := by
  have hz2 : b ≤ d2.size := by rw [p2.1]; exact hb
  refine ⟨permIn_trans _ _ _ _ _ (permIn_mono _ _ a mid a b (Nat.le_refl _) h2 hb p2) (permIn_mono _ _ mid b a b h1 (Nat.le_refl _) hz2 p3), ?_⟩
  have e2 : ∀ j, mid ≤ j → d2[j]! = d1[j]! := fun j hj => p2.2.1 j (Or.inr hj)
  have e3 : ∀ i, i < mid → d3[i]! = d2[i]! := fun i hi => p3.2.1 i (Or.inl hi)
  have q2 : ∀ j, mid ≤ j → j < b → ∀ i, a ≤ i → i < mid → lt d1[j]! d2[i]! = false := fun j hj1 hj2 =>
    permIn_all d1 d2 a mid (fun x => lt d1[j]! x = false) (by omega) p2 (fun i h1 h2 => hc i j h1 h2 hj1 hj2)
  have q3 : ∀ i, a ≤ i → i < mid → ∀ j, mid ≤ j → j < b → lt d3[j]! d2[i]! = false := fun i hi1 hi2 =>
    permIn_all d2 d3 mid b (fun x => lt x d2[i]! = false) hz2 p3 (fun j h1 h2 => by rw [e2 j h1]; exact q2 j h1 h2 i hi1 hi2)
  intro i j p q r
  by_cases hj : j < mid
  · rw [e3 i (by omega), e3 j hj]
    exact s2 i j p q hj
  · by_cases hi : i < mid
    · rw [e3 i hi]
      exact q3 i p hi j (by omega) r
    · exact s3 i j (by omega) q r
theorem SortedIn.left {a b c : Nat} {d : Array α} (h : SortedIn lt a b d) (hc : c ≤ b) : SortedIn lt a c d := fun i j p q r => h i j p q (by omega)
theorem SortedIn.kept {a b lo hi : Nat} {d d' : Array α} (h : SortedIn lt a b d) (hp : PermIn lo hi d d') (hd : b ≤ lo ∨ hi ≤ a) : SortedIn lt a b d' := by
  intro i j p q r
  rw [hp.2.1 i (by omega), hp.2.1 j (by omega)]
  exact h i j p q r
end
end Go.Proofs.YtcoeoggoaiebeaaDoor
