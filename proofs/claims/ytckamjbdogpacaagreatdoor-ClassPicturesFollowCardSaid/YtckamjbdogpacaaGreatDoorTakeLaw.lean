/-
  The picture that is made of classes and raw blocks, in plain words.
  The plain law of WearMovesTakeNext: a move keeps where the blocks lie, that each could be a header's, and how many there are of each kind.
-/
import Derived.Test.YtckamjbdogpacaaGreatDoorWords
namespace Go.Proofs.YtckamjbdogpacaaGreatDoor

/-- The block at a line that the raw blocks give: 'i' blocks are there already. -/
def rawKind (rs : List (Nat × Nat)) (i : Nat) : Int := match rs[i % rs.length]? with | none => 0 | some r => ((r.1 % 7 : Nat) : Int)
def rawGen (rs : List (Nat × Nat)) (more i : Nat) : Int := match rs[i % rs.length]? with | none => 0 | some r => (((r.2 + more) % 1048576 : Nat) : Int)
def fixGen (k g : Int) : Int := if k ≠ 0 ∧ g = 0 then 1 else g
def rawBk (rs : List (Nat × Nat)) (more i : Nat) (line c : Int) : Bk := (line, c, rawKind rs i, fixGen (rawKind rs i) (rawGen rs more i))
/-- 'j' blocks more, of the class 'c', whose lines begin at 'base' and go by 's'. -/
def addN (rs : List (Nat × Nat)) (more : Nat) (base c s : Int) : Nat → List Bk → List Bk
  | 0, bs => bs
  | j + 1, bs => addN rs more base c s j bs ++ [rawBk rs more (addN rs more base c s j bs).length (base + j * s) c]
def picB (heap : Int) (cls : List Nat) (rs : List (Nat × Nat)) (more : Nat) : Nat → List Bk
  | 0 => []
  | k + 1 => match cls[k]? with
    | none => picB heap cls rs more k
    | some c => addN rs more (heap + 16 * k) ((c % 5 : Nat) : Int) ((2 ^ (c % 5) : Nat) : Int) (16 / 2 ^ (c % 5)) (picB heap cls rs more k)
def picC (cls : List Nat) : Nat → List Int
  | 0 => []
  | k + 1 => picC cls k ++ [match cls[k]? with | none => -1 | some c => ((c % 5 : Nat) : Int)]

theorem addN_length (rs : List (Nat × Nat)) (more : Nat) (base c s : Int) (j : Nat) (bs : List Bk) : (addN rs more base c s j bs).length = bs.length + j := by
  induction j with
  | zero => rfl
  | succ j ih => simp only [addN, List.length_append, ih, List.length_cons, List.length_nil]; omega
theorem picB_length (heap : Int) (cls : List Nat) (rs : List (Nat × Nat)) (more k : Nat) : (picB heap cls rs more k).length ≤ 16 * k := by
  induction k with
  | zero => simp [picB]
  | succ k ih =>
    unfold picB
    split
    · omega
    · rename_i c _
      rw [addN_length]
      have : 16 / 2 ^ (c % 5) ≤ 16 := Nat.div_le_self _ _
      omega
theorem picC_length (cls : List Nat) (k : Nat) : (picC cls k).length = k := by
  induction k with
  | zero => rfl
  | succ k ih => simp only [picC, List.length_append, ih, List.length_cons, List.length_nil]
theorem rawKind_ok (rs : List (Nat × Nat)) (i : Nat) : 0 ≤ rawKind rs i ∧ rawKind rs i ≤ 6 := by unfold rawKind; split <;> omega
theorem rawGen_ok (rs : List (Nat × Nat)) (more i : Nat) : 0 ≤ rawGen rs more i ∧ rawGen rs more i ≤ 1048575 := by unfold rawGen; split <;> omega
theorem fixGen_ok (k g : Int) (h : 0 ≤ g ∧ g ≤ 1048575) : 0 ≤ fixGen k g ∧ fixGen k g ≤ 1048575 := by unfold fixGen; split <;> omega
theorem addN_gen (rs : List (Nat × Nat)) (more : Nat) (base c s : Int) (j : Nat) (bs : List Bk) (h : GenOk 1048575 bs) : GenOk 1048575 (addN rs more base c s j bs) := by
  induction j with
  | zero => exact h
  | succ j ih =>
    intro b hb
    simp only [addN, List.mem_append, List.mem_cons, List.not_mem_nil, or_false] at hb
    rcases hb with hb | rfl
    · exact ih b hb
    · exact fixGen_ok _ _ (rawGen_ok _ _ _)
theorem picB_gen (heap : Int) (cls : List Nat) (rs : List (Nat × Nat)) (more k : Nat) : GenOk 1048575 (picB heap cls rs more k) := by
  induction k with
  | zero => intro b hb; simp [picB] at hb
  | succ k ih =>
    unfold picB
    split
    · exact ih
    · exact addN_gen _ _ _ _ _ _ _ ih
theorem GenOk.mono {B B' : Int} {bs : List Bk} (h : GenOk B bs) (hB : B ≤ B') : GenOk B' bs := fun b hb => ⟨(h b hb).1, Int.le_trans (h b hb).2 hB⟩
end Go.Proofs.YtckamjbdogpacaaGreatDoor

namespace Go.Proofs.YtckamjbdogpacaaGreatDoor

/-- A block that could be that of a proper header. -/
def CanB (b : Bk) : Prop := 0 ≤ b.kind ∧ b.kind ≤ 6 ∧ 0 ≤ b.cls ∧ b.cls ≤ 4 ∧ 0 ≤ b.gen ∧ b.gen ≤ 1048575 ∧ (b.kind ≠ 0 → 0 < b.gen)
/-- Where a block lies, and its class. -/
def spot (b : Bk) : Int × Int := (b.line, b.cls)
def spotsN (base c s : Int) : Nat → List (Int × Int)
  | 0 => []
  | j + 1 => spotsN base c s j ++ [(base + j * s, c)]
def chunkSpots (heap : Int) (k : Nat) (c : Nat) : List (Int × Int) := spotsN (heap + 16 * k) (c : Int) ((2 ^ c : Nat) : Int) (16 / 2 ^ c)
def spots (heap : Int) (cls : List Nat) : Nat → List (Int × Int)
  | 0 => []
  | k + 1 => match cls[k]? with
    | none => spots heap cls k
    | some c => spots heap cls k ++ chunkSpots heap k (c % 5)

theorem spotsN_length (base c s : Int) (j : Nat) : (spotsN base c s j).length = j := by
  induction j with
  | zero => rfl
  | succ j ih => simp [spotsN, ih]
theorem addN_spots (rs : List (Nat × Nat)) (more : Nat) (base c s : Int) (j : Nat) (bs : List Bk) : (addN rs more base c s j bs).map spot = bs.map spot ++ spotsN base c s j := by
  induction j with
  | zero => simp [addN, spotsN]
  | succ j ih =>
    simp only [addN, List.map_append, List.map_cons, List.map_nil, ih, spotsN, List.append_assoc]
    rfl
theorem picB_spots (heap : Int) (cls : List Nat) (rs : List (Nat × Nat)) (more k : Nat) : (picB heap cls rs more k).map spot = spots heap cls k := by
  induction k with
  | zero => rfl
  | succ k ih =>
    simp only [picB, spots]
    cases cls[k]? with
    | none => exact ih
    | some c => simp only [addN_spots, ih, chunkSpots]

theorem rawBk_can (rs : List (Nat × Nat)) (more i : Nat) (line c : Int) (h0 : 0 ≤ c) (h4 : c ≤ 4) : CanB (rawBk rs more i line c) := by
  have hk := rawKind_ok rs i
  have hg := rawGen_ok rs more i
  have hf := fixGen_ok (rawKind rs i) (rawGen rs more i) hg
  refine ⟨hk.1, hk.2, h0, h4, hf.1, hf.2, fun h => ?_⟩
  show 0 < fixGen (rawKind rs i) (rawGen rs more i)
  have h' : rawKind rs i ≠ 0 := h
  unfold fixGen
  split
  · omega
  · omega
theorem addN_can (rs : List (Nat × Nat)) (more : Nat) (base c s : Int) (h0 : 0 ≤ c) (h4 : c ≤ 4) (j : Nat) (bs : List Bk) (h : ∀ b ∈ bs, CanB b) : ∀ b ∈ addN rs more base c s j bs, CanB b := by
  induction j with
  | zero => exact h
  | succ j ih =>
    intro b hb
    simp only [addN, List.mem_append, List.mem_cons, List.not_mem_nil, or_false] at hb
    rcases hb with hb | rfl
    · exact ih b hb
    · exact rawBk_can rs more _ _ c h0 h4
theorem picB_can (heap : Int) (cls : List Nat) (rs : List (Nat × Nat)) (more k : Nat) : ∀ b ∈ picB heap cls rs more k, CanB b := by
  induction k with
  | zero => intro b hb; cases hb
  | succ k ih =>
    simp only [picB]
    cases cls[k]? with
    | none => exact ih
    | some c => exact addN_can rs more _ _ _ (by omega) (by omega) _ _ ih

/-- The lines of a list of places ascend, and lie below a bound. -/
def Asc (l : List (Int × Int)) (hi : Int) : Prop := l.Pairwise (fun a b => a.1 < b.1) ∧ ∀ a ∈ l, a.1 < hi
theorem Asc.snoc {l : List (Int × Int)} {hi : Int} {p : Int × Int} {hi' : Int} (h : Asc l hi) (h1 : hi ≤ p.1) (h2 : p.1 < hi') : Asc (l ++ [p]) hi' := by
  refine ⟨List.pairwise_append.2 ⟨h.1, List.pairwise_singleton _ _, fun a ha b hb => ?_⟩, fun a ha => ?_⟩
  · simp only [List.mem_singleton] at hb
    subst hb
    have := h.2 a ha
    omega
  · rcases List.mem_append.1 ha with ha | ha
    · have := h.2 a ha; omega
    · simp only [List.mem_singleton] at ha
      subst ha
      exact h2
theorem Asc.mono {l : List (Int × Int)} {hi hi' : Int} (h : Asc l hi) (h1 : hi ≤ hi') : Asc l hi' := ⟨h.1, fun a ha => Int.lt_of_lt_of_le (h.2 a ha) h1⟩
theorem spotsN_asc {l : List (Int × Int)} {base c s : Int} (hs : 1 ≤ s) (h : Asc l base) (j : Nat) : Asc (l ++ spotsN base c s j) (base + j * s) := by
  induction j with
  | zero => simpa [spotsN] using h
  | succ j ih =>
    rw [spotsN, ← List.append_assoc]
    refine ih.snoc (Int.le_refl _) ?_
    show base + (j : Int) * s < base + ((j + 1 : Nat) : Int) * s
    rw [show ((j + 1 : Nat) : Int) = (j : Int) + 1 by omega, Int.add_mul]
    omega
theorem chunk_asc {l : List (Int × Int)} {heap : Int} {k c : Nat} (hc : c ≤ 4) (h : Asc l (heap + 16 * k)) : Asc (l ++ chunkSpots heap k c) (heap + 16 * (k + 1 : Nat)) := by
  have hm : ((16 / 2 ^ c : Nat) : Int) * ((2 ^ c : Nat) : Int) = 16 := by
    match c, hc with
    | 0, _ => rfl
    | 1, _ => rfl
    | 2, _ => rfl
    | 3, _ => rfl
    | 4, _ => rfl
  have hp : 1 ≤ ((2 ^ c : Nat) : Int) := by
    have : 0 < 2 ^ c := Nat.pow_pos (by omega)
    omega
  have := spotsN_asc (c := (c : Int)) hp h (16 / 2 ^ c)
  rw [hm] at this
  exact this.mono (by omega)
theorem spots_asc (heap : Int) (cls : List Nat) (k : Nat) : Asc (spots heap cls k) (heap + 16 * k) := by
  induction k with
  | zero => exact ⟨List.Pairwise.nil, fun a ha => by cases ha⟩
  | succ k ih =>
    simp only [spots]
    cases cls[k]? with
    | none => exact ih.mono (by omega)
    | some c => exact chunk_asc (by omega) ih
theorem nodup_of_asc {bs : List Bk} {hi : Int} (h : Asc (bs.map spot) hi) : bs.Nodup := by
  have h1 := h.1
  rw [List.pairwise_map] at h1
  exact h1.imp (fun {a b} hab he => by
    have : a.line < b.line := hab
    rw [he] at this
    omega)

theorem after_spots (bs : List Bk) (f t : Bk) : (afterB bs f t).map spot = bs.map spot := by
  rw [afterB, List.map_map]
  refine List.map_congr_left (fun b _ => ?_)
  show spot (afterF f t b) = spot b
  unfold afterF
  split
  · rfl
  · split <;> rfl
theorem after_can {bs : List Bk} {f t : Bk} (h : ∀ b ∈ bs, CanB b) (hf : f ∈ bs) : ∀ b ∈ afterB bs f t, CanB b := by
  intro b hb
  simp only [afterB, List.mem_map] at hb
  obtain ⟨a, ha, rfl⟩ := hb
  have hA := h a (by simpa using ha)
  have hF := h f hf
  unfold CanB at hA hF
  unfold afterF
  split
  · refine ⟨Int.le_refl _, by show (0 : Int) ≤ 6; decide, hA.2.2.1, hA.2.2.2.1, hA.2.2.2.2.1, hA.2.2.2.2.2.1, fun hh => absurd rfl hh⟩
  · split
    · have hn := nextGen_le a.gen 1048575 (by omega)
      have hp : 0 < nextGen a.gen := by unfold nextGen; split <;> omega
      exact ⟨hF.1, hF.2.1, hA.2.2.1, hA.2.2.2.1, hn.1, hn.2, fun _ => hp⟩
    · exact hA

def countK (bs : List Bk) (k : Int) : Nat := bs.countP (fun b => b.kind == k)
theorem countK_snoc (bs : List Bk) (q : Int) (k : Nat) (x : Bk) (h : bs[k]? = some x) : countK (bs.take (k + 1)) q = countK (bs.take k) q + (if x.kind = q then 1 else 0) := by
  rw [countK, List.take_add_one, h, List.countP_append]
  simp only [Option.toList_some, List.countP_singleton, countK]
  by_cases hq : x.kind = q <;> simp [hq]
theorem countK_le (bs : List Bk) (q : Int) : countK bs q ≤ bs.length := List.countP_le_length
theorem countP_two {bs : List Bk} {f t : Bk} (hn : bs.Nodup) (hf : f ∈ bs) (ht : t ∈ bs) (hne : f ≠ t) : ∃ rest : List Bk, (∀ x ∈ rest, x ≠ f ∧ x ≠ t) ∧ ∀ q : Bk → Bool, bs.countP q = rest.countP q + (if q t then 1 else 0) + (if q f then 1 else 0) := by
  have h1 : bs.Perm (f :: bs.erase f) := List.perm_cons_erase hf
  have ht' : t ∈ bs.erase f := (List.mem_erase_of_ne (Ne.symm hne)).2 ht
  have h2 : (bs.erase f).Perm (t :: (bs.erase f).erase t) := List.perm_cons_erase ht'
  refine ⟨(bs.erase f).erase t, fun x hx => ?_, fun q => ?_⟩
  · have n1 : (bs.erase f).Nodup := hn.erase f
    have hx2 := (n1.mem_erase_iff.1 hx)
    have hx1 := (hn.mem_erase_iff.1 hx2.2)
    exact ⟨hx1.1, hx2.1⟩
  · rw [h1.countP_eq q, List.countP_cons, h2.countP_eq q, List.countP_cons]
theorem after_count {bs : List Bk} {f t : Bk} (hn : bs.Nodup) (h : okMove bs f t) (k : Int) : countK (afterB bs f t) k = countK bs k := by
  obtain ⟨_, h2, h3, hf, ht⟩ := h
  have hne : f ≠ t := fun he => h2 (by rw [he]; exact h3)
  obtain ⟨rest, hr, hq⟩ := countP_two hn hf ht hne
  unfold countK afterB
  rw [List.countP_map, hq, hq]
  have e1 : rest.countP ((fun b => b.kind == k) ∘ afterF f t) = rest.countP (fun b => b.kind == k) := by
    refine List.countP_congr (fun x hx => ?_)
    have := hr x hx
    simp only [Function.comp, afterF, if_neg this.1, if_neg this.2]
  have e2 : ((fun b : Bk => b.kind == k) ∘ afterF f t) f = ((0 : Int) == k) := by simp [Function.comp, afterF, Bk.kind]
  have e3 : ((fun b : Bk => b.kind == k) ∘ afterF f t) t = (f.kind == k) := by
    simp only [Function.comp, afterF, if_neg (Ne.symm hne), if_true]
    rfl
  have e4 : (t.kind == k) = ((0 : Int) == k) := by rw [h3]
  rw [e1, e2, e3, e4]
  omega

/-- What is left of the moves is made of the picture at hand. -/
theorem moves_dropC {n j : Nat} {bs : List Bk} {c : Int} {ms : List (Bk × Bk)} (h : movesB (n - j) bs c = ms.drop j) (hj : j < ms.length) (hn : ms.length ≤ n) :
    ∃ f t, ms[j]? = some (f, t) ∧ levelB bs c = some f ∧ nextB bs c = some t ∧ movesB (n - (j + 1)) (afterB bs f t) c = ms.drop (j + 1) := by
  rw [List.drop_eq_getElem_cons hj, show n - j = n - (j + 1) + 1 by omega] at h
  cases hm : moveOf bs c with
  | none => rw [movesB_none hm] at h; cases h
  | some m =>
    obtain ⟨f, t⟩ := m
    rw [movesB_some hm] at h
    injection h with h1 h2
    have hp : levelB bs c = some f ∧ nextB bs c = some t := by
      unfold moveOf at hm
      split at hm
      · rename_i f' t' g1 g2
        injection hm with hm
        injection hm with ha hb
        subst ha hb
        exact ⟨g1, g2⟩
      · cases hm
    exact ⟨f, t, by rw [List.getElem?_eq_getElem hj, ← h1], hp.1, hp.2, h2⟩
end Go.Proofs.YtckamjbdogpacaaGreatDoor
