/-
  The picture that is made of classes and raw blocks, in plain words.
-/
import Derived.Test.YtcoeoggoaiebeaaDoorPlain
namespace Go.Proofs.YtcoeoggoaiebeaaDoor

/-- The block at a line that the raw blocks give: 'i' blocks are there already. -/
def rawKind (rs : List (Nat × Nat)) (i : Nat) : Int := match rs[i % rs.length]? with | none => 0 | some r => ((r.1 % 7 : Nat) : Int)
def rawGen (rs : List (Nat × Nat)) (more i : Nat) : Int := match rs[i % rs.length]? with | none => 0 | some r => (((r.2 + more) % 1048576 : Nat) : Int)
def fixGen (k g : Int) : Int := if k ≠ 0 ∧ g = 0 then 1 else g
def rawBk (rs : List (Nat × Nat)) (more i : Nat) (line c : Int) : Bk := (line, c, rawKind rs i, fixGen (rawKind rs i) (rawGen rs more i))
/-- 'j' blocks more, of the class 'c', whose lines begin at 'base' and go by 's'. -/
def addN (rs : List (Nat × Nat)) (more : Nat) (base c s : Int) : Nat → List Bk → List Bk
  | 0, bs => bs
  | j + 1, bs => addN rs more base c s j bs ++ [rawBk rs more (addN rs more base c s j bs).length (base + j * s) c]
def picB (heap : Int) (cls : List Nat) (rs : List (Nat × Nat)) (more : Nat) : Nat → List Bk
  | 0 => []
  | k + 1 => match cls[k]? with
    | none => picB heap cls rs more k
    | some c => addN rs more (heap + 16 * k) ((c % 5 : Nat) : Int) ((2 ^ (c % 5) : Nat) : Int) (16 / 2 ^ (c % 5)) (picB heap cls rs more k)
def picC (cls : List Nat) : Nat → List Int
  | 0 => []
  | k + 1 => picC cls k ++ [match cls[k]? with | none => -1 | some c => ((c % 5 : Nat) : Int)]

theorem addN_length (rs : List (Nat × Nat)) (more : Nat) (base c s : Int) (j : Nat) (bs : List Bk) : (addN rs more base c s j bs).length = bs.length + j := by
  induction j with
  | zero => rfl
  | succ j ih => simp only [addN, List.length_append, ih, List.length_cons, List.length_nil]; omega
theorem picB_length (heap : Int) (cls : List Nat) (rs : List (Nat × Nat)) (more k : Nat) : (picB heap cls rs more k).length ≤ 16 * k := by
  induction k with
  | zero => simp [picB]
  | succ k ih =>
    unfold picB
    split
    · omega
    · rename_i c _
      rw [addN_length]
      have : 16 / 2 ^ (c % 5) ≤ 16 := Nat.div_le_self _ _
      omega
theorem picC_length (cls : List Nat) (k : Nat) : (picC cls k).length = k := by
  induction k with
  | zero => rfl
  | succ k ih => simp only [picC, List.length_append, ih, List.length_cons, List.length_nil]
theorem rawKind_ok (rs : List (Nat × Nat)) (i : Nat) : 0 ≤ rawKind rs i ∧ rawKind rs i ≤ 6 := by unfold rawKind; split <;> omega
theorem rawGen_ok (rs : List (Nat × Nat)) (more i : Nat) : 0 ≤ rawGen rs more i ∧ rawGen rs more i ≤ 1048575 := by unfold rawGen; split <;> omega
theorem fixGen_ok (k g : Int) (h : 0 ≤ g ∧ g ≤ 1048575) : 0 ≤ fixGen k g ∧ fixGen k g ≤ 1048575 := by unfold fixGen; split <;> omega
theorem addN_gen (rs : List (Nat × Nat)) (more : Nat) (base c s : Int) (j : Nat) (bs : List Bk) (h : GenOk 1048575 bs) : GenOk 1048575 (addN rs more base c s j bs) := by
  induction j with
  | zero => exact h
  | succ j ih =>
    intro b hb
    simp only [addN, List.mem_append, List.mem_cons, List.not_mem_nil, or_false] at hb
    rcases hb with hb | rfl
    · exact ih b hb
    · exact fixGen_ok _ _ (rawGen_ok _ _ _)
theorem picB_gen (heap : Int) (cls : List Nat) (rs : List (Nat × Nat)) (more k : Nat) : GenOk 1048575 (picB heap cls rs more k) := by
  induction k with
  | zero => intro b hb; simp [picB] at hb
  | succ k ih =>
    unfold picB
    split
    · exact ih
    · exact addN_gen _ _ _ _ _ _ _ ih
theorem GenOk.mono {B B' : Int} {bs : List Bk} (h : GenOk B bs) (hB : B ≤ B') : GenOk B' bs := fun b hb => ⟨(h b hb).1, Int.le_trans (h b hb).2 hB⟩
end Go.Proofs.YtcoeoggoaiebeaaDoor
