/-
  More of what the functions come to, in plain words.
-/
import Derived.Test.YtcoeoggoaiebeaaDoorPlain
namespace Go.Proofs.YtcoeoggoaiebeaaDoor

/-- The block that is taken: its kind is that of a node, and its generation the next one. -/
def takenF (n b : Bk) : Bk := if b = n then (b.line, b.cls, 2, b.gen + 1) else b
theorem map_snoc (F : Bk → Bk) (bs : List Bk) (k : Nat) (x : Bk) (h : bs[k]? = some x) : (bs.take (k + 1)).map F = (bs.take k).map F ++ [F x] := by
  rw [List.take_add_one, h]; simp
theorem takeMap_length (F : Bk → Bk) (bs : List Bk) (k : Nat) (h : k ≤ bs.length) : ((bs.take k).map F).length = k := by simp; omega
/-- The lines of the used blocks of a class. -/
def usedLines (bs : List Bk) (c : Int) : List Int := (bs.filter (fun b => usedB b.cls b.kind c)).map Bk.line
theorem usedLines_snoc (bs : List Bk) (c : Int) (k : Nat) (x : Bk) (h : bs[k]? = some x) : usedLines (bs.take (k + 1)) c = usedLines (bs.take k) c ++ (if usedB x.cls x.kind c = true then [x.line] else []) := by
  rw [usedLines, List.take_add_one, h, List.filter_append, List.map_append]
  unfold usedLines
  congr 1
  cases hu : usedB x.cls x.kind c <;> simp [hu]
theorem usedLines_length (bs : List Bk) (c : Int) (k : Nat) : (usedLines (bs.take k) c).length ≤ k := by
  unfold usedLines
  rw [List.length_map]
  exact Nat.le_trans (List.length_filter_le _ _) (List.length_take_le _ _)
def givenF (o : Option Int) (b : Bk) : Bk := match o with
  | some l => if b.line = l then (b.line, b.cls, 0, b.gen) else b
  | none => b
def givenB (bs : List Bk) (c : Int) (n : Nat) : List Bk := bs.map (givenF (usedLines bs c)[n % (usedLines bs c).length]?)
end Go.Proofs.YtcoeoggoaiebeaaDoor
