/-
  sanity: the examples of the document.
-/
import Derived.Test.YtidiapfmjalaiaaDoorDue
import Derived.Test.YtidiapfmjalaiaaDoorSame
namespace Go.Proofs.YtidiapfmjalaiaaDoor
open Go.RowKit

/-- A picture in memory: block 'g' holds its three slices. -/
def Pic (w : World) (g : Nat) (cs : List Int) (bs : List Bk) (ds : List Int) : Prop :=
  ∃ A1 c1 A2 c2 A3 c3, Cl w g 27 #[.slice A1 cs.length c1, .slice A2 bs.length c2, .slice A3 ds.length c3] ∧
    RdI w (.slice A1 cs.length c1) cs ∧ RdB w (.slice A2 bs.length c2) bs ∧ RdI w (.slice A3 ds.length c3) ds
theorem Pic.below {w w' : World} {g : Nat} {cs : List Int} {bs : List Bk} {ds : List Int} (h : Pic w g cs bs ds) (hb : Below w.heap.size w w') : Pic w' g cs bs ds := by
  obtain ⟨A1, c1, A2, c2, A3, c3, h1, h2, h3, h4⟩ := h
  exact ⟨A1, c1, A2, c2, A3, c3, h1.below hb h1.lt, h2.below hb, h3.below hb, h4.below hb⟩
theorem Pic.alloc {w : World} {g : Nat} {cs : List Int} {bs : List Bk} {ds : List Int} (h : Pic w g cs bs ds) (o : Obj) : Pic (w.alloc o) g cs bs ds := h.below ((Below.refl _ _).alloc (Nat.le_refl _) _)
theorem Pic.lt {w : World} {g : Nat} {cs : List Int} {bs : List Bk} {ds : List Int} (h : Pic w g cs bs ds) : g < w.heap.size := by
  obtain ⟨A1, c1, A2, c2, A3, c3, h1, _⟩ := h
  exact h1.lt
theorem PicOne.forms {w w' : World} {cs : List Int} {bs : List Bk} {ds : List Int} {e : Ending} (h : PicOne w cs bs ds e w') :
    ∃ A1 c1 A2 c2 A3 c3, e = .returned (.agg #[.slice A1 cs.length c1, .slice A2 bs.length c2, .slice A3 ds.length c3]) ∧ RdI w' (.slice A1 cs.length c1) cs ∧ RdB w' (.slice A2 bs.length c2) bs ∧ RdI w' (.slice A3 ds.length c3) ds ∧ Below w.heap.size w w' := by
  obtain ⟨ch, bl, bd, he, h1, h2, h3, hb⟩ := h
  obtain ⟨A1, c1, rfl⟩ := Rd.form h1
  obtain ⟨A2, c2, rfl⟩ := Rd.form h2
  obtain ⟨A3, c3, rfl⟩ := Rd.form h3
  exact ⟨A1, c1, A2, c2, A3, c3, he, h1, h2, h3, hb⟩
theorem PicPost.forms {w w' : World} {cs : List Int} {bs : List Bk} {ds : List Int} {err : Int} {e : Ending} (h : PicPost w cs bs ds err e w') :
    ∃ A1 c1 A2 c2 A3 c3, e = .returned (.tuple #[.agg #[.slice A1 cs.length c1, .slice A2 bs.length c2, .slice A3 ds.length c3], .int .i64 err]) ∧ RdI w' (.slice A1 cs.length c1) cs ∧ RdB w' (.slice A2 bs.length c2) bs ∧ RdI w' (.slice A3 ds.length c3) ds ∧ Below w.heap.size w w' := by
  obtain ⟨ch, bl, bd, he, h1, h2, h3, hb⟩ := h
  obtain ⟨A1, c1, rfl⟩ := Rd.form h1
  obtain ⟨A2, c2, rfl⟩ := Rd.form h2
  obtain ⟨A3, c3, rfl⟩ := Rd.form h3
  exact ⟨A1, c1, A2, c2, A3, c3, he, h1, h2, h3, hb⟩
/-- A picture that was just stored in a new block. -/
theorem Pic.new {w : World} {A1 A2 A3 : Option Addr} {c1 c2 c3 : Nat} {cs : List Int} {bs : List Bk} {ds : List Int} (h1 : RdI w (.slice A1 cs.length c1) cs) (h2 : RdB w (.slice A2 bs.length c2) bs) (h3 : RdI w (.slice A3 ds.length c3) ds) :
    Pic (w.alloc (.cells #[.slice A1 cs.length c1, .slice A2 bs.length c2, .slice A3 ds.length c3] 27)) w.heap.size cs bs ds :=
  ⟨A1, c1, A2, c2, A3, c3, Cl.new _ _ _, Rd.alloc h1 _, Rd.alloc h2 _, Rd.alloc h3 _⟩

def sX : List Bk := [(16, 4, 2, 1), (32, 4, 0, 9), (48, 4, 0, 8)]
def sY : List Bk := [(16, 4, 2, 1), (32, 4, 2, 9), (48, 4, 2, 1)]
def sZ : List Bk := [(16, 4, 2, 2), (32, 4, 0, 9), (48, 4, 2, 9)]
def sW : List Bk := [(16, 4, 0, 1), (32, 4, 0, 9), (48, 4, 2, 9)]
def sC : List Int := [4, 4, 4]
def sF : Bk := (16, 4, 2, 1)
def sT : Bk := (48, 4, 0, 8)
theorem sUse : useOf sX 4 = (1, 9, 3) := by decide
theorem sNext : nextB sX 4 = some sT := by decide
theorem sLevel : levelB sX 4 = some sF := by decide
theorem sMoves : movesB (10 : Int).toNat sX 4 = [(sF, sT)] := by decide
theorem sOk : okMove sX sF sT := by unfold okMove; decide
theorem sAfter : afterB sX sF sT = sW := by decide
theorem sNo : ¬ okMove sW sF sT := by unfold okMove; decide
theorem sLevelY : levelB sY 4 = some sF := by decide
theorem sLevelZ : levelB sZ 4 = none := by decide
theorem sMovesY : movesB (10 : Int).toNat sY 4 = [] := by decide
theorem sDueY : dueK sY 5 = [] := by decide
theorem sDueX : dueK sX 5 = [4] := by decide
theorem sGenX : GenOk 2000000 sX := by unfold GenOk; decide
theorem sGenY : GenOk 2000000 sY := by unfold GenOk; decide
theorem sGenZ : GenOk 2000000 sZ := by unfold GenOk; decide
def Three (w : World) (bs : List Bk) (e : Ending) (w' : World) : Prop :=
  ∃ A1 c1 A2 c2 A3 c3, e = .returned (.agg #[.slice A1 3 c1, .slice A2 3 c2, .slice A3 0 c3]) ∧ RdI w' (.slice A1 3 c1) sC ∧ RdB w' (.slice A2 3 c2) bs ∧ RdI w' (.slice A3 0 c3) [] ∧ Below w.heap.size w w'
theorem three_x (w : World) : Calls Tryd.prog 15 #[.agg #[.int .i64 0, .int .i64 0, .int .i64 2, .int .i64 1], .agg #[.int .i64 0, .int .i64 0, .int .i64 0, .int .i64 9], .agg #[.int .i64 0, .int .i64 0, .int .i64 0, .int .i64 8]] w (Three w sX) := (three_calls w _ _ _ _ _ _ _ _ _ _ _ _).mono fun _ _ h => PicOne.forms (bs := sX) (cs := sC) h
theorem three_y (w : World) : Calls Tryd.prog 15 #[.agg #[.int .i64 0, .int .i64 0, .int .i64 2, .int .i64 1], .agg #[.int .i64 0, .int .i64 0, .int .i64 2, .int .i64 9], .agg #[.int .i64 0, .int .i64 0, .int .i64 2, .int .i64 1]] w (Three w sY) := (three_calls w _ _ _ _ _ _ _ _ _ _ _ _).mono fun _ _ h => PicOne.forms (bs := sY) (cs := sC) h
theorem three_z (w : World) : Calls Tryd.prog 15 #[.agg #[.int .i64 0, .int .i64 0, .int .i64 2, .int .i64 2], .agg #[.int .i64 0, .int .i64 0, .int .i64 0, .int .i64 9], .agg #[.int .i64 0, .int .i64 0, .int .i64 2, .int .i64 9]] w (Three w sZ) := (three_calls w _ _ _ _ _ _ _ _ _ _ _ _).mono fun _ _ h => PicOne.forms (bs := sZ) (cs := sC) h
theorem three_w (w : World) : Calls Tryd.prog 15 #[.agg #[.int .i64 0, .int .i64 0, .int .i64 0, .int .i64 1], .agg #[.int .i64 0, .int .i64 0, .int .i64 0, .int .i64 9], .agg #[.int .i64 0, .int .i64 0, .int .i64 2, .int .i64 9]] w (Three w sW) := (three_calls w _ _ _ _ _ _ _ _ _ _ _ _).mono fun _ _ h => PicOne.forms (bs := sW) (cs := sC) h
def ThreeE (w : World) (bs : List Bk) (e : Ending) (w' : World) : Prop :=
  ∃ A1 c1 A2 c2 A3 c3, e = .returned (.tuple #[.agg #[.slice A1 3 c1, .slice A2 3 c2, .slice A3 0 c3], .int .i64 0]) ∧ RdI w' (.slice A1 3 c1) sC ∧ RdB w' (.slice A2 3 c2) bs ∧ RdI w' (.slice A3 0 c3) [] ∧ Below w.heap.size w w'
theorem after_x (w : World) (ch bl bd : Value) (hC : RdI w ch sC) (hR : RdB w bl sX) (hD : RdI w bd []) :
    Calls Tryd.prog 11 #[.agg #[ch, bl, bd], .agg #[.int .i64 16, .int .i64 4, .int .i64 2, .int .i64 1, .int .i64 48, .int .i64 4, .int .i64 0, .int .i64 8]] w (ThreeE w sW) :=
  (after_ok8 w ch bl bd sC sX [] sF sT hC hR hD (by decide) (by decide) (by decide) sOk).mono fun _ _ h => PicPost.forms (bs := sW) (cs := sC) h
theorem after_w (w : World) (ch bl bd : Value) (hR : RdB w bl sW) :
    Calls Tryd.prog 11 #[.agg #[ch, bl, bd], .agg #[.int .i64 16, .int .i64 4, .int .i64 2, .int .i64 1, .int .i64 48, .int .i64 4, .int .i64 0, .int .i64 8]] w (PicPost w [] [] [] 1) :=
  after_no8 w ch bl bd sW sF sT hR (by decide) sNo
theorem RdM.one {w : World} {A : Option Addr} {c : Nat} {f t : Bk} (h : RdM w (.slice A 1 c) [(f, t)]) : ∃ b o, A = some ⟨b, o, none⟩ ∧ b < w.heap.size ∧
    w.cell? ⟨b, o, none⟩ = some (.int .i64 f.line) ∧ w.cell? ⟨b, o + 1, none⟩ = some (.int .i64 f.cls) ∧ w.cell? ⟨b, o + 2, none⟩ = some (.int .i64 f.kind) ∧ w.cell? ⟨b, o + 3, none⟩ = some (.int .i64 f.gen) ∧
    w.cell? ⟨b, o + 4, none⟩ = some (.int .i64 t.line) ∧ w.cell? ⟨b, o + 5, none⟩ = some (.int .i64 t.cls) ∧ w.cell? ⟨b, o + 6, none⟩ = some (.int .i64 t.kind) ∧ w.cell? ⟨b, o + 7, none⟩ = some (.int .i64 t.gen) := by
  obtain ⟨_, A', c', hv, _, _, _, h2⟩ := h
  injection hv with hA _ _
  subst hA
  obtain ⟨b, o, cur, fr, rfl, hh, hc⟩ := h2 (by simp)
  have g : ∀ j u, (mvsCells [(f, t)])[j]? = some u → w.cell? ⟨b, o + j, none⟩ = some u := fun j u hu => by
    rw [cell_of_row w b _ cur _ fr hh]; exact hc j u hu
  exact ⟨b, o, rfl, lt_of_heap hh, g 0 _ rfl, g 1 _ rfl, g 2 _ rfl, g 3 _ rfl, g 4 _ rfl, g 5 _ rfl, g 6 _ rfl, g 7 _ rfl⟩
theorem RdM.oneAt {w : World} {b o c : Nat} {f t : Bk} (h : RdM w (.slice (some ⟨b, o, none⟩) 1 c) [(f, t)]) : b < w.heap.size ∧
    w.cell? ⟨b, o, none⟩ = some (.int .i64 f.line) ∧ w.cell? ⟨b, o + 1, none⟩ = some (.int .i64 f.cls) ∧ w.cell? ⟨b, o + 2, none⟩ = some (.int .i64 f.kind) ∧ w.cell? ⟨b, o + 3, none⟩ = some (.int .i64 f.gen) ∧
    w.cell? ⟨b, o + 4, none⟩ = some (.int .i64 t.line) ∧ w.cell? ⟨b, o + 5, none⟩ = some (.int .i64 t.cls) ∧ w.cell? ⟨b, o + 6, none⟩ = some (.int .i64 t.kind) ∧ w.cell? ⟨b, o + 7, none⟩ = some (.int .i64 t.gen) := by
  obtain ⟨b', o', hA, h⟩ := RdM.one h
  injection hA with hA
  injection hA with h1 h2
  subst h1
  subst h2
  exact h
end Go.Proofs.YtidiapfmjalaiaaDoor
