/-
  wear.After: the ways on which it refuses the move.
-/
import Derived.Test.YtidiapfmjalaiaaDoorFind
import Derived.Test.YtidiapfmjalaiaaDoorClone
namespace Go.Proofs.YtidiapfmjalaiaaDoor
open Go.RowKit

def Has3 (w : World) (g : Nat) (v0 v1 v2 : Value) : Prop :=
  (w.cell? ⟨g, 0, none⟩ = some v0 ∧ w.cell? ⟨g, 1, none⟩ = some v1 ∧ w.cell? ⟨g, 2, none⟩ = some v2) ∧
  (w.frozen? ⟨g, 0, none⟩ = false ∧ w.frozen? ⟨g, 1, none⟩ = false ∧ w.frozen? ⟨g, 2, none⟩ = false)
theorem Cl.has3 {w : World} {g : Nat} {t : TypeId} {v0 v1 v2 : Value} (h : Cl w g t #[v0, v1, v2]) : Has3 w g v0 v1 v2 :=
  ⟨⟨h.cell 0, h.cell 1, h.cell 2⟩, ⟨h.free 0, h.free 1, h.free 2⟩⟩
def Has8 (w : World) (g : Nat) (v0 v1 v2 v3 v4 v5 v6 v7 : Value) : Prop :=
  w.cell? ⟨g, 0, none⟩ = some v0 ∧ w.cell? ⟨g, 1, none⟩ = some v1 ∧ w.cell? ⟨g, 2, none⟩ = some v2 ∧ w.cell? ⟨g, 3, none⟩ = some v3 ∧
  w.cell? ⟨g, 4, none⟩ = some v4 ∧ w.cell? ⟨g, 5, none⟩ = some v5 ∧ w.cell? ⟨g, 6, none⟩ = some v6 ∧ w.cell? ⟨g, 7, none⟩ = some v7
theorem Cl.has8 {w : World} {g : Nat} {t : TypeId} {v0 v1 v2 v3 v4 v5 v6 v7 : Value} (h : Cl w g t #[v0, v1, v2, v3, v4, v5, v6, v7]) : Has8 w g v0 v1 v2 v3 v4 v5 v6 v7 :=
  ⟨h.cell 0, h.cell 1, h.cell 2, h.cell 3, h.cell 4, h.cell 5, h.cell 6, h.cell 7⟩

/-- A picture that was returned, with an error number. -/
def PicPost (w : World) (cs : List Int) (bs : List Bk) (ds : List Int) (err : Int) (e : Ending) (w' : World) : Prop :=
  ∃ ch bl bd, e = .returned (.tuple #[.agg #[ch, bl, bd], .int .i64 err]) ∧ RdI w' ch cs ∧ RdB w' bl bs ∧ RdI w' bd ds ∧ Below w.heap.size w w'

set_option maxRecDepth 100000 in
set_option maxHeartbeats 1000000 in
theorem after_no_calls (w : World) (ch bl bd : Value) (f t : Bk) (h : f.cls ≠ t.cls ∨ f.kind = 0 ∨ t.kind ≠ 0) :
    Calls Tryd.prog 11 #[.agg #[ch, bl, bd], .agg (#[.int .i64 (Bk.line f), .int .i64 (Bk.cls f), .int .i64 (Bk.kind f), .int .i64 (Bk.gen f)] ++ #[.int .i64 (Bk.line t), .int .i64 (Bk.cls t), .int .i64 (Bk.kind t), .int .i64 (Bk.gen t)])] w (PicPost w [] [] [] 1) := by
  simp only [List.append_toArray, List.cons_append, List.nil_append]
  by_cases h1 : f.cls = t.cls
  · by_cases h2 : f.kind = 0
    · have b1 : (f.cls != t.cls) = false := by simp [h1]
      have b2 : (f.kind == 0) = true := by simp [h2]
      clear h h1 h2
      go_enter Tryd.func11, Tryd.ntmps11
      go_wp2_with fail
      refine bodyPost_ret (v := .tuple #[.agg #[.slice none 0 0, .slice none 0 0, .slice none 0 0], .int .i64 1]) ?_ rfl ⟨_, _, _, rfl, Rd.nil_ _ _ _, Rd.nil_ _ _ _, Rd.nil_ _ _ _, ?_⟩
      · simp [results, Tryd.results11, go_sem, *]
      · (repeat (first | with_reducible exact Below.refl _ _ | with_reducible assumption | with_reducible refine below_drewN ?_ _ | with_reducible refine Below.drew ?_ | with_reducible refine Below.alloc ?_ (by first | omega | (simp; omega) | simp) _ | with_reducible refine Below.setCell ?_ (by first | omega | (simp; omega) | simp) _))
    · have h3 : t.kind ≠ 0 := by rcases h with h | h | h <;> simp_all
      have b1 : (f.cls != t.cls) = false := by simp [h1]
      have b2 : (f.kind == 0) = false := by simp [h2]
      have b3 : (t.kind != 0) = true := by simp [h3]
      clear h h1 h2 h3
      go_enter Tryd.func11, Tryd.ntmps11
      go_wp2_with fail
      refine bodyPost_ret (v := .tuple #[.agg #[.slice none 0 0, .slice none 0 0, .slice none 0 0], .int .i64 1]) ?_ rfl ⟨_, _, _, rfl, Rd.nil_ _ _ _, Rd.nil_ _ _ _, Rd.nil_ _ _ _, ?_⟩
      · simp [results, Tryd.results11, go_sem, *]
      · (repeat (first | with_reducible exact Below.refl _ _ | with_reducible assumption | with_reducible refine below_drewN ?_ _ | with_reducible refine Below.drew ?_ | with_reducible refine Below.alloc ?_ (by first | omega | (simp; omega) | simp) _ | with_reducible refine Below.setCell ?_ (by first | omega | (simp; omega) | simp) _))
  · have b1 : (f.cls != t.cls) = true := by simp [h1]
    clear h h1
    go_enter Tryd.func11, Tryd.ntmps11
    go_wp2_with fail
    refine bodyPost_ret (v := .tuple #[.agg #[.slice none 0 0, .slice none 0 0, .slice none 0 0], .int .i64 1]) ?_ rfl ⟨_, _, _, rfl, Rd.nil_ _ _ _, Rd.nil_ _ _ _, Rd.nil_ _ _ _, ?_⟩
    · simp [results, Tryd.results11, go_sem, *]
    · (repeat (first | with_reducible exact Below.refl _ _ | with_reducible assumption | with_reducible refine below_drewN ?_ _ | with_reducible refine Below.drew ?_ | with_reducible refine Below.alloc ?_ (by first | omega | (simp; omega) | simp) _ | with_reducible refine Below.setCell ?_ (by first | omega | (simp; omega) | simp) _))

set_option maxRecDepth 100000 in
set_option maxHeartbeats 1000000 in
theorem after_out_calls (w : World) (ch bl bd : Value) (bs : List Bk) (f t : Bk) (hR : RdB w bl bs) (hn : bs.length ≤ 1000) (h1 : f.cls = t.cls) (h2 : f.kind ≠ 0) (h3 : t.kind = 0) (h : ¬ (f ∈ bs ∧ t ∈ bs)) :
    Calls Tryd.prog 11 #[.agg #[ch, bl, bd], .agg (#[.int .i64 (Bk.line f), .int .i64 (Bk.cls f), .int .i64 (Bk.kind f), .int .i64 (Bk.gen f)] ++ #[.int .i64 (Bk.line t), .int .i64 (Bk.cls t), .int .i64 (Bk.kind t), .int .i64 (Bk.gen t)])] w (PicPost w [] [] [] 1) := by
  simp only [List.append_toArray, List.cons_append, List.nil_append]
  have b1 : (f.cls != t.cls) = false := by simp [h1]
  have b2 : (f.kind == 0) = false := by simp [h2]
  have b3 : (t.kind != 0) = false := by simp [h3]
  clear h1 h2 h3
  go_enter Tryd.func11, Tryd.ntmps11
  go_wp2_with fail
  refine (contains_calls _ _ bs f (hR.below (by (repeat (first | with_reducible exact Below.refl _ _ | with_reducible assumption | with_reducible refine below_drewN ?_ _ | with_reducible refine Below.drew ?_ | with_reducible refine Below.alloc ?_ (by first | omega | (simp; omega) | simp) _ | with_reducible refine Below.setCell ?_ (by first | omega | (simp; omega) | simp) _)))) hn).mono ?_
  rintro e w1 ⟨rfl, hb1⟩
  have hb : Below w.heap.size w w1 := Below.trans (by (repeat (first | with_reducible exact Below.refl _ _ | with_reducible assumption | with_reducible refine below_drewN ?_ _ | with_reducible refine Below.drew ?_ | with_reducible refine Below.alloc ?_ (by first | omega | (simp; omega) | simp) _ | with_reducible refine Below.setCell ?_ (by first | omega | (simp; omega) | simp) _))) (hb1.mono (by simp; omega))
  have hP : Cl w1 w.heap.size 27 #[ch, bl, bd] := (((Cl.new_ _ _ _ _ rfl).alloc _).alloc _).below hb1 (by simp; omega)
  have hM : Cl w1 (w.heap.size + 1) 46 (#[.int .i64 (Bk.line f), .int .i64 (Bk.cls f), .int .i64 (Bk.kind f), .int .i64 (Bk.gen f)] ++ #[.int .i64 (Bk.line t), .int .i64 (Bk.cls t), .int .i64 (Bk.kind t), .int .i64 (Bk.gen t)]) := ((Cl.new_ _ _ _ _ (by simp)).alloc _).below hb1 (by simp)
  have hZ : Cl w1 (w.heap.size + 2) 27 #[.slice none 0 0, .slice none 0 0, .slice none 0 0] := (Cl.new_ _ _ _ _ (by simp)).below hb1 (by simp)
  clear hb1
  by_cases hf : f ∈ bs
  · have ht : ¬ t ∈ bs := fun ht => h ⟨hf, ht⟩
    simp only [decide_eq_true hf]
    obtain ⟨⟨p0, p1, p2⟩, -⟩ := hP.has3
    obtain ⟨m0, m1, m2, m3, m4, m5, m6, m7⟩ := hM.has8
    clear h hf
    go_wp2_with fail
    refine (contains_calls _ _ bs t (hR.below (by (repeat (first | with_reducible exact Below.refl _ _ | with_reducible assumption | with_reducible refine below_drewN ?_ _ | with_reducible refine Below.drew ?_ | with_reducible refine Below.alloc ?_ (by first | omega | (simp; omega) | simp) _ | with_reducible refine Below.setCell ?_ (by first | omega | (simp; omega) | simp) _)))) hn).mono ?_
    rintro e w2 ⟨rfl, hb2⟩
    simp only [decide_eq_false ht]
    have hbb : Below w.heap.size w w2 := hb.trans (hb2.mono hb.size)
    have hZ2 := hZ.below hb2 hZ.lt
    obtain ⟨⟨z0, z1, z2⟩, u0, u1, u2⟩ := hZ2.has3
    clear hb hb2 hZ hP hM p0 p1 p2 m0 m1 m2 m3 m4 m5 m6 m7
    have hs := hZ2.lt
    go_wp2_with fail
    refine bodyPost_ret (v := .tuple #[.agg #[.slice none 0 0, .slice none 0 0, .slice none 0 0], .int .i64 1]) ?_ rfl ⟨_, _, _, rfl, Rd.nil_ _ _ _, Rd.nil_ _ _ _, Rd.nil_ _ _ _, ?_⟩
    · simp [results, Tryd.results11, go_sem, *]
    · (repeat (first | with_reducible exact Below.refl _ _ | with_reducible assumption | with_reducible refine below_drewN ?_ _ | with_reducible refine Below.drew ?_ | with_reducible refine Below.alloc ?_ (by first | omega | (simp; omega) | simp) _ | with_reducible refine Below.setCell ?_ (by first | omega | (simp; omega) | simp) _))
  · simp only [decide_eq_false hf]
    obtain ⟨⟨z0, z1, z2⟩, u0, u1, u2⟩ := hZ.has3
    have hs := hZ.lt
    clear hP hM h hf
    go_wp2_with fail
    refine bodyPost_ret (v := .tuple #[.agg #[.slice none 0 0, .slice none 0 0, .slice none 0 0], .int .i64 1]) ?_ rfl ⟨_, _, _, rfl, Rd.nil_ _ _ _, Rd.nil_ _ _ _, Rd.nil_ _ _ _, ?_⟩
    · simp [results, Tryd.results11, go_sem, *]
    · (repeat (first | with_reducible exact Below.refl _ _ | with_reducible assumption | with_reducible refine below_drewN ?_ _ | with_reducible refine Below.drew ?_ | with_reducible refine Below.alloc ?_ (by first | omega | (simp; omega) | simp) _ | with_reducible refine Below.setCell ?_ (by first | omega | (simp; omega) | simp) _))
end Go.Proofs.YtidiapfmjalaiaaDoor
