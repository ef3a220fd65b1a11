/-
  class.Scan at the two memories of the examples.
-/
import Derived.Test.YtckamjbdogpacaaGreatDoorView
import Derived.Test.YtckamjbdogpacaaGreatDoorPtr
import Derived.LoopN
namespace Go.Proofs.YtckamjbdogpacaaGreatDoor
open Go.RowKit
set_option linter.unusedSimpArgs false
set_option linter.unusedVariables false

/-- What Scan has made so far: the chunks and the blocks of its picture. -/
def ScSt (w wr : World) (A : Option Addr) (c : Nat) (B : Option Addr) (d : Nat) (cs : List Int) (bs : List Bk) : Prop :=
  Cl wr w.heap.size 29 #[.int .i64 64, .int .i64 2, .int .i64 8, .int .i64 10, .int .i64 4, .int .i64 14, .int .i64 16, .int .i64 3] ∧ Cl wr (w.heap.size + 1) 40 #[.slice none 0 0, .slice none 0 0, .slice none 0 0] ∧
  Cl wr (w.heap.size + 1 + 1) 40 #[.slice A cs.length c, .slice B bs.length d, .slice none 0 0] ∧
  wr.ownsRow w.heap.size 3 1 (.slice A cs.length c) cs.length (cs.map (Value.int .i64)) ∧ wr.ownsRow w.heap.size 43 4 (.slice B bs.length d) bs.length (bksCells bs) ∧ Below w.heap.size w wr

theorem rd2_at {w : World} {A : Option Addr} {n cx : Nat} {x y : Int} (h : RdI w (.slice A n cx) [x, y]) : ∃ gs so, A = some ⟨gs, so, none⟩ := by
  obtain ⟨_, A', c', hv, _, _, _, h2⟩ := h
  obtain ⟨b, o, _, _, hA, _⟩ := h2 (by simp)
  injection hv with e1 _ _
  exact ⟨b, o, e1.trans hA⟩
theorem rd2 {w : World} {gs so cx : Nat} {x y : Int} (h : RdI w (.slice (some ⟨gs, so, none⟩) 2 cx) [x, y]) : gs < w.heap.size ∧ w.cell? ⟨gs, so, none⟩ = some (.int .i64 x) ∧ w.cell? ⟨gs, so + 1, none⟩ = some (.int .i64 y) := by
  obtain ⟨Ay, cy, hv, _, hcell⟩ := h.at_
  injection hv with e1 _ _
  subst e1
  obtain ⟨gs', so', hA, hsl, hc0⟩ := hcell 0 (by simp)
  injection hA with hA
  injection hA with e1 e2 _
  subst e1 e2
  obtain ⟨gs', so', hA, _, hc1⟩ := hcell 1 (by simp)
  injection hA with hA
  injection hA with e1 e2 _
  subst e1 e2
  exact ⟨hsl, hc0 x rfl, hc1 y rfl⟩

theorem ScSt.below {w wr wr' : World} {A : Option Addr} {c : Nat} {B : Option Addr} {d : Nat} {cs : List Int} {bs : List Bk} (h : ScSt w wr A c B d cs bs) (hb : Below wr.heap.size wr wr') : ScSt w wr' A c B d cs bs := by
  obtain ⟨h1, h2, h3, h4, h5, h6⟩ := h
  exact ⟨h1.below hb h1.lt, h2.below hb h2.lt, h3.below hb h3.lt, own_below h4 hb, own_below h5 hb, h6.trans (hb.mono h6.size)⟩
theorem ScSt.chunk {w wr wq : World} {A : Option Addr} {c : Nat} {B : Option Addr} {d : Nat} {cs : List Int} {bs : List Bk} (h : ScSt w wr A c B d cs bs) (v : Int) (Aq : Option Addr) (cq : Nat)
    (ho : wq.ownsRow w.heap.size 3 1 (.slice Aq (cs.length + 1) cq) (cs.length + 1) (cs.map (Value.int .i64) ++ [.int .i64 v])) (hg : Grew w.heap.size 3 wr wq) :
    ScSt w (wq.setCell ⟨w.heap.size + 1 + 1, 0, none⟩ (.slice Aq (cs.length + 1) cq)) Aq cq B d (cs ++ [v]) bs := by
  obtain ⟨h1, h2, h3, h4, h5, h6⟩ := h
  have k3 := hg.cl h3 (.inl (by decide))
  have hs := h6.size
  refine ⟨(hg.cl h1 (.inl (by decide))).far (by simp; omega) _, (hg.cl h2 (.inl (by decide))).far (by simp) _, ?_, ?_, own_far (hg.own h5 (by decide)) k3 (by decide) _ _, Below.setCell (hg.below h6 hs (Nat.le_refl _)) (by simp; omega) _⟩
  · rw [List.length_append]; exact k3.set_ 0 _
  · rw [List.length_append, List.map_append]; exact own_far ho k3 (by decide) _ _
theorem ScSt.block {w wr wq : World} {A : Option Addr} {c : Nat} {B : Option Addr} {d : Nat} {cs : List Int} {bs : List Bk} (h : ScSt w wr A c B d cs bs) (b : Bk) (Bq : Option Addr) (dq : Nat)
    (ho : wq.ownsRow w.heap.size 43 4 (.slice Bq (bs.length + 1) dq) (bs.length + 1) (bksCells bs ++ bkCells b)) (hg : Grew w.heap.size 43 wr wq) :
    ScSt w (wq.setCell ⟨w.heap.size + 1 + 1, 1, none⟩ (.slice Bq (bs.length + 1) dq)) A c Bq dq cs (bs ++ [b]) := by
  obtain ⟨h1, h2, h3, h4, h5, h6⟩ := h
  have k3 := hg.cl h3 (.inl (by decide))
  have hs := h6.size
  refine ⟨(hg.cl h1 (.inl (by decide))).far (by simp; omega) _, (hg.cl h2 (.inl (by decide))).far (by simp) _, ?_, own_far (hg.own h4 (by decide)) k3 (by decide) _ _, ?_, Below.setCell (hg.below h6 hs (Nat.le_refl _)) (by simp; omega) _⟩
  · rw [List.length_append]; exact k3.set_ 1 _
  · rw [List.length_append, show bksCells (bs ++ [b]) = bksCells bs ++ bkCells b by simp [bksCells]]; exact own_far ho k3 (by decide) _ _


set_option maxRecDepth 100000 in
set_option maxHeartbeats 4000000 in
theorem scanE (base : Nat) (w : World) (gm : Nat) (P : Nat → List (Nat × Int)) (E : Nat) (hM : MemIs base w gm 64 P E) (h0 : sh (P 14) 0 = 0) (h1 : sh (P 14) 1 = 0) (h2 : sh (P 14) 2 = 0) (p14 : ∀ p ∈ P 14, p.1 < 8) :
    Calls Tryz.prog 6 #[.pointer (some ⟨gm, 0, none⟩), .agg #[.int .i64 64, .int .i64 2, .int .i64 8, .int .i64 10, .int .i64 4, .int .i64 14, .int .i64 16, .int .i64 3]] w (PicOne w [-1, -1, -1] [] []) := by
  obtain ⟨j0, hj0, hy0, hy1, hy2⟩ := info_parts int_info
  obtain ⟨i0, hi0, hz0, hz1, hz2⟩ := info_parts blk_info
  have HM := Lib.hid hM
  have H14 := Lib.hid p14
  have H0 := Lib.hid h0
  have H1 := Lib.hid h1
  have H2 := Lib.hid h2
  clear p14 h0 h1 h2 hM
  have n5 : ¬ w.heap.size = w.heap.size + 1 + 1 := by omega
  have n6 : ¬ w.heap.size + 1 + 1 = w.heap.size := by omega
  go_enter Tryz.func6, Tryz.ntmps6
  go_upto_region 2 with (fail)
  generalize hwn : ((w.alloc (.cells #[.int .i64 64, .int .i64 2, .int .i64 8, .int .i64 10, .int .i64 4, .int .i64 14, .int .i64 16, .int .i64 3] 29)).alloc (.cells #[.slice none 0 0, .slice none 0 0, .slice none 0 0] 40)).alloc (.cells #[.slice none 0 0, .slice none 0 0, .slice none 0 0] 40) = w0
  have hs : ScSt w w0 none 0 none 0 [] [] := by
    rw [← hwn]
    exact ⟨((Cl.new _ _ _).alloc _).alloc _, (Cl.new_ _ _ _ _ (by simp)).alloc _, Cl.new_ _ _ _ _ (by simp), World.ownsRow_nil _ _ _ _, World.ownsRow_nil _ _ _ _, by (repeat (first | with_reducible exact Below.refl _ _ | with_reducible assumption | with_reducible refine below_drewN ?_ _ | with_reducible refine Below.drew ?_ | with_reducible refine Below.alloc ?_ (by first | omega | (simp; omega) | simp) _ | with_reducible refine Below.setCell ?_ (by first | omega | (simp; omega) | simp) _))⟩
  clear hwn
  obtain ⟨hL, hZ, hP, hO, hQ, hB⟩ := id hs
  obtain ⟨y0, y1, y2, y3, y4, y5, y6, y7⟩ := hL.cells8
  have p0 := hP.cell 0
  have p1 := hP.cell 1
  simp only [List.getElem?_toArray, List.getElem?_cons_succ, List.getElem?_cons_zero, List.length_nil, List.length_cons, Nat.zero_add, Nat.reduceAdd, List.length_append] at p0 p1
  have ll := hL.lt
  have lp := hP.lt
  go_wp2_with fail
  refine wp_loop_rounds 4 ?_
  rw [rounds_succ]
  go_wp2_with fail
  refine (Assigned_calls base _ gm 64 14 0 P E (HM.out.below hB) 64 2 8 10 4 14 16 3 0 (by omega) (by omega) (by omega) (by omega) (by omega) (by omega) (by omega) (by omega) H14.out (by rw [H0.out]; omega) (by rw [H0.out]; omega)).mono ?_
  rintro e v2 ⟨rfl, hb⟩
  rw [H0.out]
  replace hs := hs.below hb
  clear hL hZ hP hO hQ hB y0 y1 y2 y3 y4 y5 y6 y7 p0 p1 ll lp hb
  obtain ⟨hL, hZ, hP, hO, hQ, hB⟩ := id hs
  obtain ⟨y0, y1, y2, y3, y4, y5, y6, y7⟩ := hL.cells8
  have p0 := hP.cell 0
  have p1 := hP.cell 1
  simp only [List.getElem?_toArray, List.getElem?_cons_succ, List.getElem?_cons_zero, List.length_nil, List.length_cons, Nat.zero_add, Nat.reduceAdd, List.length_append] at p0 p1
  have ll := hL.lt
  have lp := hP.lt
  go_upto_region 9 with (at_builtin; refine wpList_append1 rfl (.tmp 29) (.tmp 31) 37 rfl (w.heap.size) 3 j0 _ 1 8 Tryz.underlying37 hj0 hy0 hy1 hy2 rfl (by decide) (by decide) _ (0) (([] : List Int).map (Value.int .i64)) rfl (hO.alloc _) (by omega) (v2.heap.size) #[.int .i64 (-1)] rfl (Cl.new_ _ _ _ _ (by simp)) rfl (by simp [Value.oneCell']) (by simp; omega) ?_; intro Aq cq wq ownq grq; (have hq := (ScSt.chunk (hs.below (by (repeat (first | with_reducible exact Below.refl _ _ | with_reducible assumption | with_reducible refine below_drewN ?_ _ | with_reducible refine Below.drew ?_ | with_reducible refine Below.alloc ?_ (by first | omega | (simp; omega) | simp) _ | with_reducible refine Below.setCell ?_ (by first | omega | (simp; omega) | simp) _)))) (-1) Aq cq ownq grq)); (have kP := grq.cl (hP.alloc _) (.inl (by decide))); (have k0 : wq.cell? ⟨w.heap.size + 1 + 1, 0, none⟩ = some (.slice none 0 0) := kP.cell 0); (have k1 := kP.free 0); (have k2 := kP.lt))
  clear ownq grq kP k0 k1 k2 hs
  have hs : ScSt w _ Aq cq none 0 [-1] [] := hq
  clear hq
  generalize (wq.setCell ⟨w.heap.size + 1 + 1, 0, none⟩ (.slice Aq 1 cq)) = v3 at *
  obtain ⟨A0, eA0⟩ : ∃ x, x = Aq := ⟨_, rfl⟩
  obtain ⟨c0, ec0⟩ : ∃ x, x = cq := ⟨_, rfl⟩
  subst eA0 ec0
  clear hL hZ hP hO hQ hB y0 y1 y2 y3 y4 y5 y6 y7 p0 p1 ll lp
  obtain ⟨hL, hZ, hP, hO, hQ, hB⟩ := id hs
  obtain ⟨y0, y1, y2, y3, y4, y5, y6, y7⟩ := hL.cells8
  have p0 := hP.cell 0
  have p1 := hP.cell 1
  simp only [List.getElem?_toArray, List.getElem?_cons_succ, List.getElem?_cons_zero, List.length_nil, List.length_cons, Nat.zero_add, Nat.reduceAdd, List.length_append] at p0 p1
  have ll := hL.lt
  have lp := hP.lt
  go_wp2_with fail
  refine (starts_out _ #[.int .i64 64, .int .i64 2, .int .i64 8, .int .i64 10, .int .i64 4, .int .i64 14, .int .i64 16, .int .i64 3] 0 (-1) (by omega)).mono ?_
  rintro e v4 ⟨Ax, cx, rfl, -, hb⟩
  simp only [List.length_nil]
  replace hs := hs.below hb
  clear hL hZ hP hO hQ hB y0 y1 y2 y3 y4 y5 y6 y7 p0 p1 ll lp hb
  obtain ⟨hL, hZ, hP, hO, hQ, hB⟩ := id hs
  obtain ⟨y0, y1, y2, y3, y4, y5, y6, y7⟩ := hL.cells8
  have p0 := hP.cell 0
  have p1 := hP.cell 1
  simp only [List.getElem?_toArray, List.getElem?_cons_succ, List.getElem?_cons_zero, List.length_nil, List.length_cons, Nat.zero_add, Nat.reduceAdd, List.length_append] at p0 p1
  have ll := hL.lt
  have lp := hP.lt
  go_wp2_with fail
  refine wp_loop_rounds 1 ?_
  rw [rounds_succ]
  go_wp2_with fail
  rw [rounds_succ]
  go_wp2_with fail
  refine (Assigned_calls base _ gm 64 14 1 P E (HM.out.below hB) 64 2 8 10 4 14 16 3 1 (by omega) (by omega) (by omega) (by omega) (by omega) (by omega) (by omega) (by omega) H14.out (by rw [H1.out]; omega) (by rw [H1.out]; omega)).mono ?_
  rintro e v5 ⟨rfl, hb⟩
  rw [H1.out]
  replace hs := hs.below hb
  clear hL hZ hP hO hQ hB y0 y1 y2 y3 y4 y5 y6 y7 p0 p1 ll lp hb
  obtain ⟨hL, hZ, hP, hO, hQ, hB⟩ := id hs
  obtain ⟨y0, y1, y2, y3, y4, y5, y6, y7⟩ := hL.cells8
  have p0 := hP.cell 0
  have p1 := hP.cell 1
  simp only [List.getElem?_toArray, List.getElem?_cons_succ, List.getElem?_cons_zero, List.length_nil, List.length_cons, Nat.zero_add, Nat.reduceAdd, List.length_append] at p0 p1
  have ll := hL.lt
  have lp := hP.lt
  go_upto_region 9 with (at_builtin; refine wpList_append1 rfl (.tmp 29) (.tmp 31) 37 rfl (w.heap.size) 3 j0 _ 1 8 Tryz.underlying37 hj0 hy0 hy1 hy2 rfl (by decide) (by decide) _ (1) (([-1] : List Int).map (Value.int .i64)) rfl (hO.alloc _) (by omega) (v5.heap.size) #[.int .i64 (-1)] rfl (Cl.new_ _ _ _ _ (by simp)) rfl (by simp [Value.oneCell']) (by simp; omega) ?_; intro Aq cq wq ownq grq; (have hq := (ScSt.chunk (hs.below (by (repeat (first | with_reducible exact Below.refl _ _ | with_reducible assumption | with_reducible refine below_drewN ?_ _ | with_reducible refine Below.drew ?_ | with_reducible refine Below.alloc ?_ (by first | omega | (simp; omega) | simp) _ | with_reducible refine Below.setCell ?_ (by first | omega | (simp; omega) | simp) _)))) (-1) Aq cq ownq grq)); (have kP := grq.cl (hP.alloc _) (.inl (by decide))); (have k0 : wq.cell? ⟨w.heap.size + 1 + 1, 0, none⟩ = some (.slice A0 1 c0) := kP.cell 0); (have k1 := kP.free 0); (have k2 := kP.lt))
  clear ownq grq kP k0 k1 k2 hs
  have hs : ScSt w _ Aq cq none 0 [-1, -1] [] := hq
  clear hq
  generalize (wq.setCell ⟨w.heap.size + 1 + 1, 0, none⟩ (.slice Aq 2 cq)) = v6 at *
  obtain ⟨A1, eA1⟩ : ∃ x, x = Aq := ⟨_, rfl⟩
  obtain ⟨c1, ec1⟩ : ∃ x, x = cq := ⟨_, rfl⟩
  subst eA1 ec1
  clear hL hZ hP hO hQ hB y0 y1 y2 y3 y4 y5 y6 y7 p0 p1 ll lp
  obtain ⟨hL, hZ, hP, hO, hQ, hB⟩ := id hs
  obtain ⟨y0, y1, y2, y3, y4, y5, y6, y7⟩ := hL.cells8
  have p0 := hP.cell 0
  have p1 := hP.cell 1
  simp only [List.getElem?_toArray, List.getElem?_cons_succ, List.getElem?_cons_zero, List.length_nil, List.length_cons, Nat.zero_add, Nat.reduceAdd, List.length_append] at p0 p1
  have ll := hL.lt
  have lp := hP.lt
  go_wp2_with fail
  refine (starts_out _ #[.int .i64 64, .int .i64 2, .int .i64 8, .int .i64 10, .int .i64 4, .int .i64 14, .int .i64 16, .int .i64 3] 1 (-1) (by omega)).mono ?_
  rintro e v7 ⟨Ax, cx, rfl, -, hb⟩
  simp only [List.length_nil]
  replace hs := hs.below hb
  clear hL hZ hP hO hQ hB y0 y1 y2 y3 y4 y5 y6 y7 p0 p1 ll lp hb
  obtain ⟨hL, hZ, hP, hO, hQ, hB⟩ := id hs
  obtain ⟨y0, y1, y2, y3, y4, y5, y6, y7⟩ := hL.cells8
  have p0 := hP.cell 0
  have p1 := hP.cell 1
  simp only [List.getElem?_toArray, List.getElem?_cons_succ, List.getElem?_cons_zero, List.length_nil, List.length_cons, Nat.zero_add, Nat.reduceAdd, List.length_append] at p0 p1
  have ll := hL.lt
  have lp := hP.lt
  go_wp2_with fail
  refine wp_loop_rounds 1 ?_
  rw [rounds_succ]
  go_wp2_with fail
  rw [rounds_succ]
  go_wp2_with fail
  refine (Assigned_calls base _ gm 64 14 2 P E (HM.out.below hB) 64 2 8 10 4 14 16 3 2 (by omega) (by omega) (by omega) (by omega) (by omega) (by omega) (by omega) (by omega) H14.out (by rw [H2.out]; omega) (by rw [H2.out]; omega)).mono ?_
  rintro e v8 ⟨rfl, hb⟩
  rw [H2.out]
  replace hs := hs.below hb
  clear hL hZ hP hO hQ hB y0 y1 y2 y3 y4 y5 y6 y7 p0 p1 ll lp hb
  obtain ⟨hL, hZ, hP, hO, hQ, hB⟩ := id hs
  obtain ⟨y0, y1, y2, y3, y4, y5, y6, y7⟩ := hL.cells8
  have p0 := hP.cell 0
  have p1 := hP.cell 1
  simp only [List.getElem?_toArray, List.getElem?_cons_succ, List.getElem?_cons_zero, List.length_nil, List.length_cons, Nat.zero_add, Nat.reduceAdd, List.length_append] at p0 p1
  have ll := hL.lt
  have lp := hP.lt
  go_upto_region 9 with (at_builtin; refine wpList_append1 rfl (.tmp 29) (.tmp 31) 37 rfl (w.heap.size) 3 j0 _ 1 8 Tryz.underlying37 hj0 hy0 hy1 hy2 rfl (by decide) (by decide) _ (2) (([-1, -1] : List Int).map (Value.int .i64)) rfl (hO.alloc _) (by omega) (v8.heap.size) #[.int .i64 (-1)] rfl (Cl.new_ _ _ _ _ (by simp)) rfl (by simp [Value.oneCell']) (by simp; omega) ?_; intro Aq cq wq ownq grq; (have hq := (ScSt.chunk (hs.below (by (repeat (first | with_reducible exact Below.refl _ _ | with_reducible assumption | with_reducible refine below_drewN ?_ _ | with_reducible refine Below.drew ?_ | with_reducible refine Below.alloc ?_ (by first | omega | (simp; omega) | simp) _ | with_reducible refine Below.setCell ?_ (by first | omega | (simp; omega) | simp) _)))) (-1) Aq cq ownq grq)); (have kP := grq.cl (hP.alloc _) (.inl (by decide))); (have k0 : wq.cell? ⟨w.heap.size + 1 + 1, 0, none⟩ = some (.slice A1 2 c1) := kP.cell 0); (have k1 := kP.free 0); (have k2 := kP.lt))
  clear ownq grq kP k0 k1 k2 hs
  have hs : ScSt w _ Aq cq none 0 [-1, -1, -1] [] := hq
  clear hq
  generalize (wq.setCell ⟨w.heap.size + 1 + 1, 0, none⟩ (.slice Aq 3 cq)) = v9 at *
  obtain ⟨A2, eA2⟩ : ∃ x, x = Aq := ⟨_, rfl⟩
  obtain ⟨c2, ec2⟩ : ∃ x, x = cq := ⟨_, rfl⟩
  subst eA2 ec2
  clear hL hZ hP hO hQ hB y0 y1 y2 y3 y4 y5 y6 y7 p0 p1 ll lp
  obtain ⟨hL, hZ, hP, hO, hQ, hB⟩ := id hs
  obtain ⟨y0, y1, y2, y3, y4, y5, y6, y7⟩ := hL.cells8
  have p0 := hP.cell 0
  have p1 := hP.cell 1
  simp only [List.getElem?_toArray, List.getElem?_cons_succ, List.getElem?_cons_zero, List.length_nil, List.length_cons, Nat.zero_add, Nat.reduceAdd, List.length_append] at p0 p1
  have ll := hL.lt
  have lp := hP.lt
  go_wp2_with fail
  refine (starts_out _ #[.int .i64 64, .int .i64 2, .int .i64 8, .int .i64 10, .int .i64 4, .int .i64 14, .int .i64 16, .int .i64 3] 2 (-1) (by omega)).mono ?_
  rintro e v10 ⟨Ax, cx, rfl, -, hb⟩
  simp only [List.length_nil]
  replace hs := hs.below hb
  clear hL hZ hP hO hQ hB y0 y1 y2 y3 y4 y5 y6 y7 p0 p1 ll lp hb
  obtain ⟨hL, hZ, hP, hO, hQ, hB⟩ := id hs
  obtain ⟨y0, y1, y2, y3, y4, y5, y6, y7⟩ := hL.cells8
  have p0 := hP.cell 0
  have p1 := hP.cell 1
  simp only [List.getElem?_toArray, List.getElem?_cons_succ, List.getElem?_cons_zero, List.length_nil, List.length_cons, Nat.zero_add, Nat.reduceAdd, List.length_append] at p0 p1
  have ll := hL.lt
  have lp := hP.lt
  go_wp2_with fail
  refine wp_loop_rounds 1 ?_
  rw [rounds_succ]
  go_wp2_with fail
  have p2 := hP.cell 2
  simp only [List.getElem?_toArray, List.getElem?_cons_succ, List.getElem?_cons_zero] at p2
  obtain ⟨⟨z0, z1, z2⟩, ⟨z3, z4, z5⟩⟩ := hZ.has3
  have lz := hZ.lt
  rw [rounds_succ]
  go_wp2_with fail
  refine bodyPost_ret (v := .agg #[.slice A2 3 c2, .slice none 0 0, .slice none 0 0]) ?_ rfl ⟨_, _, _, rfl, ?_, ?_, ?_, by (repeat (first | with_reducible exact Below.refl _ _ | with_reducible assumption | with_reducible refine below_drewN ?_ _ | with_reducible refine Below.drew ?_ | with_reducible refine Below.alloc ?_ (by first | omega | (simp; omega) | simp) _ | with_reducible refine Below.setCell ?_ (by first | omega | (simp; omega) | simp) _))⟩
  · simp [results, Tryz.results6, go_sem, *]
  · exact Rd.far (Rd.far (Rd.far (Rd.own hO) hZ (by decide) 0 _) (hZ.set_ 0 _) (by decide) 1 _) ((hZ.set_ 0 _).set_ 1 _) (by decide) 2 _
  · exact Rd.far (Rd.far (Rd.far (Rd.own hQ) hZ (by decide) 0 _) (hZ.set_ 0 _) (by decide) 1 _) ((hZ.set_ 0 _).set_ 1 _) (by decide) 2 _
  · exact Rd.nil_ _ _ _

set_option maxRecDepth 100000 in
set_option maxHeartbeats 4000000 in
theorem scanF (base : Nat) (w : World) (gm : Nat) (P : Nat → List (Nat × Int)) (E : Nat) (hM : MemIs base w gm 64 P E) (h0 : sh (P 14) 0 = 4) (h1 : sh (P 14) 1 = 0) (h2 : sh (P 14) 2 = 0) (p14 : ∀ p ∈ P 14, p.1 < 8) (h16 : sh (P 16) 0 = 0) (h24 : sh (P 24) 0 = 306) (p16 : ∀ p ∈ P 16, p.1 < 8) (p24 : ∀ p ∈ P 24, p.1 < 8) (hd : Hd w) :
    Calls Tryz.prog 6 #[.pointer (some ⟨gm, 0, none⟩), .agg #[.int .i64 64, .int .i64 2, .int .i64 8, .int .i64 10, .int .i64 4, .int .i64 14, .int .i64 16, .int .i64 3]] w (PicOne w [3, -1, -1] [(16, 3, 0, 0), (24, 3, 2, 2)] []) := by
  obtain ⟨j0, hj0, hy0, hy1, hy2⟩ := info_parts int_info
  obtain ⟨i0, hi0, hz0, hz1, hz2⟩ := info_parts blk_info
  have HM := Lib.hid hM
  have H14 := Lib.hid p14
  have H0 := Lib.hid h0
  have H1 := Lib.hid h1
  have H2 := Lib.hid h2
  have H16 := Lib.hid h16
  have H24 := Lib.hid h24
  have Q16 := Lib.hid p16
  have Q24 := Lib.hid p24
  have HD := Lib.hid hd
  clear hd p16 p24 h16 h24
  clear p14 h0 h1 h2 hM
  have n5 : ¬ w.heap.size = w.heap.size + 1 + 1 := by omega
  have n6 : ¬ w.heap.size + 1 + 1 = w.heap.size := by omega
  go_enter Tryz.func6, Tryz.ntmps6
  go_upto_region 2 with (fail)
  generalize hwn : ((w.alloc (.cells #[.int .i64 64, .int .i64 2, .int .i64 8, .int .i64 10, .int .i64 4, .int .i64 14, .int .i64 16, .int .i64 3] 29)).alloc (.cells #[.slice none 0 0, .slice none 0 0, .slice none 0 0] 40)).alloc (.cells #[.slice none 0 0, .slice none 0 0, .slice none 0 0] 40) = w0
  have hs : ScSt w w0 none 0 none 0 [] [] := by
    rw [← hwn]
    exact ⟨((Cl.new _ _ _).alloc _).alloc _, (Cl.new_ _ _ _ _ (by simp)).alloc _, Cl.new_ _ _ _ _ (by simp), World.ownsRow_nil _ _ _ _, World.ownsRow_nil _ _ _ _, by (repeat (first | with_reducible exact Below.refl _ _ | with_reducible assumption | with_reducible refine below_drewN ?_ _ | with_reducible refine Below.drew ?_ | with_reducible refine Below.alloc ?_ (by first | omega | (simp; omega) | simp) _ | with_reducible refine Below.setCell ?_ (by first | omega | (simp; omega) | simp) _))⟩
  clear hwn
  obtain ⟨hL, hZ, hP, hO, hQ, hB⟩ := id hs
  obtain ⟨y0, y1, y2, y3, y4, y5, y6, y7⟩ := hL.cells8
  have p0 := hP.cell 0
  have p1 := hP.cell 1
  simp only [List.getElem?_toArray, List.getElem?_cons_succ, List.getElem?_cons_zero, List.length_nil, List.length_cons, Nat.zero_add, Nat.reduceAdd, List.length_append] at p0 p1
  have ll := hL.lt
  have lp := hP.lt
  go_wp2_with fail
  refine wp_loop_rounds 4 ?_
  rw [rounds_succ]
  go_wp2_with fail
  refine (Assigned_calls base _ gm 64 14 0 P E (HM.out.below hB) 64 2 8 10 4 14 16 3 0 (by omega) (by omega) (by omega) (by omega) (by omega) (by omega) (by omega) (by omega) H14.out (by rw [H0.out]; omega) (by rw [H0.out]; omega)).mono ?_
  rintro e v2 ⟨rfl, hb⟩
  rw [H0.out]
  replace hs := hs.below hb
  clear hL hZ hP hO hQ hB y0 y1 y2 y3 y4 y5 y6 y7 p0 p1 ll lp hb
  obtain ⟨hL, hZ, hP, hO, hQ, hB⟩ := id hs
  obtain ⟨y0, y1, y2, y3, y4, y5, y6, y7⟩ := hL.cells8
  have p0 := hP.cell 0
  have p1 := hP.cell 1
  simp only [List.getElem?_toArray, List.getElem?_cons_succ, List.getElem?_cons_zero, List.length_nil, List.length_cons, Nat.zero_add, Nat.reduceAdd, List.length_append] at p0 p1
  have ll := hL.lt
  have lp := hP.lt
  go_upto_region 9 with (at_builtin; refine wpList_append1 rfl (.tmp 29) (.tmp 31) 37 rfl (w.heap.size) 3 j0 _ 1 8 Tryz.underlying37 hj0 hy0 hy1 hy2 rfl (by decide) (by decide) _ (0) (([] : List Int).map (Value.int .i64)) rfl (hO.alloc _) (by omega) (v2.heap.size) #[.int .i64 (3)] rfl (Cl.new_ _ _ _ _ (by simp)) rfl (by simp [Value.oneCell']) (by simp; omega) ?_; intro Aq cq wq ownq grq; (have hq := (ScSt.chunk (hs.below (by (repeat (first | with_reducible exact Below.refl _ _ | with_reducible assumption | with_reducible refine below_drewN ?_ _ | with_reducible refine Below.drew ?_ | with_reducible refine Below.alloc ?_ (by first | omega | (simp; omega) | simp) _ | with_reducible refine Below.setCell ?_ (by first | omega | (simp; omega) | simp) _)))) (3) Aq cq ownq grq)); (have kP := grq.cl (hP.alloc _) (.inl (by decide))); (have k0 : wq.cell? ⟨w.heap.size + 1 + 1, 0, none⟩ = some (.slice none 0 0) := kP.cell 0); (have k1 := kP.free 0); (have k2 := kP.lt))
  clear ownq grq kP k0 k1 k2 hs
  have hs : ScSt w _ Aq cq none 0 [3] [] := hq
  clear hq
  generalize (wq.setCell ⟨w.heap.size + 1 + 1, 0, none⟩ (.slice Aq 1 cq)) = v3 at *
  obtain ⟨A0, eA0⟩ : ∃ x, x = Aq := ⟨_, rfl⟩
  obtain ⟨c0, ec0⟩ : ∃ x, x = cq := ⟨_, rfl⟩
  subst eA0 ec0
  clear hL hZ hP hO hQ hB y0 y1 y2 y3 y4 y5 y6 y7 p0 p1 ll lp
  obtain ⟨hL, hZ, hP, hO, hQ, hB⟩ := id hs
  obtain ⟨y0, y1, y2, y3, y4, y5, y6, y7⟩ := hL.cells8
  have p0 := hP.cell 0
  have p1 := hP.cell 1
  simp only [List.getElem?_toArray, List.getElem?_cons_succ, List.getElem?_cons_zero, List.length_nil, List.length_cons, Nat.zero_add, Nat.reduceAdd, List.length_append] at p0 p1
  have ll := hL.lt
  have lp := hP.lt
  go_wp2_with fail
  refine (starts3 _ 64 2 8 10 4 14 16 3 0 (by omega) (by omega) (by omega) (by omega)).mono ?_
  rintro e v4 ⟨Ax, cx, rfl, hr, hb⟩
  rw [show (chunkSpots 16 0 3).map (·.1) = [16, 24] from rfl] at hr ⊢
  obtain ⟨gs, so, rfl⟩ := rd2_at hr
  have HS : Hid (RdI v4 (.slice (some ⟨gs, so, none⟩) 2 cx) [16, 24]) := hr
  simp only [List.length_cons, List.length_nil, Nat.zero_add, Nat.reduceAdd]
  replace hs := hs.below hb
  clear hr
  clear hL hZ hP hO hQ hB y0 y1 y2 y3 y4 y5 y6 y7 p0 p1 ll lp hb
  obtain ⟨hL, hZ, hP, hO, hQ, hB⟩ := id hs
  obtain ⟨y0, y1, y2, y3, y4, y5, y6, y7⟩ := hL.cells8
  have p0 := hP.cell 0
  have p1 := hP.cell 1
  simp only [List.getElem?_toArray, List.getElem?_cons_succ, List.getElem?_cons_zero, List.length_nil, List.length_cons, Nat.zero_add, Nat.reduceAdd, List.length_append] at p0 p1
  have ll := hL.lt
  have lp := hP.lt
  go_wp2_with fail
  refine wp_loop_rounds 3 ?_
  obtain ⟨sl, st0, st1⟩ := rd2 HS.out
  rw [rounds_succ]
  go_wp2_with fail
  refine (Block16 _ gm (LdsM.of (n := 14) (r := 0) (HM.out.below hB) (by omega) (by omega) (by omega) (by omega) (by omega) H14.out H0.out) (HD.out.below hB) 0 0 0 (LdsM.of (n := 16) (r := 0) (HM.out.below hB) (by omega) (by omega) (by omega) (by omega) (by omega) Q16.out H16.out) (by omega) (by omega) (by omega) (by omega) (by omega) (fun W _ => proper_zero W 3)).mono ?_
  rintro e v5 ⟨rfl, hb⟩
  replace hs := hs.below hb
  have HS' : Hid (RdI v5 (.slice (some ⟨gs, so, none⟩) 2 cx) [16, 24]) := Rd.below HS.out hb
  clear HS sl st0 st1
  clear hL hZ hP hO hQ hB y0 y1 y2 y3 y4 y5 y6 y7 p0 p1 ll lp hb
  obtain ⟨hL, hZ, hP, hO, hQ, hB⟩ := id hs
  obtain ⟨y0, y1, y2, y3, y4, y5, y6, y7⟩ := hL.cells8
  have p0 := hP.cell 0
  have p1 := hP.cell 1
  simp only [List.getElem?_toArray, List.getElem?_cons_succ, List.getElem?_cons_zero, List.length_nil, List.length_cons, Nat.zero_add, Nat.reduceAdd, List.length_append] at p0 p1
  have ll := hL.lt
  have lp := hP.lt
  go_upto_region 13 with (fail)
  generalize hwn : v5.alloc (.cells #[.int .i64 16, .int .i64 3, .int .i64 0, .int .i64 0] 43) = v6
  have hX : Cl v6 v5.heap.size 43 #[.int .i64 16, .int .i64 3, .int .i64 0, .int .i64 0] := by rw [← hwn]; exact Cl.new _ _ _
  have hb : Below v5.heap.size v5 v6 := by rw [← hwn]; (repeat (first | with_reducible exact Below.refl _ _ | with_reducible assumption | with_reducible refine below_drewN ?_ _ | with_reducible refine Below.drew ?_ | with_reducible refine Below.alloc ?_ (by first | omega | (simp; omega) | simp) _ | with_reducible refine Below.setCell ?_ (by first | omega | (simp; omega) | simp) _))
  clear hwn
  replace hs := hs.below hb
  have HS : Hid (RdI v6 (.slice (some ⟨gs, so, none⟩) 2 cx) [16, 24]) := Rd.below HS'.out hb
  clear HS'
  clear hL hZ hP hO hQ hB y0 y1 y2 y3 y4 y5 y6 y7 p0 p1 ll lp hb
  obtain ⟨hL, hZ, hP, hO, hQ, hB⟩ := id hs
  obtain ⟨y0, y1, y2, y3, y4, y5, y6, y7⟩ := hL.cells8
  have p0 := hP.cell 0
  have p1 := hP.cell 1
  simp only [List.getElem?_toArray, List.getElem?_cons_succ, List.getElem?_cons_zero, List.length_nil, List.length_cons, Nat.zero_add, Nat.reduceAdd, List.length_append] at p0 p1
  have ll := hL.lt
  have lp := hP.lt
  obtain ⟨⟨x0, x1, x2, x3⟩, -⟩ := hX.has4
  have lx := hX.lt
  obtain ⟨sl, st0, st1⟩ := rd2 HS.out
  go_upto_region 16 with (at_builtin; refine wpList_append1 rfl (.tmp 53) (.tmp 55) 38 rfl (w.heap.size) 43 i0 _ 4 32 Tryz.underlying38 hi0 hz0 hz1 hz2 rfl (by decide) (by decide) _ (0) (bksCells []) rfl (hQ.alloc _) (by omega) (v6.heap.size) #[.int .i64 16, .int .i64 3, .int .i64 0, .int .i64 0] rfl (Cl.new_ _ _ _ _ (by simp)) rfl (by simp [Value.oneCell']) (by simp; omega) ?_; intro Aq cq wq ownq grq; (have hq := (ScSt.block (hs.below (by (repeat (first | with_reducible exact Below.refl _ _ | with_reducible assumption | with_reducible refine below_drewN ?_ _ | with_reducible refine Below.drew ?_ | with_reducible refine Below.alloc ?_ (by first | omega | (simp; omega) | simp) _ | with_reducible refine Below.setCell ?_ (by first | omega | (simp; omega) | simp) _)))) (16, 3, 0, 0) Aq cq ownq grq)); (have kP := grq.cl (hP.alloc _) (.inl (by decide))); (have k0 : wq.cell? ⟨w.heap.size + 1 + 1, 1, none⟩ = some (.slice none 0 0) := kP.cell 1); (have k1 := kP.free 1); (have k2 := kP.lt); (have HS2 : Hid (RdI (wq.setCell ⟨w.heap.size + 1 + 1, 1, none⟩ (.slice Aq 1 cq)) (.slice (some ⟨gs, so, none⟩) 2 cx) [16, 24]) := Rd.far (grq.rd (Rd.below HS.out (by (repeat (first | with_reducible exact Below.refl _ _ | with_reducible assumption | with_reducible refine below_drewN ?_ _ | with_reducible refine Below.drew ?_ | with_reducible refine Below.alloc ?_ (by first | omega | (simp; omega) | simp) _ | with_reducible refine Below.setCell ?_ (by first | omega | (simp; omega) | simp) _)))) (by decide)) kP (by decide) _ _))
  clear hs
  have hs : ScSt w _ A0 c0 Aq cq [3] [(16, 3, 0, 0)] := hq
  clear hq
  have HS' := HS2
  clear HS HS2 sl st0 st1 ownq grq kP k0 k1 k2
  generalize (wq.setCell ⟨w.heap.size + 1 + 1, 1, none⟩ (.slice Aq 1 cq)) = v7 at *
  obtain ⟨B0, eB0⟩ : ∃ x, x = Aq := ⟨_, rfl⟩
  obtain ⟨d0, ed0⟩ : ∃ x, x = cq := ⟨_, rfl⟩
  subst eB0 ed0
  clear hX x0 x1 x2 x3 lx
  clear hL hZ hP hO hQ hB y0 y1 y2 y3 y4 y5 y6 y7 p0 p1 ll lp
  obtain ⟨hL, hZ, hP, hO, hQ, hB⟩ := id hs
  obtain ⟨y0, y1, y2, y3, y4, y5, y6, y7⟩ := hL.cells8
  have p0 := hP.cell 0
  have p1 := hP.cell 1
  simp only [List.getElem?_toArray, List.getElem?_cons_succ, List.getElem?_cons_zero, List.length_nil, List.length_cons, Nat.zero_add, Nat.reduceAdd, List.length_append] at p0 p1
  have ll := hL.lt
  have lp := hP.lt
  have HS := HS'
  clear HS'
  go_wp2_with fail
  obtain ⟨sl, st0, st1⟩ := rd2 HS.out
  rw [rounds_succ]
  go_wp2_with fail
  refine (Block24 _ gm (LdsM.of (n := 14) (r := 0) (HM.out.below hB) (by omega) (by omega) (by omega) (by omega) (by omega) H14.out H0.out) (HD.out.below hB) 306 2 2 (LdsM.of (n := 24) (r := 0) (HM.out.below hB) (by omega) (by omega) (by omega) (by omega) (by omega) Q24.out H24.out) (by omega) (by omega) (by omega) (by omega) (by omega) (fun W h => proper_306 W h)).mono ?_
  rintro e v8 ⟨rfl, hb⟩
  replace hs := hs.below hb
  have HS' : Hid (RdI v8 (.slice (some ⟨gs, so, none⟩) 2 cx) [16, 24]) := Rd.below HS.out hb
  clear HS sl st0 st1
  clear hL hZ hP hO hQ hB y0 y1 y2 y3 y4 y5 y6 y7 p0 p1 ll lp hb
  obtain ⟨hL, hZ, hP, hO, hQ, hB⟩ := id hs
  obtain ⟨y0, y1, y2, y3, y4, y5, y6, y7⟩ := hL.cells8
  have p0 := hP.cell 0
  have p1 := hP.cell 1
  simp only [List.getElem?_toArray, List.getElem?_cons_succ, List.getElem?_cons_zero, List.length_nil, List.length_cons, Nat.zero_add, Nat.reduceAdd, List.length_append] at p0 p1
  have ll := hL.lt
  have lp := hP.lt
  go_upto_region 13 with (fail)
  generalize hwn : v8.alloc (.cells #[.int .i64 24, .int .i64 3, .int .i64 2, .int .i64 2] 43) = v9
  have hX : Cl v9 v8.heap.size 43 #[.int .i64 24, .int .i64 3, .int .i64 2, .int .i64 2] := by rw [← hwn]; exact Cl.new _ _ _
  have hb : Below v8.heap.size v8 v9 := by rw [← hwn]; (repeat (first | with_reducible exact Below.refl _ _ | with_reducible assumption | with_reducible refine below_drewN ?_ _ | with_reducible refine Below.drew ?_ | with_reducible refine Below.alloc ?_ (by first | omega | (simp; omega) | simp) _ | with_reducible refine Below.setCell ?_ (by first | omega | (simp; omega) | simp) _))
  clear hwn
  replace hs := hs.below hb
  have HS : Hid (RdI v9 (.slice (some ⟨gs, so, none⟩) 2 cx) [16, 24]) := Rd.below HS'.out hb
  clear HS'
  clear hL hZ hP hO hQ hB y0 y1 y2 y3 y4 y5 y6 y7 p0 p1 ll lp hb
  obtain ⟨hL, hZ, hP, hO, hQ, hB⟩ := id hs
  obtain ⟨y0, y1, y2, y3, y4, y5, y6, y7⟩ := hL.cells8
  have p0 := hP.cell 0
  have p1 := hP.cell 1
  simp only [List.getElem?_toArray, List.getElem?_cons_succ, List.getElem?_cons_zero, List.length_nil, List.length_cons, Nat.zero_add, Nat.reduceAdd, List.length_append] at p0 p1
  have ll := hL.lt
  have lp := hP.lt
  obtain ⟨⟨x0, x1, x2, x3⟩, -⟩ := hX.has4
  have lx := hX.lt
  obtain ⟨sl, st0, st1⟩ := rd2 HS.out
  go_upto_region 16 with (at_builtin; refine wpList_append1 rfl (.tmp 53) (.tmp 55) 38 rfl (w.heap.size) 43 i0 _ 4 32 Tryz.underlying38 hi0 hz0 hz1 hz2 rfl (by decide) (by decide) _ (1) (bksCells [(16, 3, 0, 0)]) rfl (hQ.alloc _) (by omega) (v9.heap.size) #[.int .i64 24, .int .i64 3, .int .i64 2, .int .i64 2] rfl (Cl.new_ _ _ _ _ (by simp)) rfl (by simp [Value.oneCell']) (by simp; omega) ?_; intro Aq cq wq ownq grq; (have hq := (ScSt.block (hs.below (by (repeat (first | with_reducible exact Below.refl _ _ | with_reducible assumption | with_reducible refine below_drewN ?_ _ | with_reducible refine Below.drew ?_ | with_reducible refine Below.alloc ?_ (by first | omega | (simp; omega) | simp) _ | with_reducible refine Below.setCell ?_ (by first | omega | (simp; omega) | simp) _)))) (24, 3, 2, 2) Aq cq ownq grq)); (have kP := grq.cl (hP.alloc _) (.inl (by decide))); (have k0 : wq.cell? ⟨w.heap.size + 1 + 1, 1, none⟩ = some (.slice B0 1 d0) := kP.cell 1); (have k1 := kP.free 1); (have k2 := kP.lt); (have HS2 : Hid (RdI (wq.setCell ⟨w.heap.size + 1 + 1, 1, none⟩ (.slice Aq 2 cq)) (.slice (some ⟨gs, so, none⟩) 2 cx) [16, 24]) := Rd.far (grq.rd (Rd.below HS.out (by (repeat (first | with_reducible exact Below.refl _ _ | with_reducible assumption | with_reducible refine below_drewN ?_ _ | with_reducible refine Below.drew ?_ | with_reducible refine Below.alloc ?_ (by first | omega | (simp; omega) | simp) _ | with_reducible refine Below.setCell ?_ (by first | omega | (simp; omega) | simp) _)))) (by decide)) kP (by decide) _ _))
  clear hs
  have hs : ScSt w _ A0 c0 Aq cq [3] [(16, 3, 0, 0), (24, 3, 2, 2)] := hq
  clear hq
  have HS' := HS2
  clear HS HS2 sl st0 st1 ownq grq kP k0 k1 k2
  generalize (wq.setCell ⟨w.heap.size + 1 + 1, 1, none⟩ (.slice Aq 2 cq)) = v10 at *
  obtain ⟨B1, eB1⟩ : ∃ x, x = Aq := ⟨_, rfl⟩
  obtain ⟨d1, ed1⟩ : ∃ x, x = cq := ⟨_, rfl⟩
  subst eB1 ed1
  clear hX x0 x1 x2 x3 lx
  clear hL hZ hP hO hQ hB y0 y1 y2 y3 y4 y5 y6 y7 p0 p1 ll lp
  obtain ⟨hL, hZ, hP, hO, hQ, hB⟩ := id hs
  obtain ⟨y0, y1, y2, y3, y4, y5, y6, y7⟩ := hL.cells8
  have p0 := hP.cell 0
  have p1 := hP.cell 1
  simp only [List.getElem?_toArray, List.getElem?_cons_succ, List.getElem?_cons_zero, List.length_nil, List.length_cons, Nat.zero_add, Nat.reduceAdd, List.length_append] at p0 p1
  have ll := hL.lt
  have lp := hP.lt
  have HS := HS'
  clear HS'
  go_wp2_with fail
  rw [rounds_succ]
  go_wp2_with fail
  rw [rounds_succ]
  go_wp2_with fail
  refine (Assigned_calls base _ gm 64 14 1 P E (HM.out.below hB) 64 2 8 10 4 14 16 3 1 (by omega) (by omega) (by omega) (by omega) (by omega) (by omega) (by omega) (by omega) H14.out (by rw [H1.out]; omega) (by rw [H1.out]; omega)).mono ?_
  rintro e v11 ⟨rfl, hb⟩
  rw [H1.out]
  replace hs := hs.below hb
  clear hL hZ hP hO hQ hB y0 y1 y2 y3 y4 y5 y6 y7 p0 p1 ll lp hb
  obtain ⟨hL, hZ, hP, hO, hQ, hB⟩ := id hs
  obtain ⟨y0, y1, y2, y3, y4, y5, y6, y7⟩ := hL.cells8
  have p0 := hP.cell 0
  have p1 := hP.cell 1
  simp only [List.getElem?_toArray, List.getElem?_cons_succ, List.getElem?_cons_zero, List.length_nil, List.length_cons, Nat.zero_add, Nat.reduceAdd, List.length_append] at p0 p1
  have ll := hL.lt
  have lp := hP.lt
  go_upto_region 9 with (at_builtin; refine wpList_append1 rfl (.tmp 29) (.tmp 31) 37 rfl (w.heap.size) 3 j0 _ 1 8 Tryz.underlying37 hj0 hy0 hy1 hy2 rfl (by decide) (by decide) _ (1) (([3] : List Int).map (Value.int .i64)) rfl (hO.alloc _) (by omega) (v11.heap.size) #[.int .i64 (-1)] rfl (Cl.new_ _ _ _ _ (by simp)) rfl (by simp [Value.oneCell']) (by simp; omega) ?_; intro Aq cq wq ownq grq; (have hq := (ScSt.chunk (hs.below (by (repeat (first | with_reducible exact Below.refl _ _ | with_reducible assumption | with_reducible refine below_drewN ?_ _ | with_reducible refine Below.drew ?_ | with_reducible refine Below.alloc ?_ (by first | omega | (simp; omega) | simp) _ | with_reducible refine Below.setCell ?_ (by first | omega | (simp; omega) | simp) _)))) (-1) Aq cq ownq grq)); (have kP := grq.cl (hP.alloc _) (.inl (by decide))); (have k0 : wq.cell? ⟨w.heap.size + 1 + 1, 0, none⟩ = some (.slice A0 1 c0) := kP.cell 0); (have k1 := kP.free 0); (have k2 := kP.lt))
  clear ownq grq kP k0 k1 k2 hs
  have hs : ScSt w _ Aq cq B1 d1 [3, -1] [(16, 3, 0, 0), (24, 3, 2, 2)] := hq
  clear hq
  generalize (wq.setCell ⟨w.heap.size + 1 + 1, 0, none⟩ (.slice Aq 2 cq)) = v12 at *
  obtain ⟨A1, eA1⟩ : ∃ x, x = Aq := ⟨_, rfl⟩
  obtain ⟨c1, ec1⟩ : ∃ x, x = cq := ⟨_, rfl⟩
  subst eA1 ec1
  clear hL hZ hP hO hQ hB y0 y1 y2 y3 y4 y5 y6 y7 p0 p1 ll lp
  obtain ⟨hL, hZ, hP, hO, hQ, hB⟩ := id hs
  obtain ⟨y0, y1, y2, y3, y4, y5, y6, y7⟩ := hL.cells8
  have p0 := hP.cell 0
  have p1 := hP.cell 1
  simp only [List.getElem?_toArray, List.getElem?_cons_succ, List.getElem?_cons_zero, List.length_nil, List.length_cons, Nat.zero_add, Nat.reduceAdd, List.length_append] at p0 p1
  have ll := hL.lt
  have lp := hP.lt
  go_wp2_with fail
  refine (starts_out _ #[.int .i64 64, .int .i64 2, .int .i64 8, .int .i64 10, .int .i64 4, .int .i64 14, .int .i64 16, .int .i64 3] 1 (-1) (by omega)).mono ?_
  rintro e v13 ⟨Ax, cx, rfl, -, hb⟩
  simp only [List.length_nil]
  replace hs := hs.below hb
  clear hL hZ hP hO hQ hB y0 y1 y2 y3 y4 y5 y6 y7 p0 p1 ll lp hb
  obtain ⟨hL, hZ, hP, hO, hQ, hB⟩ := id hs
  obtain ⟨y0, y1, y2, y3, y4, y5, y6, y7⟩ := hL.cells8
  have p0 := hP.cell 0
  have p1 := hP.cell 1
  simp only [List.getElem?_toArray, List.getElem?_cons_succ, List.getElem?_cons_zero, List.length_nil, List.length_cons, Nat.zero_add, Nat.reduceAdd, List.length_append] at p0 p1
  have ll := hL.lt
  have lp := hP.lt
  go_wp2_with fail
  refine wp_loop_rounds 1 ?_
  rw [rounds_succ]
  go_wp2_with fail
  rw [rounds_succ]
  go_wp2_with fail
  refine (Assigned_calls base _ gm 64 14 2 P E (HM.out.below hB) 64 2 8 10 4 14 16 3 2 (by omega) (by omega) (by omega) (by omega) (by omega) (by omega) (by omega) (by omega) H14.out (by rw [H2.out]; omega) (by rw [H2.out]; omega)).mono ?_
  rintro e v14 ⟨rfl, hb⟩
  rw [H2.out]
  replace hs := hs.below hb
  clear hL hZ hP hO hQ hB y0 y1 y2 y3 y4 y5 y6 y7 p0 p1 ll lp hb
  obtain ⟨hL, hZ, hP, hO, hQ, hB⟩ := id hs
  obtain ⟨y0, y1, y2, y3, y4, y5, y6, y7⟩ := hL.cells8
  have p0 := hP.cell 0
  have p1 := hP.cell 1
  simp only [List.getElem?_toArray, List.getElem?_cons_succ, List.getElem?_cons_zero, List.length_nil, List.length_cons, Nat.zero_add, Nat.reduceAdd, List.length_append] at p0 p1
  have ll := hL.lt
  have lp := hP.lt
  go_upto_region 9 with (at_builtin; refine wpList_append1 rfl (.tmp 29) (.tmp 31) 37 rfl (w.heap.size) 3 j0 _ 1 8 Tryz.underlying37 hj0 hy0 hy1 hy2 rfl (by decide) (by decide) _ (2) (([3, -1] : List Int).map (Value.int .i64)) rfl (hO.alloc _) (by omega) (v14.heap.size) #[.int .i64 (-1)] rfl (Cl.new_ _ _ _ _ (by simp)) rfl (by simp [Value.oneCell']) (by simp; omega) ?_; intro Aq cq wq ownq grq; (have hq := (ScSt.chunk (hs.below (by (repeat (first | with_reducible exact Below.refl _ _ | with_reducible assumption | with_reducible refine below_drewN ?_ _ | with_reducible refine Below.drew ?_ | with_reducible refine Below.alloc ?_ (by first | omega | (simp; omega) | simp) _ | with_reducible refine Below.setCell ?_ (by first | omega | (simp; omega) | simp) _)))) (-1) Aq cq ownq grq)); (have kP := grq.cl (hP.alloc _) (.inl (by decide))); (have k0 : wq.cell? ⟨w.heap.size + 1 + 1, 0, none⟩ = some (.slice A1 2 c1) := kP.cell 0); (have k1 := kP.free 0); (have k2 := kP.lt))
  clear ownq grq kP k0 k1 k2 hs
  have hs : ScSt w _ Aq cq B1 d1 [3, -1, -1] [(16, 3, 0, 0), (24, 3, 2, 2)] := hq
  clear hq
  generalize (wq.setCell ⟨w.heap.size + 1 + 1, 0, none⟩ (.slice Aq 3 cq)) = v15 at *
  obtain ⟨A2, eA2⟩ : ∃ x, x = Aq := ⟨_, rfl⟩
  obtain ⟨c2, ec2⟩ : ∃ x, x = cq := ⟨_, rfl⟩
  subst eA2 ec2
  clear hL hZ hP hO hQ hB y0 y1 y2 y3 y4 y5 y6 y7 p0 p1 ll lp
  obtain ⟨hL, hZ, hP, hO, hQ, hB⟩ := id hs
  obtain ⟨y0, y1, y2, y3, y4, y5, y6, y7⟩ := hL.cells8
  have p0 := hP.cell 0
  have p1 := hP.cell 1
  simp only [List.getElem?_toArray, List.getElem?_cons_succ, List.getElem?_cons_zero, List.length_nil, List.length_cons, Nat.zero_add, Nat.reduceAdd, List.length_append] at p0 p1
  have ll := hL.lt
  have lp := hP.lt
  go_wp2_with fail
  refine (starts_out _ #[.int .i64 64, .int .i64 2, .int .i64 8, .int .i64 10, .int .i64 4, .int .i64 14, .int .i64 16, .int .i64 3] 2 (-1) (by omega)).mono ?_
  rintro e v16 ⟨Ax, cx, rfl, -, hb⟩
  simp only [List.length_nil]
  replace hs := hs.below hb
  clear hL hZ hP hO hQ hB y0 y1 y2 y3 y4 y5 y6 y7 p0 p1 ll lp hb
  obtain ⟨hL, hZ, hP, hO, hQ, hB⟩ := id hs
  obtain ⟨y0, y1, y2, y3, y4, y5, y6, y7⟩ := hL.cells8
  have p0 := hP.cell 0
  have p1 := hP.cell 1
  simp only [List.getElem?_toArray, List.getElem?_cons_succ, List.getElem?_cons_zero, List.length_nil, List.length_cons, Nat.zero_add, Nat.reduceAdd, List.length_append] at p0 p1
  have ll := hL.lt
  have lp := hP.lt
  go_wp2_with fail
  refine wp_loop_rounds 1 ?_
  rw [rounds_succ]
  go_wp2_with fail
  have p2 := hP.cell 2
  simp only [List.getElem?_toArray, List.getElem?_cons_succ, List.getElem?_cons_zero] at p2
  obtain ⟨⟨z0, z1, z2⟩, ⟨z3, z4, z5⟩⟩ := hZ.has3
  have lz := hZ.lt
  rw [rounds_succ]
  go_wp2_with fail
  refine bodyPost_ret (v := .agg #[.slice A2 3 c2, .slice B1 2 d1, .slice none 0 0]) ?_ rfl ⟨_, _, _, rfl, ?_, ?_, ?_, by (repeat (first | with_reducible exact Below.refl _ _ | with_reducible assumption | with_reducible refine below_drewN ?_ _ | with_reducible refine Below.drew ?_ | with_reducible refine Below.alloc ?_ (by first | omega | (simp; omega) | simp) _ | with_reducible refine Below.setCell ?_ (by first | omega | (simp; omega) | simp) _))⟩
  · simp [results, Tryz.results6, go_sem, *]
  · exact Rd.far (Rd.far (Rd.far (Rd.own hO) hZ (by decide) 0 _) (hZ.set_ 0 _) (by decide) 1 _) ((hZ.set_ 0 _).set_ 1 _) (by decide) 2 _
  · exact Rd.far (Rd.far (Rd.far (Rd.own hQ) hZ (by decide) 0 _) (hZ.set_ 0 _) (by decide) 1 _) ((hZ.set_ 0 _).set_ 1 _) (by decide) 2 _
  · exact Rd.nil_ _ _ _
end Go.Proofs.YtckamjbdogpacaaGreatDoor
