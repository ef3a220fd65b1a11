/-
  Span and Flush over a memory of any content.
  rest: whether a line has something pending is noted. slices.Clone of pending stores.
-/
import Derived.Test.YtckamjbdogpacaaGreatDoorGMemC
import Derived.Test.YtckamjbdogpacaaGreatDoorAfterB
import Derived.Maps.OwnSet
namespace Go.Proofs.YtckamjbdogpacaaGreatDoor
open Go.RowKit
set_option linter.unusedSimpArgs false
set_option linter.unusedVariables false

theorem noteG0_calls (base : Nat) (F : Nat → Prop) (w : World) (gm L : Nat) (D : Nat → Nat → Int) (C : Nat → Int) (P : Nat → List (Nat × Int)) (E : Nat) (hM : MemG base F w gm L D C P E) (hE : E ≤ 10000) (hU : Up F w.heap.size) (e0 e1 e2 e3 : Int) :
    Calls Tryz.prog 45 #[.pointer (some ⟨gm, 0, none⟩), .agg #[.int .i64 e0, .int .i64 e1, .int .i64 e2, .int .i64 e3, .int .i64 0, .int .i64 0, .int .i64 0, .int .i64 0, .int .i64 0, .int .i64 0, .int .i64 0, .int .i64 0]] w fun e w' => e = .returned (.tuple #[]) ∧ NoteG base F w gm L D C P E w' :=
  noteG_calls base F w gm L D C P E hM hE hU e0 e1 e2 e3 (fun _ => 0)

/-- A call without a result has returned. -/
def CallV (base : Nat) (F : Nat → Prop) (w : World) (gm L E : Nat) (e : Ending) (w' : World) : Prop := e = .returned (.tuple #[]) ∧ MemW base F w' gm L E ∧ GrewF base F w w'

theorem spannedG {base : Nat} {F : Nat → Prop} {w : World} {gm L : Nat} {D : Nat → Nat → Int} {C : Nat → Int} {P : Nat → List (Nat × Int)} {E : Nat} (hM : MemG base F w gm L D C P E) (k : Int) : StoreG base F w gm L D C P E (w.setCell ⟨gm, 2, none⟩ (.int .i64 k)) := by
  obtain ⟨gl, gb, cur, sp, Ae, ne, ce, xs, es, ck, g1, g2, g3, hL200, hG, hLn, hZ, hP, hA, hEv, hne, hB, hK⟩ := hM
  refine ⟨⟨gl, gb, cur, k, Ae, ne, ce, xs, es, ck, g1, g2, g3, hL200, hG.set_ 2 _, hLn.far (Cl.apart hLn hG (by decide)) _, hZ, fun i hi => ?_, hA, own_far hEv hG (by decide) _ _, hne, map_far hB hG _, hK⟩, GrewF.set hG g1 hA.2.1 (by decide) _ _⟩
  obtain ⟨v, m, a, b, c, d, e1, e2⟩ := hP i hi
  exact ⟨v, m, a, b, c, own_far d hG (by decide) _ _, e1, e2⟩

theorem StoreG.w {base : Nat} {F : Nat → Prop} {w w' : World} {gm L : Nat} {D : Nat → Nat → Int} {C : Nat → Int} {P : Nat → List (Nat × Int)} {E : Nat} (h : StoreG base F w gm L D C P E w') : MemW base F w' gm L E ∧ GrewF base F w w' := ⟨⟨D, C, P, h.1⟩, h.2⟩

set_option maxRecDepth 100000 in
set_option maxHeartbeats 1000000 in
theorem spanW_calls (base : Nat) (F : Nat → Prop) (w : World) (gm L : Nat) (n : Int) (E : Nat) (hM : MemW base F w gm L E) :
    Calls Tryz.prog 26 #[.pointer (some ⟨gm, 0, none⟩), .int .i64 n] w (CallV base F w gm L E) := by
  obtain ⟨D, C, P, hM⟩ := hM
  have HS := Lib.hid (fun w' (hb : Below w.heap.size w w') k => spannedG (hM.below hb) k)
  obtain ⟨gl, gb, cur, sp, Ae, ne, ce, xs, es, ck, g1, g2, g3, hL200, hG, -⟩ := hM
  have m2 := hG.cell 2
  have f2 := hG.free 2
  simp only [List.getElem?_toArray, List.getElem?_cons_succ, List.getElem?_cons_zero] at m2
  clear hG
  go_enter Tryz.func26, Tryz.ntmps26
  go_wp2_with fail
  all_goals
    go_end0
    exact ⟨rfl, StoreG.w (HS.out _ (Below.refl _ _) _)⟩

theorem flushedG {base : Nat} {F : Nat → Prop} {w : World} {gm L n : Nat} {D : Nat → Nat → Int} {C : Nat → Int} {P : Nat → List (Nat × Int)} {sp : Int} {E gl gb : Nat} {cur : Array Value} {Ae : Option Addr} {ne ce : Nat} {xs : List Value} {es : Array MapEntry} {ck : Nat}
    (g1 : base ≤ gm) (g2 : base ≤ gl) (g3 : base ≤ gb) (hL : L ≤ 200) (hG : Cl w gm 92 #[.slice (some ⟨gl, 0, none⟩) L L, .map (some gb), .int .i64 sp, .slice Ae ne ce]) (hLn : Cl w gl 88 cur)
    (hZ : LnG cur L D C) (hP : PeG w base cur L P E) (hA : ApartP cur L ∧ OwnF F gm gl gb (.slice Ae ne ce) cur L) (hEv : w.ownsRow base 111 12 (.slice Ae ne ce) ne xs) (hne : ne ≤ E) (hB : w.heap[gb]? = some (.map es ck)) (hK : KeysG es ck L)
    (hn : n < L) (k : Nat) (hk : k ≤ (P n).length) : StoreG base F w gm L D C P E (w.setCell ⟨gl, n * 11 + 10, none⟩ (.int .i64 (k : Int))) := by
  have hsz : n * 11 + 10 < cur.size := by rw [hZ.1]; omega
  refine ⟨⟨gl, gb, _, sp, Ae, ne, ce, xs, es, ck, g1, g2, g3, hL, hG.far (Cl.apart hG hLn (by decide)) _, hLn.set_ _ _, hZ.set9 _ (fun i hi => ⟨by omega, fun j hj => by omega⟩), fun i hi => ?_, ⟨?_, hA.2.set _ _ (.inl (fun i hi => by omega))⟩, own_far hEv hLn (by decide) _ _, hne, map_far hB hLn _, hK⟩, GrewF.set hLn g2 hA.2.2.1 (by decide) _ _⟩
  · obtain ⟨v', m', a, b, c, d, e1, e2⟩ := hP i hi
    by_cases hin : i = n
    · subst hin
      exact ⟨v', k, by rw [Array.getElem?_setIfInBounds_ne (by omega)]; exact a, Array.getElem?_setIfInBounds_self_of_lt hsz, hk, own_far d hLn (by decide) _ _, e1, e2⟩
    · exact ⟨v', m', by rw [Array.getElem?_setIfInBounds_ne (by omega)]; exact a, by rw [Array.getElem?_setIfInBounds_ne (by omega)]; exact b, c, own_far d hLn (by decide) _ _, e1, e2⟩
  · intro i j hi hj hne v v' hv hv' b hb
    rw [Array.getElem?_setIfInBounds_ne (by omega)] at hv hv'
    exact hA.1 i j hi hj hne v v' hv hv' b hb

set_option maxRecDepth 100000 in
set_option maxHeartbeats 4000000 in
theorem flushW_calls (base : Nat) (F : Nat → Prop) (w : World) (gm L : Nat) (z : Int) (E : Nat) (hM : MemW base F w gm L E) (hE : E ≤ 900) (hU : Up F w.heap.size) :
    Calls Tryz.prog 27 #[.pointer (some ⟨gm, 0, none⟩), .int .i64 z] w (CallW base F w gm L (E + 1)) := by
  have HSAME : Hid (∀ w', Below w.heap.size w w' → MemW base F w' gm L (E + 1) ∧ GrewF base F w w') := fun w' hb => ⟨MemW.mono (hM.below hb) (by omega), GrewF.of_below hb⟩
  obtain ⟨D, C, P, hM⟩ := hM
  obtain ⟨gl, gb, cur, sp, Ae, ne, ce, xs, es, ck, g1, g2, g3, hL200, hG, hLn, hZ, hP, hA, hEv, hne, hB, hK⟩ := hM
  have m0 := hG.cell 0
  simp only [List.getElem?_toArray, List.getElem?_cons_zero] at m0
  by_cases hz : 0 ≤ z ∧ z < L
  · obtain ⟨n, rfl⟩ : ∃ n : Nat, z = n := ⟨z.toNat, by omega⟩
    have hn : n < L := by omega
    have hhas : hasB (n : Int) L = true := by simp [hasB]; omega
    clear hz
    obtain ⟨v, m, hv, hmk, hmm, hrow, hl, hxs⟩ := hP n hn
    obtain ⟨Av, cv, rfl⟩ := (Rd.own hrow).form
    have l9 := (hLn.cell (n * 11 + 9)).trans hv
    have l10 := (hLn.cell (n * 11 + 10)).trans hmk
    have f10 := hLn.free (n * 11 + 10)
    have hgl := hLn.lt
    have hgm := hG.lt
    have ngl : ¬ gm = gl := Cl.apart hG hLn (by decide)
    have ngl' : ¬ gl = gm := fun h => ngl h.symm
    have hF : ∀ W, Below w.heap.size w W → StoreG base F w gm L D C P E (W.setCell ⟨gl, n * 11 + 10, none⟩ (.int .i64 ((P n).length : Int))) := by
      intro W hb
      have hP' : PeG W base cur L P E := fun i hi => by
        obtain ⟨v, m, a, b, c, d, e1, e2⟩ := hP i hi
        exact ⟨v, m, a, b, c, own_below d hb, e1, e2⟩
      obtain ⟨h1, h2⟩ := flushedG g1 g2 g3 hL200 (hG.below hb hG.lt) (hLn.below hb hLn.lt) hZ hP' hA (own_below hEv hb) hne ((hb.block gb (lt_of_heap hB)).trans hB) hK hn (P n).length (Nat.le_refl _)
      exact ⟨h1, (GrewF.of_below hb).trans h2⟩
    have HF := Lib.hid hF
    have HU := Lib.hid hU
    clear hF hU HSAME
    have hk0 : (w.setCell ⟨gl, n * 11 + 10, none⟩ (.int .i64 ((P n).length : Int))).drew.cell? ⟨gm, 0, none⟩ = some (.slice (some ⟨gl, 0, none⟩) L L) := (hG.far (p := ⟨gl, n * 11 + 10, none⟩) ngl (.int .i64 ((P n).length : Int))).cell 0
    have hk9 : (w.setCell ⟨gl, n * 11 + 10, none⟩ (.int .i64 ((P n).length : Int))).drew.cell? ⟨gl, n * 11 + 9, none⟩ = some (.slice Av (P n).length cv) := ((hLn.set_ (n * 11 + 10) (.int .i64 ((P n).length : Int))).cell (n * 11 + 9)).trans (by rw [Array.getElem?_setIfInBounds_ne (by omega)]; exact hv)
    clear hP hZ hA hK hB hEv hrow hv hmk hG hLn
    go_enter Tryz.func27, Tryz.ntmps27
    go_wp2_with fail
    refine (has_calls _ gm L (n : Int) _ _ m0 hL200).mono ?_
    rintro e w1 ⟨rfl, rfl⟩
    rw [hhas]
    go_upto_region 3 with (fail)
    go_cut [] (fun wx => StoreG base F w gm L D C P E wx)
    case first =>
      go_region_held3 (fun w' => w'.cell? ⟨gm, 0, none⟩ = some (.slice (some ⟨gl, 0, none⟩) L L) ∧ w'.cell? ⟨gl, n * 11 + 9, none⟩ = some (.slice Av (P n).length cv)) (first | go_keep | (refine ⟨?_, ?_⟩ <;> first | exact hk0 | exact hk9))
        (fail)
      go_wp2_with fail
      go_meet
      exact HF.out _ (by (repeat (first | with_reducible exact Below.refl _ _ | with_reducible assumption | with_reducible refine below_drewN ?_ _ | with_reducible refine Below.drew ?_ | with_reducible refine Below.alloc ?_ (by first | omega | (simp; omega) | simp) _ | with_reducible refine Below.setCell ?_ (by first | omega | (simp; omega) | simp) _)))
    case rest =>
      obtain ⟨hM3, hgr3⟩ := hcut
      obtain ⟨w3, hw3⟩ : ∃ x : World, x = wc := ⟨_, rfl⟩
      subst hw3
      have HU3 := Lib.hid (HU.out.mono hgr3.size)
      clear m0 l9 l10 f10 hgl hgm ngl ngl' HF
      go_wp2_with fail
      refine (noteG0_calls base F _ gm L D C P E hM3 (by omega) HU3.out _ _ _ _).mono ?_
      rintro e w5 ⟨rfl, hM5, hgr5⟩
      go_wp2_with fail
      go_ret
      exact ⟨⟨_, rfl⟩, ⟨_, _, _, hM5⟩, hgr3.trans hgr5⟩
  · have hhas : hasB z L = false := by simp [hasB]; omega
    clear hP hZ hA hK hB hEv hG hLn hU
    go_enter Tryz.func27, Tryz.ntmps27
    go_wp2_with fail
    refine (has_calls _ gm L z _ _ m0 hL200).mono ?_
    rintro e w1 ⟨rfl, rfl⟩
    rw [hhas]
    go_wp2_with fail
    go_ret
    exact ⟨⟨_, rfl⟩, HSAME.out _ (by (repeat (first | with_reducible exact Below.refl _ _ | with_reducible assumption | with_reducible refine below_drewN ?_ _ | with_reducible refine Below.drew ?_ | with_reducible refine Below.alloc ?_ (by first | omega | (simp; omega) | simp) _ | with_reducible refine Below.setCell ?_ (by first | omega | (simp; omega) | simp) _)))⟩
end Go.Proofs.YtckamjbdogpacaaGreatDoor

namespace Go.Proofs.YtckamjbdogpacaaGreatDoor
open Go.RowKit
set_option linter.unusedSimpArgs false
set_option linter.unusedVariables false

theorem st_one (ps : List (Nat × Int)) : ∀ u ∈ stCells ps, u.oneCell' = true := by
  intro u hu
  simp only [stCells, List.mem_flatMap, List.mem_cons, List.not_mem_nil, or_false] at hu
  obtain ⟨b, _, h⟩ := hu
  rcases h with rfl | rfl <;> rfl

def CloneS (w : World) (ps : List (Nat × Int)) (e : Ending) (w' : World) : Prop := ∃ (A : Option Addr) (c : Nat), e = .returned (.slice A ps.length c) ∧ w'.ownsRow w.heap.size 137 2 (.slice A ps.length c) ps.length (stCells ps) ∧ Below w.heap.size w w'

set_option maxHeartbeats 400000 in
theorem cloneS_calls (w : World) (bl : Value) (ps : List (Nat × Int)) {te : TypeId} (hR : Rd w te 2 bl ps.length (stCells ps)) (hn : ps.length ≤ 100000) :
    Calls Tryz.prog 92 #[bl] w (CloneS w ps) := by
  obtain ⟨i0, hi0, hz0, hz1, hz2⟩ := info_parts st_info
  have hR' := hR
  obtain ⟨hl, A, cp, rfl, hcp, _, hnil, hcell⟩ := hR
  have heq := fun (W : World) (a : Option Addr) (n c : Nat) => Lib.run_eql_slice_nil (P := Tryz.prog) W 86 137 a n c 0 0 Tryz.underlying86
  cases A with
  | none =>
    have hc0 : cp = 0 := hnil rfl
    subst hc0
    have hb0 : ps = [] := List.eq_nil_of_length_eq_zero (by omega)
    subst hb0
    clear hcell hnil hR'
    go_enter Tryz.func92, Tryz.ntmps92
    go_wp2_with fail
    go_ret
    exact ⟨none, 0, rfl, World.ownsRow_nil _ _ _ _, Below.refl _ _⟩
  | some ad =>
    have hown : (w.alloc (.cells #[] 137)).ownsRow w.heap.size 137 2 (.slice (some ⟨w.heap.size, 0, none⟩) 0 0) 0 [] := World.ownsRow_made w #[] 0 (Nat.le_refl _) (by simp [maxLen]) rfl
    have hnews := Rd.news (hR'.below (show Below w.heap.size w (w.alloc (.cells #[] 137)) by (repeat (first | with_reducible exact Below.refl _ _ | with_reducible assumption | with_reducible refine below_drewN ?_ _ | with_reducible refine Below.drew ?_ | with_reducible refine Below.alloc ?_ (by first | omega | (simp; omega) | simp) _ | with_reducible refine Below.setCell ?_ (by first | omega | (simp; omega) | simp) _))))
    have HN := Lib.hid hnews
    have HL := Lib.hid hl
    clear hR' hcell hnil hnews hl
    go_enter Tryz.func92, Tryz.ntmps92
    go_wp2_with (at_builtin; refine wpList_append_own _ rfl (.tmp 5) (.tmp 6) 86 rfl w.heap.size 137 i0 (.agg #[.int .i64 0, .int .i64 0]) 2 16 Tryz.underlying86 hi0 hz0 hz1 hz2 rfl (by decide) (.slice (some ⟨w.heap.size, 0, none⟩) 0 0) 0 [] rfl hown ad ps.length cp (stCells ps) rfl HL.out HN.out (st_one ps) (by unfold maxLen; omega) (by omega) (by simp) ?_; intro v' w1 hown1 hg1 hv1)
    go_ret
    obtain ⟨_, A, c, hv, _⟩ := Rd.own hown1
    simp only [Nat.zero_add] at hv
    subst hv
    exact ⟨A, c, rfl, by simpa using hown1, Below.grown (by (repeat (first | with_reducible exact Below.refl _ _ | with_reducible assumption | with_reducible refine below_drewN ?_ _ | with_reducible refine Below.drew ?_ | with_reducible refine Below.alloc ?_ (by first | omega | (simp; omega) | simp) _ | with_reducible refine Below.setCell ?_ (by first | omega | (simp; omega) | simp) _))) hg1 (by simp) (by simp [Value.ownBlock])⟩

/-- The busy lines: one is struck out. -/
theorem run_drop2 {w : World} {gb L : Nat} {es : Array MapEntry} {ck : Nat} (n : Nat) (hb : w.heap[gb]? = some (.map es ck)) (hK : KeysG es ck L) :
    ∃ es' w', (∀ ty, (Builtin.delete_ #[89, 3] ty #[.map (some gb), .int .i64 (n : Int)]).run Tryz.prog w = .ok (.tuple #[]) w') ∧ w'.heap[gb]? = some (.map es' ck) ∧ KeysG es' ck L ∧
      w'.os = w.os ∧ w'.tape = w.tape ∧ w'.output = w.output ∧ w'.heap.size = w.heap.size ∧ (∀ g, g ≠ gb → w'.heap[g]? = w.heap[g]?) ∧ Fewer es es' := by
  have hks := hK.keys
  have hk : MapKept.IsKey (.int .i64) (.int .i64 (n : Int)) := by simp [MapKept.IsKey]
  rcases MapKept.findNow_spec hk es.toList 0 hks with ⟨h1, hno⟩ | ⟨j, e, h1, h2, h3⟩
  · refine ⟨es, { w with heap := w.heap.setIfInBounds gb (.map es ck) }, fun ty => ?_, (MapKept.heap_set hb).1, hK, rfl, rfl, rfl, by simp, fun g hg => (MapKept.heap_set hb).2 g hg, List.Sublist.refl _⟩
    simp [Builtin.delete_, run_underlying Tryz.underlying89, MapKept.run_getObj_map hb, MapKept.run_checkKey Tryz.underlying3 hk, MapKept.run_findKey Tryz.underlying3 h1, MapKept.run_setObj_map _ hb, Result.andThen]
  · have hsub : (es.eraseIdxIfInBounds j).toList.Sublist es.toList := by
      unfold Array.eraseIdxIfInBounds
      split
      · simp only [Array.toList_eraseIdx]; exact List.eraseIdx_sublist _ _
      · exact List.Sublist.refl _
    refine ⟨es.eraseIdxIfInBounds j, { w with heap := w.heap.setIfInBounds gb (.map (es.eraseIdxIfInBounds j) ck) }, fun ty => ?_, (MapKept.heap_set hb).1, ⟨fun x hx => hK.1 x (hsub.subset hx), MapKept.stamped_erase hK.2 _⟩, rfl, rfl, rfl, by simp, fun g hg => (MapKept.heap_set hb).2 g hg, hsub.map _⟩
    simp [Builtin.delete_, run_underlying Tryz.underlying89, MapKept.run_getObj_map hb, MapKept.run_checkKey Tryz.underlying3 hk, MapKept.run_findKey Tryz.underlying3 h1, MapKept.run_setObj_map _ hb, Result.andThen]

/-- 'delete', by what its run leaves. -/
theorem wpList_delete_run {P : Program} {ops : Array Oper} {Q : Exit → Act → World → Prop} {rest : List Oper} {a : Act} {w w' : World} {o : Oper} (hg : o.guard = none) (m x : Operand) (t k : TypeId) (hop : o.op = Op.call { callee := Callee.builtin Builtin.delete, args := #[m, x], argTypes := #[t, k] })
    (mv xv : Value) (hm : a.eval m = mv) (hx : a.eval x = xv) (hrun : (Builtin.delete_ #[t, k] o.type #[mv, xv]).run P w = .ok (.tuple #[]) w') (hK : wpList P ops Q rest (a.put o.dst (.tuple #[])) w') :
    wpList P ops Q (o :: rest) a w := by
  refine wpList_plain hg fun K' hK' => ?_
  unfold Oper.wp
  simp [execOp, hop, resolve, invoke, builtin, hm, hx, hrun, Result.andThen]
  exact hK' _ _ hK

/-- The map of busy lines. -/
def Busy (w : World) (gm gb : Nat) (es : Array MapEntry) (ck : Nat) : Prop := w.cell? ⟨gm, 1, none⟩ = some (.map (some gb)) ∧ w.heap[gb]? = some (.map es ck)
/-- The busy lines are fewer or the same, where the line was busy. -/
def KeepB (w w' : World) (gm n : Nat) : Prop := ∀ gb es ck, Busy w gm gb es ck → (∃ x ∈ es.toList, x.key = .int .i64 (n : Int)) → ∃ es', Busy w' gm gb es' ck ∧ Fewer es es'
def RestG (base : Nat) (F : Nat → Prop) (w : World) (gm L : Nat) (D : Nat → Nat → Int) (C : Nat → Int) (P : Nat → List (Nat × Int)) (E n : Nat) (e : Ending) (w' : World) : Prop := e = .returned (.tuple #[]) ∧ MemG base F w' gm L D C P E ∧ GrewF base F w w' ∧ KeepB w w' gm n

theorem KeepB.of {w w' : World} {gm gb n ck ck' : Nat} {es es' : Array MapEntry} (h1 : w.cell? ⟨gm, 1, none⟩ = some (.map (some gb))) (hB : w.heap[gb]? = some (.map es ck)) (h1' : w'.cell? ⟨gm, 1, none⟩ = some (.map (some gb))) (hB' : w'.heap[gb]? = some (.map es' ck'))
    (h : (∀ x ∈ es.toList, x.key ≠ .int .i64 (n : Int)) ∨ (ck' = ck ∧ Fewer es es')) : KeepB w w' gm n := by
  intro gb2 es2 ck2 ⟨a, b⟩ ⟨x, hx, hxk⟩
  rw [h1] at a
  injection a with a
  injection a with a
  injection a with a
  subst a
  rw [hB] at b
  injection b with b
  injection b with b c
  subst b
  subst c
  rcases h with h | ⟨rfl, h⟩
  · exact absurd hxk (h x hx)
  · exact ⟨es', ⟨h1', hB'⟩, h⟩

set_option maxRecDepth 100000 in
set_option maxHeartbeats 2000000 in
theorem restG_calls (base : Nat) (F : Nat → Prop) (w : World) (gm L n : Nat) (D : Nat → Nat → Int) (C : Nat → Int) (P : Nat → List (Nat × Int)) (E : Nat) (hM : MemG base F w gm L D C P E) (hn : n < L) (hE : E ≤ 1000) :
    Calls Tryz.prog 66 #[.pointer (some ⟨gm, 0, none⟩), .int .i64 (n : Int)] w (RestG base F w gm L D C P E n) := by
  obtain ⟨gl, gb, cur, sp, Ae, ne, ce, xs, es, ck, g1, g2, g3, hL200, hG, hLn, hZ, hP, hA, hEv, hne, hB, hK⟩ := hM
  obtain ⟨v, m, hv', hmk, hmm, hrow, hl, hxs⟩ := hP n hn
  obtain ⟨Av, cv, rfl⟩ := (Rd.own hrow).form
  have m0 := hG.cell 0
  have m1 := hG.cell 1
  simp only [List.getElem?_toArray, List.getElem?_cons_succ, List.getElem?_cons_zero] at m0 m1
  have l9 := (hLn.cell (n * 11 + 9)).trans hv'
  have ngb : gm ≠ gb := by
    rintro rfl
    have := hG
    unfold Cl at this
    rw [hB] at this
    cases this
  cases hp : (P n).length with
  | zero =>
    obtain ⟨es', w4, hrun, hB', hK', o1, o2, o3, o4, o5, hf⟩ := run_drop2 n hB hK
    obtain ⟨hM4, hgr4⟩ := busiedG g1 g2 g3 hL200 hG hLn hZ hP hA hEv hne hB hB' hK' o1 o2 o3 o4 o5
    have hKB : KeepB w w4 gm n := KeepB.of m1 hB ((cell_of_heap (o5 gm ngb) 1).trans m1) hB' (.inr ⟨rfl, hf⟩)
    have HM4 := Lib.hid hM4
    have HG4 := Lib.hid hgr4
    have HKB := Lib.hid hKB
    have HRUN := Lib.hid hrun
    rw [hp] at l9
    clear hP hZ hA hK hB hK' hB' o1 o2 o3 o4 o5 hEv hG hLn hM4 hgr4 hrow hv' hmk hxs hKB hf hrun
    go_enter Tryz.func66, Tryz.ntmps66
    go_wp2_with (at_delete; refine wpList_delete_run rfl _ _ _ _ rfl _ _ rfl rfl (HRUN.out _) ?_)
    go_end0
    exact ⟨rfl, HM4.out, HG4.out, HKB.out⟩
  | succ k =>
    obtain ⟨es', ck', w4, hrun, hB', hK', o1, o2, o3, o4, o5, hf⟩ := run_busyG n hn hB hK
    obtain ⟨hM4, hgr4⟩ := busiedG g1 g2 g3 hL200 hG hLn hZ hP hA hEv hne hB hB' hK' o1 o2 o3 o4 o5
    have hKB : KeepB w w4 gm n := KeepB.of m1 hB ((cell_of_heap (o5 gm ngb) 1).trans m1) hB' hf
    have HM4 := Lib.hid hM4
    have HG4 := Lib.hid hgr4
    have HKB := Lib.hid hKB
    rw [hp] at l9
    have hk0 : ((k + 1 : Nat) : Int) ≠ 0 := by omega
    clear hP hZ hA hK hB hK' hB' o1 o2 o3 o4 o5 hEv hG hLn hM4 hgr4 hrow hv' hmk hxs hKB hf
    go_enter Tryz.func66, Tryz.ntmps66
    go_wp2_with fail
    go_end0
    exact ⟨rfl, HM4.out, HG4.out, HKB.out⟩
end Go.Proofs.YtckamjbdogpacaaGreatDoor
