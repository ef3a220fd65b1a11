/-
  What is written into such a memory: note, Store, Flush.
-/
import Derived.Test.YtckamjbdogpacaaGreatDoorMemA
import Derived.Deep.AppendLies
import Derived.Deep.RegionLaw
namespace Go.Proofs.YtckamjbdogpacaaGreatDoor
open Go.RowKit

theorem ev_info : (Tryz.prog.info? 111).map (fun i => (i.zero, i.size, i.bytes)) = some (some (.agg #[.int .i64 0, .int .i64 0, .int .i64 0, .int .i64 0, .int .i64 0, .int .i64 0, .int .i64 0, .int .i64 0, .int .i64 0, .int .i64 0, .int .i64 0, .int .i64 0]), 12, 96) := by kernel_rfl
theorem st_info : (Tryz.prog.info? 137).map (fun i => (i.zero, i.size, i.bytes)) = some (some (.agg #[.int .i64 0, .int .i64 0]), 2, 16) := by kernel_rfl

def NotePost (base : Nat) (w : World) (gm L : Nat) (P : Nat → List (Nat × Int)) (E : Nat) (w' : World) : Prop := MemIs base w' gm L P (E + 1) ∧ GrewM base w w'

theorem Grew.of_grown {w w' : World} {base : Nat} {e : TypeId} {size n : Nat} {v : Value} {xs : List Value} (ho : w.ownsRow base e size v n xs) (hgr : w.grownBy w' v.ownBlock) : Grew base e w w' := by
  refine ⟨hgr.os, hgr.tape, hgr.output, hgr.size, fun k hk => ?_⟩
  by_cases hkb : some k = v.ownBlock
  · right
    rcases ho.2 with ⟨rfl, _⟩ | ⟨g', cap, cur, rfl, hbg, hh, _⟩
    · simp [Value.ownBlock] at hkb
    · simp only [Value.ownBlock, Option.some.injEq] at hkb
      subst hkb
      exact ⟨hbg, cur, (0, 0), hh⟩
  · exact .inl (hgr.block k hk hkb)
theorem Grew.map {w w' : World} {base : Nat} {e : TypeId} (h : Grew base e w w') {g : Nat} {es : Array MapEntry} {ck : Nat} (hg : w.heap[g]? = some (.map es ck)) : w'.heap[g]? = some (.map es ck) := by
  rcases h.2.2.2.2 g (lt_of_heap hg) with h1 | ⟨_, cs, fr, h1⟩
  · exact h1.trans hg
  · rw [h1] at hg; cases hg
theorem map_far {w : World} {g g' i : Nat} {t : TypeId} {cs : Array Value} {es : Array MapEntry} {ck : Nat} (hg : w.heap[g]? = some (.map es ck)) (hc : Cl w g' t cs) (u : Value) : (w.setCell ⟨g', i, none⟩ u).heap[g]? = some (.map es ck) := by
  rw [Below.heap_setCell _ _ _ _ (by
    rintro rfl
    unfold Cl at hc
    rw [hg] at hc
    cases hc)]
  exact hg
theorem Cl.apart {w : World} {g g' : Nat} {t t' : TypeId} {cs cs' : Array Value} (h : Cl w g t cs) (h' : Cl w g' t' cs') (hne : t ≠ t') : g ≠ g' := by
  rintro rfl
  unfold Cl at h h'
  rw [h] at h'
  injection h' with h'
  injection h' with _ ht
  exact hne ht
/-- A store into a memory's own block: what has grown. -/
theorem GrewM.set {w : World} {base g : Nat} {t : TypeId} {cs : Array Value} (hc : Cl w g t cs) (hb : base ≤ g) (ht : t = 92 ∨ t = 88 ∨ t = 137 ∨ t = 111) (i : Nat) (u : Value) : GrewM base w (w.setCell ⟨g, i, none⟩ u) := by
  refine ⟨by simp [World.setCell], by simp [World.setCell], by simp [World.setCell], by simp [World.setCell], fun k hk => ?_⟩
  by_cases hkg : k = g
  · subst hkg
    exact .inr ⟨hb, .inl ⟨cs, t, (0, 0), hc, ht⟩⟩
  · exact .inl (Below.heap_setCell _ _ _ _ hkg)
theorem GrewM.of_grew {w w' : World} {base : Nat} {e : TypeId} (h : Grew base e w w') (ht : e = 92 ∨ e = 88 ∨ e = 137 ∨ e = 111) : GrewM base w w' := by
  refine ⟨h.1, h.2.1, h.2.2.1, h.2.2.2.1, fun k hk => ?_⟩
  rcases h.2.2.2.2 k hk with h1 | ⟨hb, cs, fr, h1⟩
  · exact .inl h1
  · exact .inr ⟨hb, .inl ⟨cs, e, fr, h1, ht⟩⟩

theorem noted {base : Nat} {w wn w1 : World} {gm L : Nat} {P : Nat → List (Nat × Int)} {E gl gb gg cap : Nat} {cur : Array Value} {Ae : Option Addr} {ne ce : Nat} {ys : List Value} {es : Array MapEntry} {ck : Nat}
    (g1 : base ≤ gm) (g2 : base ≤ gl) (g3 : base ≤ gb) (hL : L ≤ 200) (hG : Cl w gm 92 #[.slice (some ⟨gl, 0, none⟩) L L, .map (some gb), .int .i64 0, .slice Ae ne ce]) (hLn : Cl w gl 88 cur)
    (hZ : ZeroLines cur L) (hP : Pend w base cur L P) (hA : ApartP cur L) (hne : ne ≤ E) (hB : w.heap[gb]? = some (.map es ck)) (hK : ∀ x ∈ es.toList, MapKept.IsKey (.int .i64) x.key) (hbel : Below w.heap.size w wn) (hgr : Grew base 111 wn w1)
    (hown : w1.ownsRow base 111 12 (.slice (some ⟨gg, 0, none⟩) (ne + 1) cap) (ne + 1) ys) :
    NotePost base w gm L P E (w1.setCell ⟨gm, 3, none⟩ (.slice (some ⟨gg, 0, none⟩) (ne + 1) cap)) := by
  have hG1 := hgr.cl (hG.below hbel hG.lt) (.inl (by decide))
  have hL1 := hgr.cl (hLn.below hbel hLn.lt) (.inl (by decide))
  have hB1 := hgr.map ((hbel.block gb (lt_of_heap hB)).trans hB)
  refine ⟨⟨gl, gb, cur, some ⟨gg, 0, none⟩, ne + 1, cap, ys, es, ck, g1, g2, g3, hL, hG1.set_ 3 _, hL1.far (Cl.apart hL1 hG1 (by decide)) _, hZ, fun i hi => ?_, hA, own_far hown hG1 (by decide) _ _, by omega, map_far hB1 hG1 _, hK⟩, ?_⟩
  · obtain ⟨v, m, a, b, c, d⟩ := hP i hi
    exact ⟨v, m, a, b, own_far (hgr.own (own_below c hbel) (by decide)) hG1 (by decide) _ _, d⟩
  · exact ((GrewM.of_below hbel).trans (GrewM.of_grew hgr (by decide))).trans (GrewM.set hG1 g1 (by decide) _ _)

set_option maxRecDepth 100000 in
set_option maxHeartbeats 2000000 in
theorem note_calls (base : Nat) (w : World) (gm L : Nat) (P : Nat → List (Nat × Int)) (E : Nat) (hM : MemIs base w gm L P E) (hE : E ≤ 10000) (e0 e1 e2 e3 : Int) :
    Calls Tryz.prog 45 #[.pointer (some ⟨gm, 0, none⟩), .agg #[.int .i64 e0, .int .i64 e1, .int .i64 e2, .int .i64 e3, .int .i64 0, .int .i64 0, .int .i64 0, .int .i64 0, .int .i64 0, .int .i64 0, .int .i64 0, .int .i64 0]] w fun e w' => e = .returned (.tuple #[]) ∧ NotePost base w gm L P E w' := by
  obtain ⟨i0, hi0, hz0, hz1, hz2⟩ := info_parts ev_info
  obtain ⟨gl, gb, cur, Ae, ne, ce, xs, es, ck, g1, g2, g3, hL200, hG, hLn, hZ, hP, hA, hEv, hne, hB, hK⟩ := hM
  have m3 := hG.cell 3
  have f3 := hG.free 3
  simp only [List.getElem?_toArray, List.getElem?_cons_succ, List.getElem?_cons_zero] at m3
  have hgm := hG.lt
  go_enter Tryz.func45, Tryz.ntmps45
  go_wp2_with fail
  generalize hwn : w.alloc (.cells #[.int .i64 e0, .int .i64 e1, .int .i64 e2, .int .i64 e3, .int .i64 0, .int .i64 0, .int .i64 0, .int .i64 0, .int .i64 0, .int .i64 0, .int .i64 0, .int .i64 0] 111) = wn
  have hEb : Cl wn w.heap.size 111 #[.int .i64 e0, .int .i64 e1, .int .i64 e2, .int .i64 e3, .int .i64 0, .int .i64 0, .int .i64 0, .int .i64 0, .int .i64 0, .int .i64 0, .int .i64 0, .int .i64 0] := by rw [← hwn]; exact Cl.new _ _ _
  have hAn : Below w.heap.size w wn := by rw [← hwn]; (repeat (first | with_reducible exact Below.refl _ _ | with_reducible assumption | with_reducible refine below_drewN ?_ _ | with_reducible refine Below.drew ?_ | with_reducible refine Below.alloc ?_ (by first | omega | (simp; omega) | simp) _ | with_reducible refine Below.setCell ?_ (by first | omega | (simp; omega) | simp) _))
  clear hwn
  have hGn := hG.below hAn hG.lt
  have hLnn := hLn.below hAn hLn.lt
  have hEvn := own_below hEv hAn
  have m3n := hGn.cell 3
  have f3n := hGn.free 3
  have v0 := hEb.cell 0
  have v1 := hEb.cell 1
  have v2 := hEb.cell 2
  have v3 := hEb.cell 3
  have v4 := hEb.cell 4
  have v5 := hEb.cell 5
  have v6 := hEb.cell 6
  have v7 := hEb.cell 7
  have v8 := hEb.cell 8
  have v9 := hEb.cell 9
  have v10 := hEb.cell 10
  have v11 := hEb.cell 11
  simp only [List.getElem?_toArray, List.getElem?_cons_succ, List.getElem?_cons_zero] at m3n v0 v1 v2 v3 v4 v5 v6 v7 v8 v9 v10 v11
  have hgn := hGn.lt
  have hen := hEb.lt
  have ag : some gm ≠ (Value.slice Ae ne ce).ownBlock := own_ne hEv hG (by decide)
  have ae : some w.heap.size ≠ (Value.slice Ae ne ce).ownBlock := fun h => by have := (hEv.lt _ h.symm).2; omega
  have hbs : base ≤ w.heap.size := by omega
  clear m3 f3
  go_region_law
    ((refine step_append_lies _ (by rfl) _ _ _ (by rfl) base 111 i0 _ 12 96 Tryz.underlying90 hi0 hz0 hz1 hz2 rfl (by omega) (.slice Ae ne ce) ne xs (by rfl) ((hEvn.alloc _).drew)
        ⟨wn.heap.size, 0, none⟩ 1 1 #[.int .i64 e0, .int .i64 e1, .int .i64 e2, .int .i64 e3, .int .i64 0, .int .i64 0, .int .i64 0, .int .i64 0, .int .i64 0, .int .i64 0, .int .i64 0, .int .i64 0].toList (by rfl) (by rfl) (World.news_of_block (cs := #[.int .i64 e0, .int .i64 e1, .int .i64 e2, .int .i64 e3, .int .i64 0, .int .i64 0, .int .i64 0, .int .i64 0, .int .i64 0, .int .i64 0, .int .i64 0, .int .i64 0]) (t := 111) (fr := (0, 0)) (heap_alloc_new wn _)) (by simp [Value.oneCell'])
        (by omega) (by unfold maxLen; omega) (by omega) (by simp; omega) (wn.heap.size + 1) (by simp) ?_; intro gg cap w1 hown1 hgrow hat hlt; (have hGw := Cl.grown ((hGn.alloc _).drew) hgrow ag); (have c3w : w1.cell? ⟨gm, 3, none⟩ = some (.slice Ae ne ce) := hGw.cell 3); (have f3w := hGw.free 3); (have lgw := hGw.lt)))
  all_goals
    go_wp2_with fail
    go_end0
    have hsz := hAn.size
    exact ⟨rfl, noted g1 g2 g3 hL200 hG hLn hZ hP hA hne hB hK (by (repeat (first | with_reducible exact Below.refl _ _ | with_reducible assumption | with_reducible refine below_drewN ?_ _ | with_reducible refine Below.drew ?_ | with_reducible refine Below.alloc ?_ (by first | omega | (simp; omega) | simp) _ | with_reducible refine Below.setCell ?_ (by first | omega | (simp; omega) | simp) _))) (Grew.of_grown ((hEvn.alloc _).drew) hgrow) hown1⟩

set_option maxHeartbeats 400000 in
theorem mword_yes (w : World) (v : Int) (h0 : 0 ≤ v) (h1 : v ≤ 1000000000) : Calls Tryz.prog 79 #[.int .i64 v] w fun e w' => e = .returned (.bool true) ∧ w = w' := by
  have b1 : decide (v ≤ 1099511627775) = true := by simp; omega
  go_enter Tryz.func79, Tryz.ntmps79
  go_wp2
  go_ret
  exact ⟨rfl, rfl⟩

/-- The busy lines: one more is noted. -/
theorem run_busy {w : World} {gb : Nat} {es : Array MapEntry} {ck : Nat} (n : Int) (hb : w.heap[gb]? = some (.map es ck)) (hks : ∀ x ∈ es.toList, MapKept.IsKey (.int .i64) x.key) :
    ∃ es' ck' w', (Instr.mapUpdate 89 (.map (some gb)) (.int .i64 n) (.bool true)).run Tryz.prog w = .ok () w' ∧ w'.heap[gb]? = some (.map es' ck') ∧ (∀ x ∈ es'.toList, MapKept.IsKey (.int .i64) x.key) ∧
      w'.os = w.os ∧ w'.tape = w.tape ∧ w'.output = w.output ∧ w'.heap.size = w.heap.size ∧ ∀ g, g ≠ gb → w'.heap[g]? = w.heap[g]? := by
  have hk : MapKept.IsKey (.int .i64) (.int .i64 n) := by simp [MapKept.IsKey]
  rcases MapKept.findNow_spec hk es.toList 0 hks with ⟨h1, _⟩ | ⟨j, e, h1, h2, h3⟩
  · refine ⟨es.push { key := .int .i64 n, val := .bool true, born := ck }, ck + 1, { w with heap := w.heap.setIfInBounds gb (.map (es.push { key := .int .i64 n, val := .bool true, born := ck }) (ck + 1)) }, ?_, (MapKept.heap_set hb).1, ?_, rfl, rfl, rfl, by simp, fun g hg => (MapKept.heap_set hb).2 g hg⟩
    · simp [Instr.mapUpdate, run_underlying Tryz.underlying89, MapKept.run_getObj_map hb, MapKept.run_checkKey Tryz.underlying3 hk, MapKept.run_findKey Tryz.underlying3 h1, MapKept.run_setObj_map _ hb, Result.andThen]
    · intro x hx
      simp only [Array.toList_push, List.mem_append, List.mem_singleton] at hx
      rcases hx with hx | rfl
      · exact hks x hx
      · exact hk
  · have hj : es[j]? = some e := by simpa using h2
    refine ⟨es.modify j fun e => { e with key := .int .i64 n, val := .bool true }, ck, { w with heap := w.heap.setIfInBounds gb (.map (es.modify j fun e => { e with key := .int .i64 n, val := .bool true }) ck) }, ?_, (MapKept.heap_set hb).1, ?_, rfl, rfl, rfl, by simp, fun g hg => (MapKept.heap_set hb).2 g hg⟩
    · simp [Instr.mapUpdate, run_underlying Tryz.underlying89, MapKept.run_getObj_map hb, MapKept.run_checkKey Tryz.underlying3 hk, MapKept.run_findKey Tryz.underlying3 h1, hj, h3, MapKept.run_keyThatStays hk, MapKept.run_setObj_map _ hb, Result.andThen]
    · have hkey : ∀ e', es[j]? = some e' → ({ e' with key := .int .i64 n, val := .bool true } : MapEntry).key = e'.key := fun e' he' => by rw [hj] at he'; cases he'; exact h3.symm
      exact MapKept.isKey_modify hks _ _ hkey
end Go.Proofs.YtckamjbdogpacaaGreatDoor
