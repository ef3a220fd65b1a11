/-
  memory.Flush.
-/
import Derived.Test.YtcoeoggoaiebeaaDoorMemC
namespace Go.Proofs.YtcoeoggoaiebeaaDoor
open Go.RowKit

theorem flushed {base : Nat} {w : World} {gm L n : Nat} {P : Nat → List (Nat × Int)} {E gl gb : Nat} {cur : Array Value} {Ae : Option Addr} {ne ce : Nat} {xs : List Value} {es : Array MapEntry} {ck : Nat}
    (g1 : base ≤ gm) (g2 : base ≤ gl) (g3 : base ≤ gb) (hL : L ≤ 200) (hG : Cl w gm 73 #[.slice (some ⟨gl, 0, none⟩) L L, .map (some gb), .int .i64 0, .slice Ae ne ce]) (hLn : Cl w gl 69 cur)
    (hZ : ZeroLines cur L) (hP : Pend w base cur L P) (hA : ApartP cur L) (hEv : w.ownsRow base 104 12 (.slice Ae ne ce) ne xs) (hne : ne ≤ E) (hB : w.heap[gb]? = some (.map es ck)) (hK : ∀ x ∈ es.toList, MapKept.IsKey (.int .i64) x.key)
    (hn : n < L) (k : Int) : StorePost base w gm L P E (w.setCell ⟨gl, n * 11 + 10, none⟩ (.int .i64 k)) := by
  have hsz : n * 11 + 10 < cur.size := by rw [hZ.1]; omega
  refine ⟨⟨gl, gb, _, Ae, ne, ce, xs, es, ck, g1, g2, g3, hL, hG.far (Cl.apart hG hLn (by decide)) _, hLn.set_ _ _, hZ.set _ _ (fun i j hi hj he => by omega), fun i hi => ?_, ?_, own_far hEv hLn (by decide) _ _, hne, map_far hB hLn _, hK⟩, GrewM.set hLn g2 (by decide) _ _⟩
  · obtain ⟨v', m', a, b, c, d⟩ := hP i hi
    by_cases hin : i = n
    · subst hin
      exact ⟨v', k, by rw [Array.getElem?_setIfInBounds_ne (by omega)]; exact a, Array.getElem?_setIfInBounds_self_of_lt hsz, own_far c hLn (by decide) _ _, d⟩
    · exact ⟨v', m', by rw [Array.getElem?_setIfInBounds_ne (by omega)]; exact a, by rw [Array.getElem?_setIfInBounds_ne (by omega)]; exact b, own_far c hLn (by decide) _ _, d⟩
  · intro i j hi hj hne v v' hv hv' b hb
    rw [Array.getElem?_setIfInBounds_ne (by omega)] at hv hv'
    exact hA i j hi hj hne v v' hv hv' b hb

set_option maxRecDepth 100000 in
set_option maxHeartbeats 4000000 in
theorem flush_calls (base : Nat) (w : World) (gm L n : Nat) (P : Nat → List (Nat × Int)) (E : Nat) (hM : MemIs base w gm L P E) (hE : E ≤ 1000) (hn : n < L) :
    Calls Tryd.prog 60 #[.pointer (some ⟨gm, 0, none⟩), .int .i64 (n : Int)] w
      fun e w' => e = .returned (.int .i64 0) ∧ StorePost base w gm L P (E + 1) w' := by
  obtain ⟨gl0, A0, c0, _, _, _, m0, hL200⟩ := hM.line hn
  go_enter Tryd.func60, Tryd.ntmps60
  go_wp2_with fail
  refine (has_yes _ gm L n _ _ m0 hn hL200).mono ?_
  rintro e w1 ⟨rfl, rfl⟩
  clear m0
  obtain ⟨gl, gb, cur, Ae, ne, ce, xs, es, ck, g1, g2, g3, _, hG, hLn, hZ, hP, hA, hEv, hne, hB, hK⟩ := hM
  obtain ⟨v, m, hv, hmk, hrow, hl⟩ := hP n hn
  obtain ⟨Av, cv, rfl⟩ := (Rd.own hrow).form
  have m0 := hG.cell 0
  simp only [List.getElem?_toArray, List.getElem?_cons_zero] at m0
  have l9 := (hLn.cell (n * 11 + 9)).trans hv
  have l10 := (hLn.cell (n * 11 + 10)).trans hmk
  have f10 := hLn.free (n * 11 + 10)
  have hgl := hLn.lt
  have hgm := hG.lt
  have ngl : ¬ gm = gl := Cl.apart hG hLn (by decide)
  have ngl' : ¬ gl = gm := fun h => ngl h.symm
  have hF : ∀ W, Below w.heap.size w W → StorePost base w gm L P E (W.setCell ⟨gl, n * 11 + 10, none⟩ (.int .i64 ((P n).length : Int))) := by
    intro W hb
    have hP' : Pend W base cur L P := fun i hi => by
      obtain ⟨v, m, a, b, c, d⟩ := hP i hi
      exact ⟨v, m, a, b, own_below c hb, d⟩
    obtain ⟨h1, h2⟩ := flushed g1 g2 g3 hL200 (hG.below hb hG.lt) (hLn.below hb hLn.lt) hZ hP' hA (own_below hEv hb) hne ((hb.block gb (lt_of_heap hB)).trans hB) hK hn ((P n).length : Int)
    exact ⟨h1, (GrewM.of_below hb).trans h2⟩
  have HF := Lib.hid hF
  clear hF
  have hk0 : (w.setCell ⟨gl, n * 11 + 10, none⟩ (.int .i64 ((P n).length : Int))).drew.cell? ⟨gm, 0, none⟩ = some (.slice (some ⟨gl, 0, none⟩) L L) := (hG.far (p := ⟨gl, n * 11 + 10, none⟩) ngl (.int .i64 ((P n).length : Int))).cell 0
  have hk9 : (w.setCell ⟨gl, n * 11 + 10, none⟩ (.int .i64 ((P n).length : Int))).drew.cell? ⟨gl, n * 11 + 9, none⟩ = some (.slice Av (P n).length cv) := ((hLn.set_ (n * 11 + 10) (.int .i64 ((P n).length : Int))).cell (n * 11 + 9)).trans (by rw [Array.getElem?_setIfInBounds_ne (by omega)]; exact hv)
  clear hP hZ hA hK hB hEv hrow hv hmk hG hLn
  go_upto_region 3 with (fail)
  go_cut [] (fun wx => StorePost base w gm L P E wx)
  case first =>
    go_region_held3 (fun w' => w'.cell? ⟨gm, 0, none⟩ = some (.slice (some ⟨gl, 0, none⟩) L L) ∧ w'.cell? ⟨gl, n * 11 + 9, none⟩ = some (.slice Av (P n).length cv)) (first | go_keep | (refine ⟨?_, ?_⟩ <;> first | exact hk0 | exact hk9))
      (fail)
    go_wp2_with fail
    go_meet
    exact HF.out _ (by (repeat (first | with_reducible exact Below.refl _ _ | with_reducible assumption | with_reducible refine below_drewN ?_ _ | with_reducible refine Below.drew ?_ | with_reducible refine Below.alloc ?_ (by first | omega | (simp; omega) | simp) _ | with_reducible refine Below.setCell ?_ (by first | omega | (simp; omega) | simp) _)))
  case rest =>
    obtain ⟨hM3, hgr3⟩ := hcut
    obtain ⟨w3, hw3⟩ : ∃ x : World, x = wc := ⟨_, rfl⟩
    subst hw3
    clear m0 l9 l10 f10 hgl hgm ngl ngl' HF
    go_wp2_with fail
    refine (note_calls base _ gm L _ E hM3 (by omega) _ _ _ _).mono ?_
    rintro e w5 ⟨rfl, hM5, hgr5⟩
    go_wp2_with fail
    go_ret
    exact ⟨rfl, hM5, hgr3.trans hgr5⟩
end Go.Proofs.YtcoeoggoaiebeaaDoor
