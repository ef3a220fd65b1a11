/-
  The specification's memory: put, Store, Publish.
-/
import Derived.Test.YtckamjbdogpacaaGreatDoorSmB
namespace Go.Proofs.YtckamjbdogpacaaGreatDoor
open Go.RowKit
set_option linter.unusedSimpArgs false
set_option linter.unusedVariables false

/-- A world in which block 'gl' has other cells, and which else has grown. -/
def MidS (w wr : World) (gl : Nat) (cur : Array Value) : Prop := Cl wr gl 108 cur ∧ wr.os = w.os ∧ wr.tape = w.tape ∧ wr.output = w.output ∧ w.heap.size ≤ wr.heap.size ∧ ∀ g, g < w.heap.size → g ≠ gl → wr.heap[g]? = w.heap[g]?
section
variable {w wr wr' : World} {gl : Nat} {cur : Array Value}
theorem MidS.start (h : Cl w gl 108 cur) (hb : Below w.heap.size w wr) : MidS w wr gl cur := ⟨h.below hb h.lt, hb.os, hb.tape, hb.output, hb.size, fun g hg _ => hb.block g hg⟩
theorem MidS.below (h : MidS w wr gl cur) (hb : Below wr.heap.size wr wr') : MidS w wr' gl cur := by
  obtain ⟨h1, h2, h3, h4, h5, h6⟩ := h
  exact ⟨h1.below hb h1.lt, hb.os.trans h2, hb.tape.trans h3, hb.output.trans h4, Nat.le_trans h5 hb.size, fun g hg hne => (hb.block g (by omega)).trans (h6 g hg hne)⟩
theorem MidS.set (h : MidS w wr gl cur) (i : Nat) (u : Value) : MidS w (wr.setCell ⟨gl, i, none⟩ u) gl (cur.setIfInBounds i u) := by
  obtain ⟨h1, h2, h3, h4, h5, h6⟩ := h
  exact ⟨h1.set_ i u, by simpa [World.setCell] using h2, by simpa [World.setCell] using h3, by simpa [World.setCell] using h4, by simpa [World.setCell] using h5, fun g hg hne => (Below.heap_setCell _ _ _ _ hne).trans (h6 g hg hne)⟩
theorem MidS.heap (h : MidS w wr gl cur) {g : Nat} {o : Obj} (hg : w.heap[g]? = some o) (hne : g ≠ gl) : wr.heap[g]? = some o := (h.2.2.2.2.2 g (lt_of_heap hg) hne).trans hg
theorem MidS.cell (h : MidS w wr gl cur) {g : Nat} (hg : g < w.heap.size) (hne : g ≠ gl) (o : Nat) : wr.cell? ⟨g, o, none⟩ = w.cell? ⟨g, o, none⟩ := cell_of_heap (h.2.2.2.2.2 g hg hne) o
theorem MidS.own (h : MidS w wr gl cur) {cs0 : Array Value} (h0 : Cl w gl 108 cs0) {base : Nat} {t : TypeId} {size n : Nat} {v : Value} {ys : List Value} (ho : w.ownsRow base t size v n ys) (hne : t ≠ 108) : wr.ownsRow base t size v n ys := by
  refine ⟨ho.1, ?_⟩
  rcases ho.2 with hn | ⟨g, cap, cu, rfl, hbg, hg, rest⟩
  · exact .inl hn
  · refine .inr ⟨g, cap, cu, rfl, hbg, h.heap hg ?_, rest⟩
    rintro rfl
    unfold Cl at h0
    rw [h0] at hg
    injection hg with hg
    injection hg with _ ht
    exact hne ht.symm
end


theorem MemS.mid {G : Nat → Prop} {w wr : World} {gs L E gl cap n : Nat} {cur cur' : Array Value} {sp : Int} {Ae : Option Addr} {ne ce : Nat} {xs : List Value} (h1 : L ≤ 200) (h2 : L ≤ cap) (hS : Cl w gs 106 #[.slice (some ⟨gl, 0, none⟩) L cap, .int .i64 sp, .slice Ae ne ce]) (hL : Cl w gl 108 cur) (hP : ∀ i, i < L → SLine w cur i E G)
    (hEv : w.ownsRow 0 111 12 (.slice Ae ne ce) ne xs) (hne : ne ≤ E) (g1 : G gs) (g2 : G gl) (g3 : ∀ b, (Value.slice Ae ne ce).ownBlock = some b → G b) (hM : MidS w wr gl cur') (h3 : L * 11 ≤ cur'.size) (hot : ∀ i j, i ≠ n → j < 11 → cur'[i * 11 + j]? = cur[i * 11 + j]?) (hnew : SLine wr cur' n E G) :
    MemS G wr gs L E ∧ GrewS G w wr := by
  have ngl : gs ≠ gl := Cl.apart hS hL (by decide)
  refine ⟨⟨gl, cap, cur', sp, Ae, ne, ce, xs, h1, h2, hM.heap hS ngl, hM.1, h3, fun i hi => ?_, hM.own hL hEv (by decide), hne, g1, g2, g3⟩, hM.2.1, hM.2.2.1, hM.2.2.2.1, hM.2.2.2.2.1, fun g hg => ?_⟩
  · by_cases hin : i = n
    · subst hin
      exact hnew
    · obtain ⟨f, c, v, m, ps, a, b, d, e, e1, e2, e3, e4, e5⟩ := hP i hi
      exact ⟨f, c, v, m, ps, fun j hj => (hot i j hin (by omega)).trans (a j hj), (hot i 8 hin (by omega)).trans b, (hot i 9 hin (by omega)).trans d, (hot i 10 hin (by omega)).trans e, e1, hM.own hL e2 (by decide), e3, e4, e5⟩
  · by_cases hgl : g = gl
    · subst hgl
      exact .inr g2
    · exact .inl (hM.2.2.2.2.2 g hg hgl)

set_option maxRecDepth 100000 in
set_option maxHeartbeats 4000000 in
theorem sput_calls (G : Nat → Prop) (w : World) (gm L E : Nat) (at' val kd : Int) (hM : MemS G w gm L E) (hE : E ≤ 900) (hU : Up G w.heap.size) (h64 : at' ≤ 9223372036854775807) :
    Calls Tryz.prog 85 #[.pointer (some ⟨gm, 0, none⟩), .int .i64 at', .int .i64 val, .int .i64 kd] w (SR G w gm L (E + 2)) := by
  have HSAME : Hid (∀ w', Below w.heap.size w w' → MemS G w' gm L (E + 2) ∧ GrewS G w w') := fun w' hb => ⟨(hM.below hb).mono (by omega), GrewS.of_below hb⟩
  obtain ⟨gl0, cap0, m0, hL200⟩ := hM.head
  by_cases h0 : at' < 0
  · clear hM hU
    go_enter Tryz.func85, Tryz.ntmps85
    go_wp2_with fail
    go_ret
    exact ⟨⟨_, rfl⟩, HSAME.out _ (by (repeat (first | with_reducible exact Below.refl _ _ | with_reducible assumption | with_reducible refine below_drewN ?_ _ | with_reducible refine Below.drew ?_ | with_reducible refine Below.alloc ?_ (by first | omega | (simp; omega) | simp) _ | with_reducible refine Below.setCell ?_ (by first | omega | (simp; omega) | simp) _)))⟩
  obtain ⟨n, hn8⟩ : ∃ n : Nat, at' / 8 = n := ⟨(at' / 8).toNat, by omega⟩
  obtain ⟨r, hr⟩ : ∃ r : Nat, at' % 8 = r := ⟨(at' % 8).toNat, by omega⟩
  have hr8 : r < 8 := by omega
  have tq : at'.tdiv 8 = (n : Int) := by rw [Int.tdiv_eq_ediv_of_nonneg (by omega)]; exact hn8
  have tm : at'.tmod 8 = (r : Int) := by rw [Int.tmod_eq_emod_of_nonneg (by omega)]; exact hr
  have h0' : 0 ≤ at' := by omega
  have hn64 : (n : Int) ≤ 1152921504606846975 := by omega
  by_cases hn : n < L
  · have hhas : hasB (n : Int) L = true := by simp [hasB]; omega
    have ni0 : (0 : Int) ≤ (n : Int) := by omega
    have ni1 : (n : Int) < (L : Int) := by omega
    cases hv : wordB val with
    | false =>
      clear hM hU tm h0
      go_enter Tryz.func85, Tryz.ntmps85
      go_wp2_with fail
      refine (shas_calls _ gm L (n : Int) _ _ m0 hL200).mono ?_
      rintro e w1 ⟨rfl, rfl⟩
      rw [hhas]
      go_wp2_with fail
      refine (sword_calls _ val).mono ?_
      rintro e w1 ⟨rfl, rfl⟩
      rw [hv]
      go_wp2_with fail
      go_ret
      exact ⟨⟨_, rfl⟩, HSAME.out _ (by (repeat (first | with_reducible exact Below.refl _ _ | with_reducible assumption | with_reducible refine below_drewN ?_ _ | with_reducible refine Below.drew ?_ | with_reducible refine Below.alloc ?_ (by first | omega | (simp; omega) | simp) _ | with_reducible refine Below.setCell ?_ (by first | omega | (simp; omega) | simp) _)))⟩
    | true =>
      have hvi : 0 ≤ val ∧ val ≤ 1099511627775 := by simpa [wordB] using hv
      have HU := Lib.hid hU
      clear h0 hU
      go_enter Tryz.func85, Tryz.ntmps85
      go_wp2_with fail
      refine (shas_calls _ gm L (n : Int) _ _ m0 hL200).mono ?_
      rintro e w1 ⟨rfl, rfl⟩
      rw [hhas]
      go_wp2_with fail
      refine (sword_calls _ val).mono ?_
      rintro e w1 ⟨rfl, rfl⟩
      rw [hv]
      go_wp2_with fail
      refine (sstate_calls G _ gm L E (n : Int) hM).mono ?_
      rintro e w2 ⟨⟨st, rfl⟩, hb2⟩
      by_cases hst : st = 2
      · have bst : (st == 2) = true := by simp [hst]
        clear hst hM tm
        go_wp2_with fail
        go_ret
        exact ⟨⟨_, rfl⟩, HSAME.out _ hb2⟩
      · have bst : (st == 2) = false := by simp [hst]
        clear hst HSAME
        have hM2 := hM.below hb2
        have HU2 := Lib.hid (HU.out.mono hb2.size)
        have HGB := Lib.hid (GrewS.of_below (G := G) hb2)
        clear m0 hM hL200
        obtain ⟨gl, cap, cur, sp, Ae, ne, ce, xs, h1, h2, hS, hL, h3, hP, hEv, hne, g1, g2, g3⟩ := hM2
        obtain ⟨f, c, v, m, ps, a, b, d, e, e1, e2, e3, e4, e5⟩ := hP n hn
        obtain ⟨Av, cv, rfl⟩ := (Rd.own e2).form
        have m0 := hS.cell 0
        simp only [List.getElem?_toArray, List.getElem?_cons_zero] at m0
        have l9 := (hL.cell (n * 11 + 9)).trans d
        have f9 := hL.free (n * 11 + 9)
        have hgl := hL.lt
        have hgm := hS.lt
        obtain ⟨i0, hi0, hz0, hz1, hz2⟩ := info_parts st_info
        have HP := Lib.hid hP
        have HEV := Lib.hid hEv
        clear hP hEv
        have hown : (w2.alloc (.cells #[] 137)).ownsRow w2.heap.size 137 2 (.slice (some ⟨w2.heap.size, 0, none⟩) 0 0) 0 [] := World.ownsRow_made w2 #[] 0 (Nat.le_refl _) (by simp [maxLen]) rfl
        go_upto_region 7 with (fail)
        go_cut [9] (fun l wx => ∃ A c, l = .slice A ps.length c ∧ Below w2.heap.size w2 wx ∧ wx.ownsRow w2.heap.size 137 2 (.slice A ps.length c) ps.length (stCells ps))
        case first =>
          cases Av with
          | none =>
            obtain ⟨_, A', c', hv', hc', _, hnil, _⟩ := Rd.own e2
            injection hv' with hA' _ hcc
            have hc0 : cv = 0 := by rw [hcc]; exact hnil hA'.symm
            have hps : ps = [] := List.eq_nil_of_length_eq_zero (by omega)
            clear hA' hcc hnil hc'
            subst hps
            subst hc0
            simp only [List.length_nil] at l9
            clear d e2 e5
            go_wp2_with fail
            go_meet
            exact ⟨_, _, rfl, by (repeat (first | with_reducible exact Below.refl _ _ | with_reducible assumption | with_reducible refine below_drewN ?_ _ | with_reducible refine Below.drew ?_ | with_reducible refine Below.alloc ?_ (by first | omega | (simp; omega) | simp) _ | with_reducible refine Below.setCell ?_ (by first | omega | (simp; omega) | simp) _)), hown⟩
          | some ad =>
            have hnews := Rd.news ((Rd.own e2).below (show Below w2.heap.size w2 (w2.alloc (.cells #[] 137)) by (repeat (first | with_reducible exact Below.refl _ _ | with_reducible assumption | with_reducible refine below_drewN ?_ _ | with_reducible refine Below.drew ?_ | with_reducible refine Below.alloc ?_ (by first | omega | (simp; omega) | simp) _ | with_reducible refine Below.setCell ?_ (by first | omega | (simp; omega) | simp) _))))
            have HN := Lib.hid hnews
            have HL := Lib.hid (Rd.own e2).1
            go_wp2_with (at_builtin; refine wpList_append_own _ rfl _ _ 86 rfl w2.heap.size 137 i0 (.agg #[.int .i64 0, .int .i64 0]) 2 16 Tryz.underlying86 hi0 hz0 hz1 hz2 rfl (by decide) (.slice (some ⟨w2.heap.size, 0, none⟩) 0 0) 0 [] rfl hown ad ps.length cv (stCells ps) rfl HL.out HN.out (st_one ps) (by unfold maxLen; omega) (by omega) (by simp) ?_; intro v' w3 hown1 hg1 hv1)
            obtain ⟨_, A, c1, hv, _⟩ := Rd.own hown1
            simp only [Nat.zero_add] at hv
            subst hv
            go_meet
            exact ⟨A, c1, rfl, Below.grown (by (repeat (first | with_reducible exact Below.refl _ _ | with_reducible assumption | with_reducible refine below_drewN ?_ _ | with_reducible refine Below.drew ?_ | with_reducible refine Below.alloc ?_ (by first | omega | (simp; omega) | simp) _ | with_reducible refine Below.setCell ?_ (by first | omega | (simp; omega) | simp) _))) hg1 (by simp) (by simp [Value.ownBlock]), by simpa using hown1⟩
        case rest =>
          obtain ⟨A, c1, rfl, hb3, hown3⟩ := hcut
          obtain ⟨w3, hw3⟩ : ∃ x : World, x = wc := ⟨_, rfl⟩
          subst hw3
          have hs3 := hb3.size
          have HE2 := Lib.hid e2
          have HE5 := Lib.hid e5
          have HD := Lib.hid d
          have HX := Lib.hid (And.intro a (And.intro b e))
          have HE1 := Lib.hid e1
          clear hown l9 d e2 e5 a b e e1
          go_wp2_with (at_builtin; refine wpList_append_lies _ rfl _ _ _ (by rfl) w2.heap.size 137 i0 _ 2 16 Tryz.underlying86 hi0 hz0 hz1 hz2 rfl (by omega) (.slice A ps.length c1) ps.length (stCells ps) (by rfl) (hown3.alloc _) ⟨w3.heap.size, 0, none⟩ 1 1 [.int .i64 (r : Int), .int .i64 val] (by rfl) (by rfl) (World.news_of_block (cs := #[.int .i64 (r : Int), .int .i64 val]) (t := 137) (fr := (0, 0)) (heap_alloc_new w3 _)) (by simp [Value.oneCell']) (by omega) (by unfold maxLen; omega) (by omega) (by simp; omega) (w3.heap.size + 1) (by simp) ?_; intro gg cc w4 hown4 hgrow hat hlt; (have hb4 : Below w2.heap.size w2 w4 := Below.grown (show Below w2.heap.size w2 _ by (repeat (first | with_reducible exact Below.refl _ _ | with_reducible assumption | with_reducible refine below_drewN ?_ _ | with_reducible refine Below.drew ?_ | with_reducible refine Below.alloc ?_ (by first | omega | (simp; omega) | simp) _ | with_reducible refine Below.setCell ?_ (by first | omega | (simp; omega) | simp) _))) hgrow (by simp; omega) (fun k hk => (hown3.lt k hk).1)); (have em0 := (hb4.cell (p := ⟨gm, 0, none⟩) hgm).trans m0); (have hLw := hL.below hb4 hgl); (have ef9 := hLw.free (n * 11 + 9)); (have ex9 := (hLw.cell (n * 11 + 9)).trans HD.out); (have hglw := hLw.lt))
          have hS4 := hS.below hb4 hgm
          have HROW := Lib.hid (MemS.mid (E := E + 1) (n := n) h1 h2 hS hL (fun i hi => by
            obtain ⟨f, c, v, m, ps, a, b, d, e, e1, e2, e3, e4, e5⟩ := HP.out i hi
            exact ⟨f, c, v, m, ps, a, b, d, e, e1, e2, by omega, e4, e5⟩) HEV.out (by omega) g1 g2 g3 ((MidS.start hL hb4).set (n * 11 + 9) (.slice (some ⟨gg, 0, none⟩) (ps.length + 1) cc)) (by simpa using h3) (fun i j hi hj => Array.getElem?_setIfInBounds_ne (fun h => hi (by omega))) ⟨f, c, _, m, ps ++ [(r, val)], fun j hj => (Array.getElem?_setIfInBounds_ne (by omega)).trans (HX.out.1 j hj), (Array.getElem?_setIfInBounds_ne (by omega)).trans HX.out.2.1, Array.getElem?_setIfInBounds_self_of_lt (by omega), (Array.getElem?_setIfInBounds_ne (by omega)).trans HX.out.2.2, by have := HE1.out; simp; omega, by
              rw [stCells_snoc, List.length_append]
              exact own_far (own_base hown4 (Nat.zero_le _)) hLw (by decide) _ _, by simp; omega, fun p hp => by
              rcases List.mem_append.1 hp with hp | hp
              · exact e4 p hp
              · rw [List.mem_singleton] at hp
                rw [hp]
                exact ⟨hr8, hvi.1, hvi.2⟩, fun b hb => by
              simp only [Value.ownBlock, Option.some.injEq] at hb
              subst hb
              rcases hat with h | h
              · exact HU2.out _ (hown3.lt _ h).1
              · exact HU2.out _ (by omega)⟩)
          obtain ⟨w5, hw5⟩ : ∃ x, x = w4.setCell ⟨gl, n * 11 + 9, none⟩ (.slice (some ⟨gg, 0, none⟩) (ps.length + 1) cc) := ⟨_, rfl⟩
          rw [← hw5] at HROW ⊢
          clear hw5
          obtain ⟨hM5, hg5⟩ := HROW.out
          have HG5 := Lib.hid (HGB.out.trans hg5)
          have HU5 := Lib.hid (HU2.out.mono hg5.size)
          clear hM5 hg5 h1 h2 hS hL h3 HP HEV hne g1 g2 g3 hb4 em0 hLw ef9 ex9 hglw hS4 hown4 hgrow hat hlt hown3 hb3 m0 f9 hgl hgm HX HD HE1 HE2 HE5 hb2 hs3
          obtain ⟨hM5, -⟩ := HROW.out
          clear HROW
          obtain ⟨gl, cap, cur, sp, Ae, ne, ce, xs, h1, h2, hS, hL, h3, hP, hEv, hne, g1, g2, g3⟩ := hM5
          obtain ⟨j0, hj0, hy0, hy1, hy2⟩ := info_parts ev_info
          have m1 := hS.cell 1
          have m2 := hS.cell 2
          have f2 := hS.free 2
          simp only [List.getElem?_toArray, List.getElem?_cons_succ, List.getElem?_cons_zero] at m1 m2
          have HP := Lib.hid hP
          clear hP
          have ag : some gm ≠ (Value.slice Ae ne ce).ownBlock := own_ne hEv hS (by decide)
          have hgm := hS.lt
          go_region_law
            ((refine step_append_lies _ (by rfl) _ _ _ (by rfl) 0 111 j0 _ 12 96 Tryz.underlying90 hj0 hy0 hy1 hy2 rfl (by omega) (.slice Ae ne ce) ne xs (by rfl) ((hEv.alloc _).drew)
                ⟨w5.heap.size, 0, none⟩ 1 1 [.int .i64 kd, .int .i64 at', .int .i64 val, .int .i64 sp, .int .i64 0, .int .i64 0, .int .i64 0, .int .i64 0, .int .i64 0, .int .i64 0, .int .i64 0, .int .i64 0] (by rfl) (by rfl) (World.news_of_block (cs := #[.int .i64 kd, .int .i64 at', .int .i64 val, .int .i64 sp, .int .i64 0, .int .i64 0, .int .i64 0, .int .i64 0, .int .i64 0, .int .i64 0, .int .i64 0, .int .i64 0]) (t := 111) (fr := (0, 0)) (heap_alloc_new w5 _)) (by simp [Value.oneCell'])
                (by omega) (by unfold maxLen; omega) (by omega) (by simp) (w5.heap.size + 1) (by simp) ?_; intro gg cc w6 hown1 hgrow hat hlt; (have hGw := Cl.grown ((hS.alloc _).drew) hgrow ag); (have c2w : w6.cell? ⟨gm, 2, none⟩ = some (.slice Ae ne ce) := hGw.cell 2); (have f2w := hGw.free 2); (have lgw := hGw.lt)))
          all_goals
            go_wp2_with fail
            go_ret
            obtain ⟨q1, q2⟩ := MemS.ev h1 h2 hS hL h3 HP.out (by omega) g1 g2 g3 (show Below w5.heap.size w5 _ by (repeat (first | with_reducible exact Below.refl _ _ | with_reducible assumption | with_reducible refine below_drewN ?_ _ | with_reducible refine Below.drew ?_ | with_reducible refine Below.alloc ?_ (by first | omega | (simp; omega) | simp) _ | with_reducible refine Below.setCell ?_ (by first | omega | (simp; omega) | simp) _))) ((hEv.alloc _).drew) hgrow (by rcases hat with h | h; exact g3 gg h; exact HU5.out gg (by omega)) hown1
            exact ⟨⟨_, rfl⟩, q1, HG5.out.trans q2⟩
  · have hhas : hasB (n : Int) L = false := by simp [hasB]; omega
    clear hM hU tm hn hn8 h0
    go_enter Tryz.func85, Tryz.ntmps85
    go_wp2_with fail
    refine (shas_calls _ gm L (n : Int) _ _ m0 hL200).mono ?_
    rintro e w1 ⟨rfl, rfl⟩
    rw [hhas]
    go_wp2_with fail
    go_ret
    exact ⟨⟨_, rfl⟩, HSAME.out _ (by (repeat (first | with_reducible exact Below.refl _ _ | with_reducible assumption | with_reducible refine below_drewN ?_ _ | with_reducible refine Below.drew ?_ | with_reducible refine Below.alloc ?_ (by first | omega | (simp; omega) | simp) _ | with_reducible refine Below.setCell ?_ (by first | omega | (simp; omega) | simp) _)))⟩

set_option maxRecDepth 100000 in
set_option maxHeartbeats 1000000 in
theorem sstore_calls (G : Nat → Prop) (w : World) (gm L E : Nat) (at' val : Int) (hM : MemS G w gm L E) (hE : E ≤ 900) (hU : Up G w.heap.size) (h64 : at' ≤ 9223372036854775807) :
    Calls Tryz.prog 53 #[.pointer (some ⟨gm, 0, none⟩), .int .i64 at', .int .i64 val] w (SR G w gm L (E + 2)) := by
  have HM := Lib.hid hM
  have HU := Lib.hid hU
  clear hM hU
  go_enter Tryz.func53, Tryz.ntmps53
  go_wp2_with fail
  refine (sput_calls G _ gm L E at' val _ HM.out hE HU.out h64).mono ?_
  rintro e w1 ⟨⟨rr, rfl⟩, hp⟩
  go_wp2_with fail
  go_ret
  exact ⟨⟨rr, rfl⟩, hp⟩
set_option maxRecDepth 100000 in
set_option maxHeartbeats 1000000 in
theorem spublish_calls (G : Nat → Prop) (w : World) (gm L E : Nat) (at' val : Int) (hM : MemS G w gm L E) (hE : E ≤ 900) (hU : Up G w.heap.size) (h64 : at' ≤ 9223372036854775807) :
    Calls Tryz.prog 54 #[.pointer (some ⟨gm, 0, none⟩), .int .i64 at', .int .i64 val] w (SR G w gm L (E + 2)) := by
  have HM := Lib.hid hM
  have HU := Lib.hid hU
  clear hM hU
  go_enter Tryz.func54, Tryz.ntmps54
  go_wp2_with fail
  refine (sput_calls G _ gm L E at' val _ HM.out hE HU.out h64).mono ?_
  rintro e w1 ⟨⟨rr, rfl⟩, hp⟩
  go_wp2_with fail
  go_ret
  exact ⟨⟨rr, rfl⟩, hp⟩
end Go.Proofs.YtckamjbdogpacaaGreatDoor
