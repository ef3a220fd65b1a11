/-
  put and Store.
-/
import Derived.Test.YtckamjbdogpacaaGreatDoorMemB
namespace Go.Proofs.YtckamjbdogpacaaGreatDoor
open Go.RowKit

def upd (P : Nat → List (Nat × Int)) (n : Nat) (x : Nat × Int) : Nat → List (Nat × Int) := fun i => if i = n then P i ++ [x] else P i
theorem upd_self (P : Nat → List (Nat × Int)) (n : Nat) (x : Nat × Int) : upd P n x n = P n ++ [x] := by simp [upd]
theorem upd_ne {P : Nat → List (Nat × Int)} {n i : Nat} (x : Nat × Int) (h : i ≠ n) : upd P n x i = P i := by simp [upd, h]
theorem stCells_snoc (ps : List (Nat × Int)) (x : Nat × Int) : stCells (ps ++ [x]) = stCells ps ++ [.int .i64 (x.1 : Int), .int .i64 x.2] := by simp [stCells]
theorem own_apart {w w' : World} {base : Nat} {e : TypeId} {size n : Nat} {v v0 : Value} {xs : List Value} (ho : w.ownsRow base e size v n xs) (hgr : w.grownBy w' v0.ownBlock) (hne : ∀ b, v.ownBlock = some b → v0.ownBlock ≠ some b) : w'.ownsRow base e size v n xs := by
  refine ⟨ho.1, ?_⟩
  rcases ho.2 with hn | ⟨g, cap, cur, rfl, hbg, hg, rest⟩
  · exact .inl hn
  · exact .inr ⟨g, cap, cur, rfl, hbg, (hgr.block g (lt_of_heap hg) (fun h => hne g rfl h.symm)).trans hg, rest⟩

def StorePost (base : Nat) (w : World) (gm L : Nat) (P : Nat → List (Nat × Int)) (E : Nat) (w' : World) : Prop := MemIs base w' gm L P E ∧ GrewM base w w'

theorem stored {base : Nat} {w wn w1 : World} {gm L n : Nat} {P : Nat → List (Nat × Int)} {E gl gb gg cap : Nat} {cur : Array Value} {Ae : Option Addr} {ne ce : Nat} {xs : List Value} {es : Array MapEntry} {ck : Nat} {x : Nat × Int} {v : Value} {m : Int}
    (g1 : base ≤ gm) (g2 : base ≤ gl) (g3 : base ≤ gb) (hL : L ≤ 200) (hG : Cl w gm 92 #[.slice (some ⟨gl, 0, none⟩) L L, .map (some gb), .int .i64 0, .slice Ae ne ce]) (hLn : Cl w gl 88 cur)
    (hZ : ZeroLines cur L) (hP : Pend w base cur L P) (hA : ApartP cur L) (hEv : w.ownsRow base 111 12 (.slice Ae ne ce) ne xs) (hne : ne ≤ E) (hB : w.heap[gb]? = some (.map es ck)) (hK : ∀ x ∈ es.toList, MapKept.IsKey (.int .i64) x.key)
    (hn : n < L) (hv : cur[n * 11 + 9]? = some v) (hmk : cur[n * 11 + 10]? = some (.int .i64 m)) (hrow : w.ownsRow base 137 2 v (P n).length (stCells (P n))) (hlen : (P n).length + 1 ≤ 100)
    (hbel : Below w.heap.size w wn) (hgr : wn.grownBy w1 v.ownBlock) (hown : w1.ownsRow base 137 2 (.slice (some ⟨gg, 0, none⟩) ((P n).length + 1) cap) ((P n).length + 1) (stCells (P n) ++ [.int .i64 (x.1 : Int), .int .i64 x.2]))
    (hat : v.ownBlock = some gg ∨ w.heap.size ≤ gg) :
    StorePost base w gm L (upd P n x) E (w1.setCell ⟨gl, n * 11 + 9, none⟩ (.slice (some ⟨gg, 0, none⟩) ((P n).length + 1) cap)) := by
  have hrown := own_below hrow hbel
  have hgw := Grew.of_grown hrown hgr
  have hG1 := hgw.cl (hG.below hbel hG.lt) (.inl (by decide))
  have hL1 := hgw.cl (hLn.below hbel hLn.lt) (.inl (by decide))
  have hB1 := hgw.map ((hbel.block gb (lt_of_heap hB)).trans hB)
  have hE1 := hgw.own (own_below hEv hbel) (by decide)
  have hsz : n * 11 + 9 < cur.size := by rw [hZ.1]; omega
  refine ⟨⟨gl, gb, _, Ae, ne, ce, xs, es, ck, g1, g2, g3, hL, hG1.far (Cl.apart hG1 hL1 (by decide)) _, hL1.set_ _ _, hZ.set _ _ (fun i j hi hj he => by omega), fun i hi => ?_, ?_, own_far hE1 hL1 (by decide) _ _, hne, map_far hB1 hL1 _, hK⟩, ?_⟩
  · by_cases hin : i = n
    · subst hin
      refine ⟨_, m, Array.getElem?_setIfInBounds_self_of_lt hsz, ?_, ?_, ?_⟩
      · rw [Array.getElem?_setIfInBounds_ne (by omega)]; exact hmk
      · rw [upd_self, stCells_snoc, List.length_append]
        exact own_far hown hL1 (by decide) _ _
      · rw [upd_self, List.length_append]; exact hlen
    · obtain ⟨v', m', a, b, c, d⟩ := hP i hi
      refine ⟨v', m', ?_, ?_, ?_, ?_⟩
      · rw [Array.getElem?_setIfInBounds_ne (by omega)]; exact a
      · rw [Array.getElem?_setIfInBounds_ne (by omega)]; exact b
      · rw [upd_ne x hin]
        exact own_far (own_apart (own_below c hbel) hgr (fun bb hbb hvb => hA i n hi hn hin v' v a hv bb hbb hvb)) hL1 (by decide) _ _
      · rw [upd_ne x hin]; exact d
  · have hgg : ∀ i v', i < L → i ≠ n → cur[i * 11 + 9]? = some v' → v'.ownBlock ≠ some gg := by
      intro i v' hi hin hv' hbb
      rcases hat with h | h
      · exact hA i n hi hn hin v' v hv' hv gg hbb h
      · obtain ⟨v2, m2, a, _, c, _⟩ := hP i hi
        rw [a] at hv'
        injection hv' with hv'
        subst hv'
        have := (c.lt gg hbb).2
        omega
    intro i j hi hj hij v1 v2 h1 h2 b hb hb2
    by_cases hin : i = n
    · subst hin
      rw [Array.getElem?_setIfInBounds_self_of_lt hsz] at h1
      injection h1 with h1
      subst h1
      rw [Array.getElem?_setIfInBounds_ne (by omega)] at h2
      simp only [Value.ownBlock, Option.some.injEq] at hb
      subst hb
      exact hgg j v2 hj (Ne.symm hij) h2 hb2
    · rw [Array.getElem?_setIfInBounds_ne (by omega)] at h1
      by_cases hjn : j = n
      · subst hjn
        rw [Array.getElem?_setIfInBounds_self_of_lt hsz] at h2
        injection h2 with h2
        subst h2
        simp only [Value.ownBlock, Option.some.injEq] at hb2
        subst hb2
        exact hgg i v1 hi hin h1 hb
      · rw [Array.getElem?_setIfInBounds_ne (by omega)] at h2
        exact hA i j hi hj hij v1 v2 h1 h2 b hb hb2
  · exact ((GrewM.of_below hbel).trans (GrewM.of_grew hgw (by decide))).trans (GrewM.set hL1 g2 (by decide) _ _)

/-- One more busy line is noted. -/
theorem busied {base : Nat} {w w' : World} {gm L : Nat} {P : Nat → List (Nat × Int)} {E gl gb : Nat} {cur : Array Value} {Ae : Option Addr} {ne ce : Nat} {xs : List Value} {es es' : Array MapEntry} {ck ck' : Nat}
    (g1 : base ≤ gm) (g2 : base ≤ gl) (g3 : base ≤ gb) (hL : L ≤ 200) (hG : Cl w gm 92 #[.slice (some ⟨gl, 0, none⟩) L L, .map (some gb), .int .i64 0, .slice Ae ne ce]) (hLn : Cl w gl 88 cur)
    (hZ : ZeroLines cur L) (hP : Pend w base cur L P) (hA : ApartP cur L) (hEv : w.ownsRow base 111 12 (.slice Ae ne ce) ne xs) (hne : ne ≤ E) (hB : w.heap[gb]? = some (.map es ck))
    (hB' : w'.heap[gb]? = some (.map es' ck')) (hK' : ∀ x ∈ es'.toList, MapKept.IsKey (.int .i64) x.key) (o1 : w'.os = w.os) (o2 : w'.tape = w.tape) (o3 : w'.output = w.output) (o4 : w'.heap.size = w.heap.size) (o5 : ∀ g, g ≠ gb → w'.heap[g]? = w.heap[g]?) :
    StorePost base w gm L P E w' := by
  have cl : ∀ {g : Nat} {t : TypeId} {cs : Array Value}, Cl w g t cs → Cl w' g t cs := by
    intro g t cs h
    refine (o5 g ?_).trans h
    rintro rfl
    unfold Cl at h
    rw [hB] at h
    cases h
  have own : ∀ {e : TypeId} {size n : Nat} {v : Value} {ys : List Value}, w.ownsRow base e size v n ys → w'.ownsRow base e size v n ys := by
    intro e size n v ys h
    refine ⟨h.1, ?_⟩
    rcases h.2 with hn | ⟨g, cap, cu, rfl, hbg, hg, rest⟩
    · exact .inl hn
    · exact .inr ⟨g, cap, cu, rfl, hbg, cl (t := e) hg, rest⟩
  refine ⟨⟨gl, gb, cur, Ae, ne, ce, xs, es', ck', g1, g2, g3, hL, cl hG, cl hLn, hZ, fun i hi => ?_, hA, own hEv, hne, hB', hK'⟩, o1, o2, o3, by omega, fun g hg => ?_⟩
  · obtain ⟨v, m, a, b, c, d⟩ := hP i hi
    exact ⟨v, m, a, b, own c, d⟩
  · by_cases hgb : g = gb
    · subst hgb
      exact .inr ⟨g3, .inr ⟨es, ck, hB⟩⟩
    · exact .inl (o5 g hgb)

set_option maxRecDepth 100000 in
set_option maxHeartbeats 4000000 in
theorem put_calls (base : Nat) (w : World) (gm L n r : Nat) (kd at' val : Int) (P : Nat → List (Nat × Int)) (E : Nat) (hM : MemIs base w gm L P E) (hE : E ≤ 1000) (hn : n < L) (h0 : 0 ≤ at') (h1 : at' ≤ 100000) (h8 : at' / 8 = (n : Int)) (hr : at' % 8 = (r : Int)) (hv0 : 0 ≤ val) (hv1 : val ≤ 1000000000) (hlen : (P n).length ≤ 50) (hbase : base ≤ w.heap.size) :
    Calls Tryz.prog 44 #[.pointer (some ⟨gm, 0, none⟩), .int .i64 kd, .int .i64 at', .int .i64 val, .func (.func 45) #[.pointer (some ⟨gm, 0, none⟩)] #[]] w
      fun e w' => e = .returned (.int .i64 0) ∧ StorePost base w gm L (upd P n (r, val)) (E + 1) w' := by
  obtain ⟨i0, hi0, hz0, hz1, hz2⟩ := info_parts st_info
  obtain ⟨gl0, A0, c0, _, _, _, m0, hL200⟩ := hM.line hn
  have hr8 : r < 8 := by omega
  have tm : at'.tmod 8 = (r : Int) := by rw [Int.tmod_eq_emod_of_nonneg h0]; exact hr
  go_enter Tryz.func44, Tryz.ntmps44
  go_wp2_with fail
  refine (has_yes _ gm L n _ _ m0 hn hL200).mono ?_
  rintro e w1 ⟨rfl, rfl⟩
  go_wp2_with fail
  refine (mword_yes _ val hv0 hv1).mono ?_
  rintro e w1 ⟨rfl, rfl⟩
  go_wp2_with fail
  refine (state_zero base _ gm L n P E hM hn).mono ?_
  rintro e w2 ⟨rfl, hb2⟩
  have hM2 := hM.below hb2
  have hbase2 : base ≤ w2.heap.size := Nat.le_trans hbase hb2.size
  clear m0 hM
  obtain ⟨gl, gb, cur, Ae, ne, ce, xs, es, ck, g1, g2, g3, _, hG, hLn, hZ, hP, hA, hEv, hne, hB, hK⟩ := hM2
  obtain ⟨v, m, hv, hmk, hrow, hl⟩ := hP n hn
  obtain ⟨Av, cv, rfl⟩ := (Rd.own hrow).form
  have m0 := hG.cell 0
  have m1 := hG.cell 1
  have m2 := hG.cell 2
  simp only [List.getElem?_toArray, List.getElem?_cons_succ, List.getElem?_cons_zero] at m0 m1 m2
  have l9 := (hLn.cell (n * 11 + 9)).trans hv
  have f9 := hLn.free (n * 11 + 9)
  have hgl := hLn.lt
  have hgm := hG.lt
  have al : some gl ≠ (Value.slice Av (P n).length cv).ownBlock := own_ne hrow hLn (by decide)
  have ag : some gm ≠ (Value.slice Av (P n).length cv).ownBlock := own_ne hrow hG (by decide)
  have HP := Lib.hid hP
  have HZ := Lib.hid hZ
  have HA := Lib.hid hA
  have HK := Lib.hid hK
  have HB := Lib.hid hB
  have HV := Lib.hid hv
  have HMK := Lib.hid hmk
  clear hP hZ hA hK hB hv hmk
  go_upto_region 2 with (fail)
  go_cut [] (fun wx => StorePost base w2 gm L (upd P n (r, val)) E wx)
  case first =>
    go_region_law
      ((refine step_append_lies _ (by rfl) _ _ _ (by rfl) base 137 i0 _ 2 16 Tryz.underlying86 hi0 hz0 hz1 hz2 rfl (by omega) (.slice Av (P n).length cv) (P n).length (stCells (P n)) (by rfl) ((hrow.alloc _).drew)
          ⟨w2.heap.size, 0, none⟩ 1 1 [.int .i64 (r : Int), .int .i64 val] (by rfl) (by rfl) (World.news_of_block (cs := #[.int .i64 (r : Int), .int .i64 val]) (t := 137) (fr := (0, 0)) (heap_alloc_new w2 _)) (by simp [Value.oneCell'])
          (by omega) (by unfold maxLen; omega) (by omega) (by simp; omega) (w2.heap.size + 1) (by simp) ?_; intro gg cap w3 hown1 hgrow hat hlt3; (have hGw := Cl.grown ((hG.alloc _).drew) hgrow ag); (have hLw := Cl.grown ((hLn.alloc _).drew) hgrow al); (have c0w : w3.cell? ⟨gm, 0, none⟩ = some (.slice (some ⟨gl, 0, none⟩) L L) := hGw.cell 0); (have c9w := (hLw.cell (n * 11 + 9)).trans HV.out); (have f9w := hLw.free (n * 11 + 9))))
    all_goals
      go_wp2_with fail
      go_meet
      exact stored (x := (r, val)) g1 g2 g3 hL200 hG hLn HZ.out HP.out HA.out hEv hne HB.out HK.out hn HV.out HMK.out hrow (by omega) (by (repeat (first | with_reducible exact Below.refl _ _ | with_reducible assumption | with_reducible refine below_drewN ?_ _ | with_reducible refine Below.drew ?_ | with_reducible refine Below.alloc ?_ (by first | omega | (simp; omega) | simp) _ | with_reducible refine Below.setCell ?_ (by first | omega | (simp; omega) | simp) _))) hgrow hown1 (hat.imp id (fun h => by omega))
  case rest =>
    obtain ⟨hM3, hgr3⟩ := hcut
    obtain ⟨w3, hw3⟩ : ∃ x : World, x = wc := ⟨_, rfl⟩
    subst hw3
    have hg03 : GrewM base w w3 := (GrewM.of_below hb2).trans hgr3
    clear hgr3 hb2 hG hLn hEv HP HZ HA HK HB HV HMK hrow m0 m1 m2 l9 f9 hgl hgm al ag
    obtain ⟨gl, gb, cur, Ae, ne, ce, xs, es, ck, g1, g2, g3, _, hG, hLn, hZ, hP, hA, hEv, hne, hB, hK⟩ := hM3
    obtain ⟨es', ck', w4, hrun, hB', hK', o1, o2, o3, o4, o5⟩ := run_busy (n : Int) hB hK
    obtain ⟨hM4, hgr4⟩ := busied g1 g2 g3 hL200 hG hLn hZ hP hA hEv hne hB hB' hK' o1 o2 o3 o4 o5
    have hg04 := hg03.trans hgr4
    have m1 := hG.cell 1
    have m2 := (o5 gm (by rintro rfl; have := hG; unfold Cl at this; rw [hB] at this; cases this)).trans hG
    have m2' : w4.cell? ⟨gm, 2, none⟩ = some (.int .i64 0) := Cl.cell (w := w4) (t := 92) m2 2
    simp only [List.getElem?_toArray, List.getElem?_cons_succ, List.getElem?_cons_zero] at m1
    have HM4 := Lib.hid hM4
    clear hP hZ hA hK hB hK' hB' o1 o2 o3 o4 o5 hEv hG hLn hM4 hgr4 hg03 m2
    go_wp2_with fail
    refine (note_calls base _ gm L _ E HM4.out (by omega) _ _ _ _).mono ?_
    rintro e w5 ⟨rfl, hM5, hgr5⟩
    go_wp2_with fail
    go_ret
    exact ⟨rfl, hM5, hg04.trans hgr5⟩

set_option maxRecDepth 100000 in
set_option maxHeartbeats 1000000 in
theorem store_calls (base : Nat) (w : World) (gm L n r : Nat) (at' val : Int) (P : Nat → List (Nat × Int)) (E : Nat) (hM : MemIs base w gm L P E) (hE : E ≤ 1000) (hn : n < L) (h0 : 0 ≤ at') (h1 : at' ≤ 100000) (h8 : at' / 8 = (n : Int)) (hr : at' % 8 = (r : Int)) (hv0 : 0 ≤ val) (hv1 : val ≤ 1000000000) (hlen : (P n).length ≤ 50) (hbase : base ≤ w.heap.size) :
    Calls Tryz.prog 16 #[.pointer (some ⟨gm, 0, none⟩), .int .i64 at', .int .i64 val] w
      fun e w' => e = .returned (.int .i64 0) ∧ StorePost base w gm L (upd P n (r, val)) (E + 1) w' := by
  go_enter Tryz.func16, Tryz.ntmps16
  go_wp2_with fail
  refine (put_calls base _ gm L n r 1 at' val P E hM hE hn h0 h1 h8 hr hv0 hv1 hlen hbase).mono ?_
  rintro e w1 ⟨rfl, hp⟩
  go_wp2_with fail
  go_ret
  exact ⟨rfl, hp⟩
end Go.Proofs.YtckamjbdogpacaaGreatDoor
