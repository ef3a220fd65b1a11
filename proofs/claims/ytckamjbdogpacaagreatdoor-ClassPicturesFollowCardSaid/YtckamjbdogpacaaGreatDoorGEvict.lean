/-
  settle: the first pending stores of a line become durable.
  Evict over a memory of any content.
-/
import Derived.Test.YtckamjbdogpacaaGreatDoorGRest
namespace Go.Proofs.YtckamjbdogpacaaGreatDoor
open Go.RowKit
set_option linter.unusedSimpArgs false
set_option linter.unusedVariables false

def SettleG (base : Nat) (F : Nat → Prop) (w : World) (gm L E n : Nat) (e : Ending) (w' : World) : Prop := e = .returned (.tuple #[]) ∧ MemW base F w' gm L E ∧ GrewF base F w w' ∧ KeepB w w' gm n

/-- A world in which block 'gl' has other cells, and which else has grown. -/
def Mid (w wr : World) (gl : Nat) (cur : Array Value) : Prop := Cl wr gl 88 cur ∧ wr.os = w.os ∧ wr.tape = w.tape ∧ wr.output = w.output ∧ w.heap.size ≤ wr.heap.size ∧ ∀ g, g < w.heap.size → g ≠ gl → wr.heap[g]? = w.heap[g]?
section
variable {w wr wr' : World} {gl : Nat} {cur : Array Value}
theorem Mid.start (h : Cl w gl 88 cur) (hb : Below w.heap.size w wr) : Mid w wr gl cur := ⟨h.below hb h.lt, hb.os, hb.tape, hb.output, hb.size, fun g hg _ => hb.block g hg⟩
theorem Mid.below (h : Mid w wr gl cur) (hb : Below wr.heap.size wr wr') : Mid w wr' gl cur := by
  obtain ⟨h1, h2, h3, h4, h5, h6⟩ := h
  exact ⟨h1.below hb h1.lt, hb.os.trans h2, hb.tape.trans h3, hb.output.trans h4, Nat.le_trans h5 hb.size, fun g hg hne => (hb.block g (by omega)).trans (h6 g hg hne)⟩
theorem Mid.set (h : Mid w wr gl cur) (i : Nat) (u : Value) : Mid w (wr.setCell ⟨gl, i, none⟩ u) gl (cur.setIfInBounds i u) := by
  obtain ⟨h1, h2, h3, h4, h5, h6⟩ := h
  exact ⟨h1.set_ i u, by simpa [World.setCell] using h2, by simpa [World.setCell] using h3, by simpa [World.setCell] using h4, by simpa [World.setCell] using h5, fun g hg hne => (Below.heap_setCell _ _ _ _ hne).trans (h6 g hg hne)⟩
theorem Mid.heap (h : Mid w wr gl cur) {g : Nat} {o : Obj} (hg : w.heap[g]? = some o) (hne : g ≠ gl) : wr.heap[g]? = some o := (h.2.2.2.2.2 g (lt_of_heap hg) hne).trans hg
theorem Mid.cell (h : Mid w wr gl cur) {g : Nat} (hg : g < w.heap.size) (hne : g ≠ gl) (o : Nat) : wr.cell? ⟨g, o, none⟩ = w.cell? ⟨g, o, none⟩ := cell_of_heap (h.2.2.2.2.2 g hg hne) o
theorem Mid.own (h : Mid w wr gl cur) {cs0 : Array Value} (h0 : Cl w gl 88 cs0) {base : Nat} {t : TypeId} {size n : Nat} {v : Value} {ys : List Value} (ho : w.ownsRow base t size v n ys) (hne : t ≠ 88) : wr.ownsRow base t size v n ys := by
  refine ⟨ho.1, ?_⟩
  rcases ho.2 with hn | ⟨g, cap, cu, rfl, hbg, hg, rest⟩
  · exact .inl hn
  · refine .inr ⟨g, cap, cu, rfl, hbg, h.heap hg ?_, rest⟩
    rintro rfl
    unfold Cl at h0
    rw [h0] at hg
    injection hg with hg
    injection hg with _ ht
    exact hne ht.symm
theorem Mid.gx (h : Mid w wr gl cur) {base : Nat} {T : Nat → Int} (hT : Gx base w T) (hb : base ≤ gl) : Gx base wr T := by
  obtain ⟨h1, h2, h3, h4⟩ := hT
  exact ⟨fun k hk => (h.cell h1.lt (by omega) k).trans (h1 k hk), fun k hk => (h.cell h2.lt (by omega) k).trans (h2 k hk), h3, h4⟩
end

/-- Eight words are stored. -/
def setL (cur : Array Value) (b : Nat) (f : Nat → Int) : Array Value := (((((((cur.setIfInBounds b (.int .i64 (f 0))).setIfInBounds (b + 1) (.int .i64 (f 1))).setIfInBounds (b + 2) (.int .i64 (f 2))).setIfInBounds (b + 3) (.int .i64 (f 3))).setIfInBounds (b + 4) (.int .i64 (f 4))).setIfInBounds (b + 5) (.int .i64 (f 5))).setIfInBounds (b + 6) (.int .i64 (f 6))).setIfInBounds (b + 7) (.int .i64 (f 7))
theorem setL_size (cur : Array Value) (b : Nat) (f : Nat → Int) : (setL cur b f).size = cur.size := by simp [setL]
theorem setL_ne (cur : Array Value) (b : Nat) (f : Nat → Int) (i : Nat) (hi : i < b ∨ b + 8 ≤ i) : (setL cur b f)[i]? = cur[i]? := by
  unfold setL
  repeat rw [Array.getElem?_setIfInBounds_ne (by omega)]
theorem setL_at (cur : Array Value) (b : Nat) (f : Nat → Int) (j : Nat) (hj : j < 8) (hs : b + 8 ≤ cur.size) : (setL cur b f)[b + j]? = some (.int .i64 (f j)) := by
  unfold setL
  match j, hj with
  | 0, _ => (repeat rw [Array.getElem?_setIfInBounds_ne (by omega)]); exact Array.getElem?_setIfInBounds_self_of_lt (by first | omega | (simp; omega))
  | 1, _ => (repeat rw [Array.getElem?_setIfInBounds_ne (by omega)]); exact Array.getElem?_setIfInBounds_self_of_lt (by first | omega | (simp; omega))
  | 2, _ => (repeat rw [Array.getElem?_setIfInBounds_ne (by omega)]); exact Array.getElem?_setIfInBounds_self_of_lt (by first | omega | (simp; omega))
  | 3, _ => (repeat rw [Array.getElem?_setIfInBounds_ne (by omega)]); exact Array.getElem?_setIfInBounds_self_of_lt (by first | omega | (simp; omega))
  | 4, _ => (repeat rw [Array.getElem?_setIfInBounds_ne (by omega)]); exact Array.getElem?_setIfInBounds_self_of_lt (by first | omega | (simp; omega))
  | 5, _ => (repeat rw [Array.getElem?_setIfInBounds_ne (by omega)]); exact Array.getElem?_setIfInBounds_self_of_lt (by first | omega | (simp; omega))
  | 6, _ => (repeat rw [Array.getElem?_setIfInBounds_ne (by omega)]); exact Array.getElem?_setIfInBounds_self_of_lt (by first | omega | (simp; omega))
  | 7, _ => exact Array.getElem?_setIfInBounds_self_of_lt (by first | omega | (simp; omega))

/-- Pending stores from the k-th on. -/
theorem stCells_length (ps : List (Nat × Int)) : (stCells ps).length = ps.length * 2 := by
  induction ps with
  | nil => rfl
  | cons p ps ih =>
    show ([Value.int .i64 (p.1 : Int), .int .i64 p.2] ++ stCells ps).length = _
    simp [ih]; omega
theorem stCells_drop (ps : List (Nat × Int)) (k : Nat) : stCells (ps.drop k) = (stCells ps).drop (k * 2) := by
  induction k generalizing ps with
  | zero => rfl
  | succ k ih =>
    cases ps with
    | nil => simp [stCells]
    | cons p ps =>
      show stCells (ps.drop k) = ([Value.int .i64 (p.1 : Int), .int .i64 p.2] ++ stCells ps).drop ((k + 1) * 2)
      rw [ih, show (k + 1) * 2 = k * 2 + 2 by omega]
      rfl

theorem Rd.tail {w : World} {e : TypeId} {size gp n c k : Nat} {xs : List Value} (h : Rd w e size (.slice (some ⟨gp, 0, none⟩) n c) n xs) (hk : k ≤ n) : Rd w e size (.slice (some ⟨gp, k * size, none⟩) (n - k) (c - k)) (n - k) (xs.drop (k * size)) := by
  obtain ⟨h1, A, c', hv, hc, hm, hz, h2⟩ := h
  injection hv with hA _ hcc
  subst hcc
  refine ⟨by rw [List.length_drop, h1, Nat.sub_mul], _, _, rfl, by omega, by omega, fun h => by simp at h, fun hn => ?_⟩
  obtain ⟨b, o, cur, fr, hA', hh, hcell⟩ := h2 (by omega)
  rw [← hA] at hA'
  injection hA' with hA'
  injection hA' with hb ho _
  subst hb
  subst ho
  refine ⟨gp, k * size, cur, fr, rfl, hh, fun j u hj => ?_⟩
  rw [List.getElem?_drop] at hj
  have := hcell _ u hj
  rwa [Nat.zero_add] at this
theorem Rd.none_ (w : World) (e : TypeId) (size : Nat) (a : Addr) : Rd w e size (.slice (some a) 0 0) 0 [] := ⟨by simp, _, _, rfl, Nat.le_refl _, by simp [maxLen], fun h => by simp at h, fun h => by omega⟩

/-- A memory of which one line has other content. -/
theorem MemG.mid {base : Nat} {F : Nat → Prop} {w wr : World} {gm L n : Nat} {D : Nat → Nat → Int} {C : Nat → Int} {P : Nat → List (Nat × Int)} {sp : Int} {E gl gb : Nat} {cur cur' : Array Value} {Ae : Option Addr} {ne ce : Nat} {xs : List Value} {es : Array MapEntry} {ck : Nat}
    (g1 : base ≤ gm) (g2 : base ≤ gl) (g3 : base ≤ gb) (hL : L ≤ 200) (hG : Cl w gm 92 #[.slice (some ⟨gl, 0, none⟩) L L, .map (some gb), .int .i64 sp, .slice Ae ne ce]) (hLn : Cl w gl 88 cur)
    (hZ : LnG cur L D C) (hP : PeG w base cur L P E) (hA : ApartP cur L ∧ OwnF F gm gl gb (.slice Ae ne ce) cur L) (hEv : w.ownsRow base 111 12 (.slice Ae ne ce) ne xs) (hne : ne ≤ E) (hB : w.heap[gb]? = some (.map es ck)) (hK : KeysG es ck L)
    (hn : n < L) (hU : Up F w.heap.size) (hM : Mid w wr gl cur') (hsz : cur'.size = cur.size) (hot : ∀ i j, i ≠ n → j < 11 → cur'[i * 11 + j]? = cur[i * 11 + j]?) {sf : Nat → Int} (hW : WIn sf) (h8 : ∀ j, j < 8 → cur'[n * 11 + j]? = some (.int .i64 (sf j))) {cd : Int} (hc : cur'[n * 11 + 8]? = some (.int .i64 cd))
    {v' : Value} (h9 : cur'[n * 11 + 9]? = some v') {z : Nat} (h10 : cur'[n * 11 + 10]? = some (.int .i64 (z : Int))) {ps : List (Nat × Int)} (hz : z ≤ ps.length) (hown : wr.ownsRow base 137 2 v' ps.length (stCells ps)) (hnew : cur[n * 11 + 9]? = some v' ∨ ∀ b, v'.ownBlock = some b → w.heap.size ≤ b) (hst : StIn ps) (hlen : ps.length ≤ E) :
    MemG base F wr gm L (fun i => if i = n then sf else D i) (fun i => if i = n then cd else C i) (fun i => if i = n then ps else P i) E ∧ GrewF base F w wr ∧ ∀ gb es ck, Busy w gm gb es ck → Busy wr gm gb es ck := by
  have ngl : gm ≠ gl := Cl.apart hG hLn (by decide)
  have ngb : ∀ g es ck, w.heap[g]? = some (.map es ck) → g ≠ gl := by
    intro g es ck h
    rintro rfl
    unfold Cl at hLn
    rw [hLn] at h
    cases h
  have hFn : ∀ b, v'.ownBlock = some b → F b := by
    intro b hb
    rcases hnew with h | h
    · exact hA.2.2.2.2.2 n hn v' h b hb
    · exact hU b (h b hb)
  have hlow : ∀ i, i < L → ∀ u, cur[i * 11 + 9]? = some u → ∀ b, u.ownBlock = some b → b < w.heap.size := by
    intro i hi u hu b hb
    obtain ⟨v2, m2, a, _, _, c, _, _⟩ := hP i hi
    rw [a] at hu
    injection hu with hu
    subst hu
    exact (c.lt b hb).2
  refine ⟨⟨gl, gb, cur', sp, Ae, ne, ce, xs, es, ck, g1, g2, g3, hL, hM.heap hG ngl, hM.1, ⟨hsz.trans hZ.1, fun i hi => ?_⟩, fun i hi => ?_, ⟨?_, hA.2.1, hA.2.2.1, hA.2.2.2.1, hA.2.2.2.2.1, fun i hi u hu b hb => ?_⟩, hM.own hLn hEv (by decide), hne, hM.heap hB (ngb _ _ _ hB), hK⟩, ⟨⟨hM.2.1, hM.2.2.1, hM.2.2.2.1, hM.2.2.2.2.1, fun g hg => ?_⟩, fun g hg => ?_⟩, fun gb2 es2 ck2 h => ⟨(hM.cell hG.lt ngl 1).trans h.1, hM.heap h.2 (ngb _ _ _ h.2)⟩⟩
  · by_cases hin : i = n
    · subst hin
      simp only [if_true]
      exact ⟨hW, h8, hc⟩
    · simp only [if_neg hin]
      obtain ⟨a, b, c⟩ := hZ.2 i hi
      exact ⟨a, fun j hj => (hot i j hin (by omega)).trans (b j hj), (hot i 8 hin (by omega)).trans c⟩
  · by_cases hin : i = n
    · subst hin
      simp only [if_true]
      exact ⟨v', z, h9, h10, hz, hown, hlen, hst⟩
    · simp only [if_neg hin]
      obtain ⟨v, m, a, b, c, d, e1, e2⟩ := hP i hi
      exact ⟨v, m, (hot i 9 hin (by omega)).trans a, (hot i 10 hin (by omega)).trans b, c, hM.own hLn d (by decide), e1, e2⟩
  · intro i j hi hj hij v1 v2 h1 h2 b hb hb2
    by_cases hin : i = n
    · subst hin
      rw [h9] at h1
      injection h1 with h1
      subst h1
      rw [hot j 9 (Ne.symm hij) (by omega)] at h2
      rcases hnew with h | h
      · exact hA.1 i j hi hj hij _ _ h h2 b hb hb2
      · have h3 := h b hb
        have h4 := hlow j hj v2 h2 b hb2
        omega
    · rw [hot i 9 hin (by omega)] at h1
      by_cases hjn : j = n
      · subst hjn
        rw [h9] at h2
        injection h2 with h2
        subst h2
        rcases hnew with h | h
        · exact hA.1 i j hi hj hij _ _ h1 h b hb hb2
        · have h3 := h b hb2
          have h4 := hlow i hi v1 h1 b hb
          omega
      · rw [hot j 9 hjn (by omega)] at h2
        exact hA.1 i j hi hj hij v1 v2 h1 h2 b hb hb2
  · by_cases hin : i = n
    · subst hin
      rw [h9] at hu
      injection hu with hu
      subst hu
      exact hFn b hb
    · rw [hot i 9 hin (by omega)] at hu
      exact hA.2.2.2.2.2 i hi u hu b hb
  · by_cases hgl : g = gl
    · subst hgl
      exact .inr ⟨g2, .inl ⟨cur, _, _, hLn, .inr (.inl rfl)⟩⟩
    · exact .inl (hM.2.2.2.2.2 g hg hgl)
  · by_cases hgl : g = gl
    · subst hgl
      exact .inr hA.2.2.1
    · exact .inl (hM.2.2.2.2.2 g hg hgl)
theorem KeepB.of_same {w wr w' : World} {gm n : Nat} (h : ∀ gb es ck, Busy w gm gb es ck → Busy wr gm gb es ck) (hk : KeepB wr w' gm n) : KeepB w w' gm n := fun gb es ck hb hx => hk gb es ck (h gb es ck hb) hx

set_option maxRecDepth 100000 in
set_option maxHeartbeats 2000000 in
theorem settleG_in (base : Nat) (F : Nat → Prop) (w : World) (gm L n k : Nat) (T : Nat → Int) (D : Nat → Nat → Int) (C : Nat → Int) (P : Nat → List (Nat × Int)) (E : Nat) (hM : MemG base F w gm L D C P E) (hT : Gx base w T) (hn : n < L) (hk : k ≤ (P n).length) (hE : E ≤ 900) (hU : Up F w.heap.size) (hbase : base ≤ w.heap.size) (hk0 : 0 < k) :
    Calls Tryz.prog 64 #[.pointer (some ⟨gm, 0, none⟩), .int .i64 (n : Int), .int .i64 (k : Int)] w (SettleG base F w gm L E n) := by
  obtain ⟨gl, gb, cur, sp, Ae, ne, ce, xs, es, ck, g1, g2, g3, hL200, hG, hLn, hZ, hP, hA, hEv, hne, hB, hK⟩ := hM
  obtain ⟨v, m, hv', hmk, hmm, hrow, hl, hxs⟩ := hP n hn
  obtain ⟨gp, cv, rfl⟩ : ∃ gp cv, v = .slice (some ⟨gp, 0, none⟩) (P n).length cv := by
    rcases hrow.2 with ⟨_, h0⟩ | ⟨g, cap, cu, rfl, _⟩
    · omega
    · exact ⟨g, cap, rfl⟩
  obtain ⟨f', er, -, hF⟩ := fix_det T (D n) (C n) (hZ.2 n hn).1
  have hW := shF_in hF (hxs.take k)
  have HS := Lib.hid (fun w' (hb : Below w.heap.size w w') => shows_any w' T (D n) f' (C n) er gl n (some ⟨gp, 0, none⟩) cv (P n) k hF (hT.1.below hb) (hT.2.1.below hb) ((LineG.of hLn hZ hn hv').below hb) ((Rd.own hrow).below hb) hk (by omega) hxs)
  have hline := Lib.hid (LineG.of hLn hZ hn hv')
  have m0 := hG.cell 0
  simp only [List.getElem?_toArray, List.getElem?_cons_succ, List.getElem?_cons_zero] at m0
  have hgl := hLn.lt
  have hgm := hG.lt
  have ngl : ¬ gm = gl := Cl.apart hG hLn (by decide)
  have ngl' : ¬ gl = gm := fun h => ngl h.symm
  obtain ⟨sf, hsf⟩ : ∃ f, shF f' er (List.take k (P n)) = f := ⟨_, rfl⟩
  rw [hsf] at HS hW
  clear hsf hF
  have hsz : cur.size = L * 11 := hZ.1
  have HG := Lib.hid hG
  have HLN := Lib.hid hLn
  have HZ := Lib.hid hZ
  have HP := Lib.hid hP
  have HA := Lib.hid hA
  have HEV := Lib.hid hEv
  have HB := Lib.hid hB
  have HK := Lib.hid hK
  have HT := Lib.hid hT
  have HU := Lib.hid hU
  have HROW := Lib.hid hrow
  have HMK := Lib.hid hmk
  have HV := Lib.hid hv'
  have HXS := Lib.hid hxs
  have HMM := Lib.hid hmm
  have HW := Lib.hid hW
  clear hG hLn hZ hP hA hEv hB hK hT hU hrow hmk hv' hxs hmm hW
  have hm9 : (m : Int) ≤ 900 := by have := HMM.out; omega
  have hk9 : (k : Int) ≤ 900 := by omega
  have kne : ((k : Int) == 0) = false := by simp; omega
  go_enter Tryz.func64, Tryz.ntmps64
  go_upto_region 2 with (fail)
  go_cut [] (fun wx => Mid w wx gl (setL cur (n * 11) sf))
  case first =>
    go_wp2_with fail
    refine (HS.out _ (by (repeat (first | with_reducible exact Below.refl _ _ | with_reducible assumption | with_reducible refine below_drewN ?_ _ | with_reducible refine Below.drew ?_ | with_reducible refine Below.alloc ?_ (by first | omega | (simp; omega) | simp) _ | with_reducible refine Below.setCell ?_ (by first | omega | (simp; omega) | simp) _)))).mono ?_
    rintro e w1 ⟨rfl, hb1⟩
    have hL1 := HLN.out.below hb1 hgl
    have f0 := hL1.free (n * 11)
    have f1 := hL1.free (n * 11 + 1)
    have f2 := hL1.free (n * 11 + 2)
    have f3 := hL1.free (n * 11 + 3)
    have f4 := hL1.free (n * 11 + 4)
    have f5 := hL1.free (n * 11 + 5)
    have f6 := hL1.free (n * 11 + 6)
    have f7 := hL1.free (n * 11 + 7)
    have hgl1 := hL1.lt
    obtain ⟨⟨l0, l1, l2, l3, l4, l5, l6, l7, l8⟩, -⟩ := hline.out.below hb1
    clear hL1
    go_wp2_with fail
    go_meet
    exact ((((((((Mid.start HLN.out hb1).set _ _).set _ _).set _ _).set _ _).set _ _).set _ _).set _ _).set _ _
  case rest =>
    obtain ⟨w2, hw2⟩ : ∃ x : World, x = wc := ⟨_, rfl⟩
    subst hw2
    have hM2 := hcut
    clear hcut HS hline
    have s9 := hsz
    have c2 := fun j hj => (hM2.1.cell (n * 11 + j)).trans (setL_at cur (n * 11) sf j hj (by omega))
    have l0 : w2.cell? ⟨gl, n * 11, none⟩ = some (.int .i64 (sf 0)) := c2 0 (by omega)
    have l1 := c2 1 (by omega)
    have l2 := c2 2 (by omega)
    have l3 := c2 3 (by omega)
    have l4 := c2 4 (by omega)
    have l5 := c2 5 (by omega)
    have l6 := c2 6 (by omega)
    have l7 := c2 7 (by omega)
    have hgl2 := hM2.1.lt
    clear c2
    go_wp2_with fail
    refine (encode_some _ T sf HW.out (hM2.gx HT.out g2).1 (hM2.gx HT.out g2).2.1).mono ?_
    rintro e w3 ⟨⟨cd, rfl⟩, hb3⟩
    have hM3 := hM2.below hb3
    have hM4 := hM3.set (n * 11 + 8) (.int .i64 cd)
    clear hM2 l0 l1 l2 l3 l4 l5 l6 l7 hgl2
    have f8 := hM3.1.free (n * 11 + 8)
    have x8 := (hM3.1.cell (n * 11 + 8)).trans ((setL_ne cur (n * 11) sf (n * 11 + 8) (by omega)).trans ((HZ.out.2 n hn).2.2))
    have l9 := (hM4.1.cell (n * 11 + 9)).trans ((Array.getElem?_setIfInBounds_ne (by omega)).trans ((setL_ne cur (n * 11) sf (n * 11 + 9) (by omega)).trans HV.out))
    have hgl3 := hM3.1.lt
    have k1 : (0 : Int) ≤ (k : Int) := by omega
    have k2 : (k : Int) ≤ ((P n).length : Int) := by omega
    have hle := HXS.out
    have hcap : (P n).length ≤ cv := by
      obtain ⟨_, A, c, hv, hc, _⟩ := Rd.own HROW.out
      injection hv with _ _ hcc
      omega
    obtain ⟨ps, hps⟩ : ∃ ps, (P n).drop k = ps := ⟨_, rfl⟩
    have hpl : ps.length = (P n).length - k := by rw [← hps, List.length_drop]
    have hR4 := Rd.tail (k := k) (Rd.own (hM4.own HLN.out HROW.out (by decide))) hk
    rw [← stCells_drop, hps, ← hpl] at hR4
    have hst : StIn ps := fun p hp => hle p (List.mem_of_mem_drop (by rw [hps]; exact hp))
    have HFIN : Hid (∀ (w5 : World) (A : Option Addr) (c z : Nat) (zi : Int), zi = (z : Int) → z ≤ ps.length → Below (w3.setCell ⟨gl, n * 11 + 8, none⟩ (.int .i64 cd)).heap.size (w3.setCell ⟨gl, n * 11 + 8, none⟩ (.int .i64 cd)) w5 → w5.ownsRow (w3.setCell ⟨gl, n * 11 + 8, none⟩ (.int .i64 cd)).heap.size 137 2 (.slice A ps.length c) ps.length (stCells ps) →
        MemG base F ((w5.setCell ⟨gl, n * 11 + 9, none⟩ (.slice A ps.length c)).setCell ⟨gl, n * 11 + 10, none⟩ (.int .i64 zi)) gm L (fun i => if i = n then sf else D i) (fun i => if i = n then cd else C i) (fun i => if i = n then ps else P i) E ∧ GrewF base F w ((w5.setCell ⟨gl, n * 11 + 9, none⟩ (.slice A ps.length c)).setCell ⟨gl, n * 11 + 10, none⟩ (.int .i64 zi)) ∧
        ∀ gb es ck, Busy w gm gb es ck → Busy ((w5.setCell ⟨gl, n * 11 + 9, none⟩ (.slice A ps.length c)).setCell ⟨gl, n * 11 + 10, none⟩ (.int .i64 zi)) gm gb es ck) := by
      intro w5 A c z zi hzi hz hb5 hown5
      subst hzi
      have M5 := hM4.below hb5
      have M6 := M5.set (n * 11 + 9) (.slice A ps.length c)
      have M7 := M6.set (n * 11 + 10) (.int .i64 (z : Int))
      have hss : (setL cur (n * 11) sf).size = cur.size := setL_size _ _ _
      have hsb : n * 11 + 10 < cur.size := by omega
      refine MemG.mid g1 g2 g3 hL200 HG.out HLN.out HZ.out HP.out HA.out HEV.out hne HB.out HK.out hn HU.out M7 (by simp [setL_size]) (fun i j hi hj => ?_) HW.out (fun j hj => ?_) (cd := cd) ?_ (v' := .slice A ps.length c) ?_ (z := z) ?_ hz (own_far (own_far (own_base hown5 ?_) M5.1 (by decide) _ _) M6.1 (by decide) _ _) (.inr fun b hb => ?_) hst (by omega)
      · have hx : ∀ q, q < 11 → n * 11 + q ≠ i * 11 + j := fun q hq h => hi (by omega)
        rw [Array.getElem?_setIfInBounds_ne (hx 10 (by omega)), Array.getElem?_setIfInBounds_ne (hx 9 (by omega)), Array.getElem?_setIfInBounds_ne (hx 8 (by omega))]
        exact setL_ne _ _ _ _ (by omega)
      · rw [Array.getElem?_setIfInBounds_ne (by omega), Array.getElem?_setIfInBounds_ne (by omega), Array.getElem?_setIfInBounds_ne (by omega)]
        exact setL_at _ _ _ _ hj (by omega)
      · rw [Array.getElem?_setIfInBounds_ne (by omega), Array.getElem?_setIfInBounds_ne (by omega)]
        exact Array.getElem?_setIfInBounds_self_of_lt (by omega)
      · rw [Array.getElem?_setIfInBounds_ne (by omega)]
        exact Array.getElem?_setIfInBounds_self_of_lt (by simp; omega)
      · exact Array.getElem?_setIfInBounds_self_of_lt (by simp; omega)
      · have := hM4.2.2.2.2.1
        omega
      · have h1 := (hown5.lt b hb).1
        have := hM4.2.2.2.2.1
        omega
    have H10 : Hid (∀ (w5 : World) (A : Option Addr) (c : Nat), Below (w3.setCell ⟨gl, n * 11 + 8, none⟩ (.int .i64 cd)).heap.size (w3.setCell ⟨gl, n * 11 + 8, none⟩ (.int .i64 cd)) w5 →
        (w5.frozen? ⟨gl, n * 11 + 9, none⟩ = false ∧ w5.cell? ⟨gl, n * 11 + 9, none⟩ = some (.slice (some ⟨gp, 0, none⟩) (P n).length cv)) ∧ (w5.setCell ⟨gl, n * 11 + 9, none⟩ (.slice A ps.length c)).frozen? ⟨gl, n * 11 + 10, none⟩ = false ∧ (w5.setCell ⟨gl, n * 11 + 9, none⟩ (.slice A ps.length c)).cell? ⟨gl, n * 11 + 10, none⟩ = some (.int .i64 (m : Int))) := by
      intro w5 A c hb5
      have M5 := hM4.below hb5
      have M6 := M5.set (n * 11 + 9) (.slice A ps.length c)
      refine ⟨⟨M5.1.free _, (hb5.cell (p := ⟨gl, n * 11 + 9, none⟩) hM4.1.lt).trans l9⟩, M6.1.free _, (M6.1.cell (n * 11 + 10)).trans ?_⟩
      rw [Array.getElem?_setIfInBounds_ne (by omega), Array.getElem?_setIfInBounds_ne (by omega), setL_ne _ _ _ _ (by omega)]
      exact HMK.out
    have HR4 := Lib.hid hR4
    have HM4 := Lib.hid hM4
    clear hR4 hM3 hM4 hle hb3
    clear HG HLN HZ HP HA HEV HB HK HROW HMK HV HW HT HXS HU
    go_wp2_with fail
    all_goals
      rw [← hpl]
      refine (cloneS_calls _ _ ps (te := 137) ?hrd (by omega)).mono ?hk
      case hrd =>
        first
        | exact HR4.out
        | (have h0 : ps = [] := List.eq_nil_of_length_eq_zero (by omega)
           rw [h0]
           exact Rd.none_ _ 137 _ _)
      case hk =>
        rintro e w5 ⟨A, c, rfl, hown5, hb5⟩
        obtain ⟨⟨f9, x9⟩, f10, x10⟩ := H10.out w5 A c hb5
        have HF5 := Lib.hid (fun z zi h1 h2 => HFIN.out w5 A c z zi h1 h2 hb5 hown5)
        have HPL := Lib.hid hpl
        clear HFIN H10 HM4 HR4 l9 x8 f8 hown5 hb5 hpl hps
        have hgl5 : gl < w5.heap.size := World.block_lt_of_cell? w5 _ x9
        go_wp2_with fail
        all_goals
          first
          | (obtain ⟨hMf, hgf, hbf⟩ := HF5.out 0 0 rfl (by omega)
             refine (restG_calls base F _ gm L n _ _ _ E hMf hn (by omega)).mono ?_
             rintro e w8 ⟨rfl, hM8, hg8, hk8⟩
             have hgF := Lib.hid (hgf.trans hg8)
             have hkF := Lib.hid (KeepB.of_same hbf hk8)
             have hMF := Lib.hid hM8
             clear hMf hgf hbf hM8 hg8 hk8 HF5
             go_wp2_with fail
             go_end0
             exact ⟨rfl, ⟨_, _, _, hMF.out⟩, hgF.out, hkF.out⟩)
          | (obtain ⟨hMf, hgf, hbf⟩ := HF5.out (m - k) ((m : Int) - (k : Int)) (by omega) (by have := HMM.out; have := HPL.out; omega)
             refine (restG_calls base F _ gm L n _ _ _ E hMf hn (by omega)).mono ?_
             rintro e w8 ⟨rfl, hM8, hg8, hk8⟩
             have hgF := Lib.hid (hgf.trans hg8)
             have hkF := Lib.hid (KeepB.of_same hbf hk8)
             have hMF := Lib.hid hM8
             clear hMf hgf hbf hM8 hg8 hk8 HF5
             go_wp2_with fail
             go_end0
             exact ⟨rfl, ⟨_, _, _, hMF.out⟩, hgF.out, hkF.out⟩)
end Go.Proofs.YtckamjbdogpacaaGreatDoor

namespace Go.Proofs.YtckamjbdogpacaaGreatDoor
open Go.RowKit
set_option linter.unusedSimpArgs false
set_option linter.unusedVariables false

theorem KeepB.refl (w : World) (gm n : Nat) : KeepB w w gm n := fun gb es ck h _ => ⟨es, h, List.Sublist.refl _⟩

set_option maxRecDepth 100000 in
set_option maxHeartbeats 400000 in
theorem settleG_calls (base : Nat) (F : Nat → Prop) (w : World) (gm L n k : Nat) (T : Nat → Int) (D : Nat → Nat → Int) (C : Nat → Int) (P : Nat → List (Nat × Int)) (E : Nat) (hM : MemG base F w gm L D C P E) (hT : Gx base w T) (hn : n < L) (hk : k ≤ (P n).length) (hE : E ≤ 900) (hU : Up F w.heap.size) (hbase : base ≤ w.heap.size) :
    Calls Tryz.prog 64 #[.pointer (some ⟨gm, 0, none⟩), .int .i64 (n : Int), .int .i64 (k : Int)] w (SettleG base F w gm L E n) := by
  by_cases hk0 : 0 < k
  · exact settleG_in base F w gm L n k T D C P E hM hT hn hk hE hU hbase hk0
  · obtain rfl : k = 0 := by omega
    have HS : Hid (MemW base F w gm L E) := ⟨D, C, P, hM⟩
    obtain ⟨gl, A, c, hL, hR, hl, hs, hWn, m0, hL200⟩ := hM.line hn
    clear hM hT hU hL hR
    go_enter Tryz.func64, Tryz.ntmps64
    go_wp2_with fail
    go_end0
    exact ⟨rfl, HS.out, GrewF.of_below (Below.refl _ _), KeepB.refl _ _ _⟩

set_option maxRecDepth 100000 in
set_option maxHeartbeats 2000000 in
theorem evictW_calls (base : Nat) (F : Nat → Prop) (w : World) (gm L : Nat) (z zk : Int) (T : Nat → Int) (E : Nat) (hM : MemW base F w gm L E) (hT : Gx base w T) (hE : E ≤ 900) (hU : Up F w.heap.size) (hbase : base ≤ w.heap.size) :
    Calls Tryz.prog 29 #[.pointer (some ⟨gm, 0, none⟩), .int .i64 z, .int .i64 zk] w (CallW base F w gm L (E + 1)) := by
  have HSAME : Hid (∀ w', Below w.heap.size w w' → MemW base F w' gm L (E + 1) ∧ GrewF base F w w') := fun w' hb => ⟨MemW.mono (hM.below hb) (by omega), GrewF.of_below hb⟩
  obtain ⟨D, C, P, hM⟩ := hM
  by_cases hz : 0 ≤ z ∧ z < L
  · obtain ⟨n, rfl⟩ : ∃ n : Nat, z = n := ⟨z.toNat, by omega⟩
    have hn : n < L := by omega
    have hhas : hasB (n : Int) L = true := by simp [hasB]; omega
    clear hz
    obtain ⟨gl, A, c, hL, hR, hl, hs, hWn, m0, hL200⟩ := hM.line hn
    have l9 := hL.2
    have HM := Lib.hid hM
    have HU := Lib.hid hU
    have HT := Lib.hid hT
    clear hM hL hR hs hWn hU hT
    by_cases h1 : zk < 1
    · go_enter Tryz.func29, Tryz.ntmps29
      go_wp2_with fail
      refine (has_calls _ gm L (n : Int) _ _ m0 hL200).mono ?_
      rintro e w1 ⟨rfl, rfl⟩
      rw [hhas]
      go_wp2_with fail
      go_ret
      exact ⟨⟨_, rfl⟩, HSAME.out _ (by (repeat (first | with_reducible exact Below.refl _ _ | with_reducible assumption | with_reducible refine below_drewN ?_ _ | with_reducible refine Below.drew ?_ | with_reducible refine Below.alloc ?_ (by first | omega | (simp; omega) | simp) _ | with_reducible refine Below.setCell ?_ (by first | omega | (simp; omega) | simp) _)))⟩
    · by_cases h2 : zk > ((P n).length : Int)
      · go_enter Tryz.func29, Tryz.ntmps29
        go_wp2_with fail
        refine (has_calls _ gm L (n : Int) _ _ m0 hL200).mono ?_
        rintro e w1 ⟨rfl, rfl⟩
        rw [hhas]
        go_wp2_with fail
        go_ret
        exact ⟨⟨_, rfl⟩, HSAME.out _ (by (repeat (first | with_reducible exact Below.refl _ _ | with_reducible assumption | with_reducible refine below_drewN ?_ _ | with_reducible refine Below.drew ?_ | with_reducible refine Below.alloc ?_ (by first | omega | (simp; omega) | simp) _ | with_reducible refine Below.setCell ?_ (by first | omega | (simp; omega) | simp) _)))⟩
      · obtain ⟨k, rfl⟩ : ∃ k : Nat, zk = k := ⟨zk.toNat, by omega⟩
        have hk : k ≤ (P n).length := by omega
        go_enter Tryz.func29, Tryz.ntmps29
        go_wp2_with fail
        refine (has_calls _ gm L (n : Int) _ _ m0 hL200).mono ?_
        rintro e w1 ⟨rfl, rfl⟩
        rw [hhas]
        go_wp2_with fail
        refine (settleG_calls base F _ gm L n k T D C P E HM.out HT.out hn hk hE HU.out hbase).mono ?_
        rintro e w2 ⟨rfl, ⟨D2, C2, P2, hM2⟩, hg2, -⟩
        have HM2 := Lib.hid hM2
        have HG2 := Lib.hid hg2
        have HU2 := Lib.hid (HU.out.mono hg2.size)
        clear hM2 hg2 m0 l9 hl
        go_wp2_with fail
        refine (noteG0_calls base F _ gm L D2 C2 P2 E HM2.out (by omega) HU2.out _ _ _ _).mono ?_
        rintro e w5 ⟨rfl, hM5, hgr5⟩
        go_wp2_with fail
        go_ret
        exact ⟨⟨_, rfl⟩, ⟨_, _, _, hM5⟩, HG2.out.trans hgr5⟩
  · have hhas : hasB z L = false := by simp [hasB]; omega
    obtain ⟨gl, gb, cur, sp, Ae, ne, ce, xs, es, ck, g1, g2, g3, hL200, hG, -⟩ := hM
    have m0 := hG.cell 0
    simp only [List.getElem?_toArray, List.getElem?_cons_zero] at m0
    clear hG hU hT
    go_enter Tryz.func29, Tryz.ntmps29
    go_wp2_with fail
    refine (has_calls _ gm L z _ _ m0 hL200).mono ?_
    rintro e w1 ⟨rfl, rfl⟩
    rw [hhas]
    go_wp2_with fail
    go_ret
    exact ⟨⟨_, rfl⟩, HSAME.out _ (by (repeat (first | with_reducible exact Below.refl _ _ | with_reducible assumption | with_reducible refine below_drewN ?_ _ | with_reducible refine Below.drew ?_ | with_reducible refine Below.alloc ?_ (by first | omega | (simp; omega) | simp) _ | with_reducible refine Below.setCell ?_ (by first | omega | (simp; omega) | simp) _)))⟩
end Go.Proofs.YtckamjbdogpacaaGreatDoor
