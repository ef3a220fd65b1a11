/-
  Rot over a memory of any content.
-/
import Derived.Test.YtckamjbdogpacaaGreatDoorGHeal
namespace Go.Proofs.YtckamjbdogpacaaGreatDoor
open Go.RowKit
set_option linter.unusedSimpArgs false
set_option linter.unusedVariables false

/-- A line of which only the words differ. -/
def RotIn (cur cur' : Array Value) (n : Nat) (g : Nat → Int) : Prop := cur'.size = cur.size ∧ (∀ i j, i ≠ n → j < 11 → cur'[i * 11 + j]? = cur[i * 11 + j]?) ∧ WIn g ∧ (∀ j, j < 8 → cur'[n * 11 + j]? = some (.int .i64 (g j))) ∧ ∀ j, 8 ≤ j → j < 11 → cur'[n * 11 + j]? = cur[n * 11 + j]?
theorem RotIn.set {cur cur' : Array Value} {n : Nat} {g : Nat → Int} (h : RotIn cur cur' n g) (k : Nat) (hk : k < 8) (x : Int) (h0 : 0 ≤ x) (h1 : x ≤ 1099511627775) (hs : n * 11 + 11 ≤ cur.size) : RotIn cur (cur'.setIfInBounds (n * 11 + k) (.int .i64 x)) n (setW g k x) := by
  obtain ⟨a, b, c, d, e⟩ := h
  refine ⟨by simpa using a, fun i j hi hj => ?_, c.set k h0 h1, fun j hj => ?_, fun j hj hj2 => ?_⟩
  · rw [Array.getElem?_setIfInBounds_ne (fun h => hi (by omega))]; exact b i j hi hj
  · by_cases hjk : j = k
    · subst hjk
      rw [Array.getElem?_setIfInBounds_self_of_lt (by omega)]
      simp [setW]
    · rw [Array.getElem?_setIfInBounds_ne (by omega)]
      rw [d j hj]
      simp [setW, hjk]
  · rw [Array.getElem?_setIfInBounds_ne (by omega)]; exact e j hj hj2
def RotRel (w2 : World) (gl n : Nat) (cur : Array Value) (i : Value) (wr : World) : Prop := ∃ k : Nat, k ≤ 8 ∧ i = .int .i64 (k : Int) ∧ ∃ cur' g, Mid w2 wr gl cur' ∧ RotIn cur cur' n g

set_option maxRecDepth 100000 in
set_option maxHeartbeats 4000000 in
theorem rotW_calls (base : Nat) (F : Nat → Prop) (w : World) (gm L : Nat) (z : Int) (f : Nat → Int) (bi : Int) (E : Nat) (hM : MemW base F w gm L E) (hE : E ≤ 900) (hU : Up F w.heap.size) (hbase : base ≤ w.heap.size) :
    Calls Tryz.prog 31 #[.pointer (some ⟨gm, 0, none⟩), .int .i64 z, .agg #[.int .i64 (f 0), .int .i64 (f 1), .int .i64 (f 2), .int .i64 (f 3), .int .i64 (f 4), .int .i64 (f 5), .int .i64 (f 6), .int .i64 (f 7)], .int .i64 bi] w (CallW base F w gm L (E + 1)) := by
  have HSAME : Hid (∀ w', Below w.heap.size w w' → MemW base F w' gm L (E + 1) ∧ GrewF base F w w') := fun w' hb => ⟨MemW.mono (hM.below hb) (by omega), GrewF.of_below hb⟩
  obtain ⟨D, C, P, hM⟩ := hM
  have hA0 : Below w.heap.size w (w.alloc (.cells #[.int .i64 (f 0), .int .i64 (f 1), .int .i64 (f 2), .int .i64 (f 3), .int .i64 (f 4), .int .i64 (f 5), .int .i64 (f 6), .int .i64 (f 7)] 67)) := by (repeat (first | with_reducible exact Below.refl _ _ | with_reducible assumption | with_reducible refine below_drewN ?_ _ | with_reducible refine Below.drew ?_ | with_reducible refine Below.alloc ?_ (by first | omega | (simp; omega) | simp) _ | with_reducible refine Below.setCell ?_ (by first | omega | (simp; omega) | simp) _))
  have hX0 : Cl (w.alloc (.cells #[.int .i64 (f 0), .int .i64 (f 1), .int .i64 (f 2), .int .i64 (f 3), .int .i64 (f 4), .int .i64 (f 5), .int .i64 (f 6), .int .i64 (f 7)] 67)) w.heap.size 67 #[.int .i64 (f 0), .int .i64 (f 1), .int .i64 (f 2), .int .i64 (f 3), .int .i64 (f 4), .int .i64 (f 5), .int .i64 (f 6), .int .i64 (f 7)] := Cl.new _ _ _
  obtain ⟨F', hF'⟩ : ∃ F' : Nat → Prop, F' = fun g => F g ∧ g ≠ w.heap.size := ⟨_, rfl⟩
  have hFs : ∀ g, F' g → F g := fun g h => by rw [hF'] at h; exact h.1
  have hFx : ¬ F' w.heap.size := fun h => by rw [hF'] at h; exact h.2 rfl
  have hFu : Up F' (w.heap.size + 1) := fun g hg => by rw [hF']; exact ⟨hU g (by omega), by omega⟩
  have hM0 : MemG base F' (w.alloc (.cells #[.int .i64 (f 0), .int .i64 (f 1), .int .i64 (f 2), .int .i64 (f 3), .int .i64 (f 4), .int .i64 (f 5), .int .i64 (f 6), .int .i64 (f 7)] 67)) gm L D C P E := (hM.sub (F' := F') (fun g hg h => by rw [hF']; exact ⟨h, by omega⟩)).below hA0
  have hgm : gm < w.heap.size := by
    obtain ⟨gl, gb, cur, sp, Ae, ne, ce, xs, es, ck, g1, g2, g3, hL200, hG, -⟩ := hM
    exact hG.lt
  obtain ⟨w0, hw0⟩ : ∃ x, x = w.alloc (.cells #[.int .i64 (f 0), .int .i64 (f 1), .int .i64 (f 2), .int .i64 (f 3), .int .i64 (f 4), .int .i64 (f 5), .int .i64 (f 6), .int .i64 (f 7)] 67) := ⟨_, rfl⟩
  have hs0 : w0.heap.size = w.heap.size + 1 := by rw [hw0]; simp
  rw [← hw0] at hA0 hX0 hM0
  clear hM hF'
  obtain ⟨gl0, m0, hL200⟩ : ∃ (gl0 : Nat), w0.cell? ⟨gm, 0, none⟩ = some (.slice (some ⟨gl0, 0, none⟩) L L) ∧ L ≤ 200 := by
    obtain ⟨gl, gb, cur, sp, Ae, ne, ce, xs, es, ck, g1, g2, g3, hL200, hG, -⟩ := hM0
    have m0 := hG.cell 0
    simp only [List.getElem?_toArray, List.getElem?_cons_zero] at m0
    exact ⟨gl, m0, hL200⟩
  have HM0 := Lib.hid hM0
  have HU := Lib.hid hU
  have HFU := Lib.hid hFu
  have HFX := Lib.hid hFx
  have HFS := Lib.hid hFs
  have HX0 := Lib.hid hX0
  have HA0 := Lib.hid hA0
  have HW0 := Lib.hid hw0
  clear hM0 hU hFu hFx hFs hA0 hw0
  by_cases hz : 0 ≤ z ∧ z < L
  · obtain ⟨n, rfl⟩ : ∃ n : Nat, z = n := ⟨z.toNat, by omega⟩
    have hn : n < L := by omega
    have hhas : hasB (n : Int) L = true := by simp [hasB]; omega
    clear hz
    have v0 := hX0.cell 0
    have v1 := hX0.cell 1
    have v2 := hX0.cell 2
    have v3 := hX0.cell 3
    have v4 := hX0.cell 4
    have v5 := hX0.cell 5
    have v6 := hX0.cell 6
    have v7 := hX0.cell 7
    simp only [List.getElem?_toArray, List.getElem?_cons_succ, List.getElem?_cons_zero] at v0 v1 v2 v3 v4 v5 v6 v7
    clear hX0
    go_enter Tryz.func31, Tryz.ntmps31
    go_wp2_with fail
    rw [← HW0.out]
    refine (has_calls _ gm L (n : Int) _ _ m0 hL200).mono ?_
    rintro e w1 ⟨rfl, rfl⟩
    rw [hhas]
    go_wp2_with fail
    refine (words_calls _ f).mono ?_
    rintro e w2 ⟨b, rfl, hW, hb2⟩
    have HB2 := Lib.hid hb2
    have hM2 := HM0.out.below hb2
    have hX2 := HX0.out.below hb2 HX0.out.lt
    have hs2 := hb2.size
    obtain ⟨gl, gb, cur, sp, Ae, ne, ce, xs, es, ck, g1, g2, g3, _, hG, hLn, hZ, hP, hA, hEv, hne, hB, hK⟩ := hM2
    obtain ⟨v, m, hv', hmk, hmm, hrow, hl, hxs⟩ := hP n hn
    obtain ⟨Av, cv, rfl⟩ := (Rd.own hrow).form
    have m02 := hG.cell 0
    simp only [List.getElem?_toArray, List.getElem?_cons_zero] at m02
    have l9 := (hLn.cell (n * 11 + 9)).trans hv'
    have hsame : Hid (MemW base F w2 gm L (E + 1) ∧ GrewF base F w w2) := HSAME.out _ (HA0.out.trans (HB2.out.mono HA0.out.size))
    cases b with
    | false =>
      clear hG hLn hZ hP hA hEv hB hK hrow hv' hmk hxs hW hX2
      go_wp2_with fail
      go_ret
      exact ⟨⟨_, rfl⟩, hsame.out⟩
    | true =>
      have hWf := hW rfl
      clear hW
      by_cases hb0 : bi < 0
      · clear hG hLn hZ hP hA hEv hB hK hrow hv' hmk hxs hX2 hWf
        go_wp2_with fail
        go_ret
        exact ⟨⟨_, rfl⟩, hsame.out⟩
      by_cases hb1 : bi ≥ 1024
      · clear hG hLn hZ hP hA hEv hB hK hrow hv' hmk hxs hX2 hWf
        go_wp2_with fail
        go_ret
        exact ⟨⟨_, rfl⟩, hsame.out⟩
      by_cases hp0 : (P n).length = 0
      · have hgl := hLn.lt
        have hgm2 := hG.lt
        have hgx := hX2.lt
        have ngm : gm ≠ gl := Cl.apart hG hLn (by decide)
        have ngx : w.heap.size ≠ gl := fun h => HFX.out (h ▸ hA.2.2.1)
        have hsz := hZ.1
        have HMID := Lib.hid (fun wr cur' g cd (hM : Mid w2 wr gl (cur'.setIfInBounds (n * 11 + 8) (.int .i64 cd))) (hr : RotIn cur cur' n g) => MemG.mid g1 g2 g3 hL200 hG hLn hZ hP hA hEv hne hB hK hn (HFU.out.mono (by omega)) hM (by simpa using hr.1) (fun i j hi hj => (Array.getElem?_setIfInBounds_ne (fun h => hi (by omega))).trans (hr.2.1 i j hi hj)) hr.2.2.1 (fun j hj => (Array.getElem?_setIfInBounds_ne (by omega)).trans (hr.2.2.2.1 j hj)) (cd := cd) (by
            have := hr.1
            exact Array.getElem?_setIfInBounds_self_of_lt (by omega)) (v' := .slice Av (P n).length cv) ((Array.getElem?_setIfInBounds_ne (by omega)).trans ((hr.2.2.2.2 9 (by omega) (by omega)).trans hv')) (z := m) ((Array.getElem?_setIfInBounds_ne (by omega)).trans ((hr.2.2.2.2 10 (by omega) (by omega)).trans hmk)) (ps := P n) hmm (hM.own hLn hrow (by decide)) (.inl hv') hxs hl)
        have HSTART : Hid (∃ cur' g, Mid w2 w2 gl cur' ∧ RotIn cur cur' n g) := ⟨cur, D n, Mid.start hLn (Below.refl _ _), rfl, fun _ _ _ _ => rfl, (hZ.2 n hn).1, (hZ.2 n hn).2.1, fun _ _ _ => rfl⟩
        have H8 := Lib.hid (hZ.2 n hn).2.2
        have HX2 := Lib.hid hX2
        have HW := Lib.hid hWf
        have x0 := hX2.cell 0
        have x1 := hX2.cell 1
        have x2 := hX2.cell 2
        have x3 := hX2.cell 3
        have x4 := hX2.cell 4
        have x5 := hX2.cell 5
        have x6 := hX2.cell 6
        have x7 := hX2.cell 7
        simp only [List.getElem?_toArray, List.getElem?_cons_succ, List.getElem?_cons_zero] at x0 x1 x2 x3 x4 x5 x6 x7
        clear hG hLn hZ hP hA hEv hB hK hrow hv' hmk hxs hX2 hWf v0 v1 v2 v3 v4 v5 v6 v7 m0 hb2
        have ni0 : (0 : Int) ≤ (n : Int) := by omega
        have ni1 : (n : Int) < (L : Int) := by omega
        go_wp2_with fail
        go_loopw [9, 10, 40] (fun _ _ i wr => RotRel w2 gl n cur i wr) (fun _ _ i _ => 8 - (intOf i).toNat)
        case atStart => exact ⟨0, by omega, rfl, HSTART.out⟩
        case round =>
          obtain ⟨k, hk, rfl, cur', g, hMr, hR⟩ := hrel
          by_cases hlt : k < 8
          · have hix := fun w => run_index_w8 w f k hlt
            have ki0 : (0 : Int) ≤ (k : Int) := by omega
            have ki1 : (k : Int) < 8 := by omega
            have em := (hMr.cell hgm2 ngm 0).trans m02
            have eg := (hMr.1.cell (n * 11 + k)).trans (hR.2.2.2.1 k hlt)
            have ef := hMr.1.free (n * 11 + k)
            have elt := hMr.1.lt
            have hx := bits_xor_in (g k) (f k) (hR.2.2.1 k hlt).1 (hR.2.2.1 k hlt).2 (HW.out k hlt).1 (HW.out k hlt).2
            have HNEW : Hid (Mid w2 (wr.setCell ⟨gl, n * 11 + k, none⟩ (.int .i64 (bits .xor .i64 (g k) (f k)))) gl (cur'.setIfInBounds (n * 11 + k) (.int .i64 (bits .xor .i64 (g k) (f k)))) ∧ RotIn cur (cur'.setIfInBounds (n * 11 + k) (.int .i64 (bits .xor .i64 (g k) (f k)))) n (setW g k (bits .xor .i64 (g k) (f k)))) := ⟨hMr.set _ _, hR.set k hlt _ hx.1 hx.2 (by omega)⟩
            have elt2 := hMr.2.2.2.2.1
            clear hMr hR hx HMID HSTART H8
            go_wp2_with fail
            go_region
            go_wp2_with fail
            go_roundw
            case rel => exact ⟨k + 1, by omega, by go_num, _, _, HNEW.out.1.below (by (repeat (first | with_reducible exact Below.refl _ _ | with_reducible assumption | with_reducible refine below_drewN ?_ _ | with_reducible refine Below.drew ?_ | with_reducible refine Below.alloc ?_ (by first | omega | (simp; omega) | simp) _ | with_reducible refine Below.setCell ?_ (by first | omega | (simp; omega) | simp) _))), HNEW.out.2⟩
            case measure => simp [intOf]; omega
          · obtain rfl : k = 8 := by omega
            have em := (hMr.cell hgm2 ngm 0).trans m02
            have eg := (hMr.1.cell (n * 11 + 8)).trans ((hR.2.2.2.2 8 (by omega) (by omega)).trans H8.out)
            have ef := hMr.1.free (n * 11 + 8)
            have elt := hMr.1.lt
            have elt2 := hMr.2.2.2.2.1
            have ex0 := (hMr.cell hgx ngx 0).trans x0
            have ex1 := (hMr.cell hgx ngx 1).trans x1
            have ex2 := (hMr.cell hgx ngx 2).trans x2
            have ex3 := (hMr.cell hgx ngx 3).trans x3
            have ex4 := (hMr.cell hgx ngx 4).trans x4
            have ex5 := (hMr.cell hgx ngx 5).trans x5
            have ex6 := (hMr.cell hgx ngx 6).trans x6
            have ex7 := (hMr.cell hgx ngx 7).trans x7
            have ngx' : ¬ gl = w.heap.size := fun h => ngx h.symm
            obtain ⟨hMf, hgf, -⟩ := HMID.out _ cur' g (bits .xor .i64 (C n) bi) (hMr.set _ _) hR
            have HMF := Lib.hid hMf
            have HGF := Lib.hid hgf
            have HSF := Lib.hid hgf.size
            clear hMf hgf HMID HSTART H8 hMr hR x0 x1 x2 x3 x4 x5 x6 x7
            go_wp2_with fail
            refine (noteG_calls base F' _ gm L _ _ _ E HMF.out (by omega) (HFU.out.mono (by have := HSF.out; omega)) _ _ _ _ f).mono ?_
            rintro e w5 ⟨rfl, hM5, hg5⟩
            have HM5 := Lib.hid hM5
            have HG5 := Lib.hid (HGF.out.trans hg5)
            clear hM5 hg5 ex0 ex1 ex2 ex3 ex4 ex5 ex6 ex7 em eg ef
            go_wp2_with fail
            go_ret
            exact ⟨⟨_, rfl⟩, ⟨_, _, _, HM5.out.sub (fun g _ h => HFS.out g h)⟩, (GrewF.of_below (HA0.out.trans (HB2.out.mono HA0.out.size))).trans (HG5.out.mono HFS.out)⟩
      · clear hG hLn hZ hP hA hEv hB hK hrow hv' hmk hxs hX2 hWf
        have hp1 : (0 : Int) < ((P n).length : Int) := by omega
        go_wp2_with fail
        go_ret
        exact ⟨⟨_, rfl⟩, hsame.out⟩
  · have hhas : hasB z L = false := by simp [hasB]; omega
    clear hX0
    go_enter Tryz.func31, Tryz.ntmps31
    go_wp2_with fail
    rw [← HW0.out]
    refine (has_calls _ gm L z _ _ m0 hL200).mono ?_
    rintro e w1 ⟨rfl, rfl⟩
    rw [hhas]
    go_wp2_with fail
    go_ret
    exact ⟨⟨_, rfl⟩, HSAME.out _ HA0.out⟩
end Go.Proofs.YtckamjbdogpacaaGreatDoor
