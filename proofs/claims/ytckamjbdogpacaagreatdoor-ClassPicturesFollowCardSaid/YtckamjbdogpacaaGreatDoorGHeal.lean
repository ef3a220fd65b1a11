/-
  memory.words: whether eight numbers are words.
  Heal over a memory of any content.
-/
import Derived.Test.YtckamjbdogpacaaGreatDoorGMemC
import Derived.Test.YtckamjbdogpacaaGreatDoorGEvict
namespace Go.Proofs.YtckamjbdogpacaaGreatDoor
open Go.RowKit
set_option linter.unusedSimpArgs false
set_option linter.unusedVariables false

set_option maxHeartbeats 400000 in
theorem nword_calls (w : World) (v : Int) : Calls Tryz.prog 93 #[.int .i64 v] w fun e w' => e = .returned (.bool (!wordB v)) ∧ w = w' := by
  cases hv : wordB v
  all_goals
    go_enter Tryz.func93, Tryz.ntmps93
    go_wp2_with fail
    refine (mword_calls _ v).mono ?_
    rintro e w1 ⟨rfl, rfl⟩
    rw [hv]
    go_wp2_with fail
    go_ret
    exact ⟨rfl, rfl⟩

def IdxWRel (w : World) (f : Nat → Int) (i : Value) (wr : World) : Prop := ∃ k : Nat, k ≤ 8 ∧ i = .int .i64 k ∧ (∀ j, j < k → wordB (f j) = true) ∧ Below w.heap.size w wr
/-- Where the first number lies that is no word. -/
def IdxW (w : World) (f : Nat → Int) (e : Ending) (w' : World) : Prop :=
  Below w.heap.size w w' ∧ ((e = .returned (.int .i64 (-1)) ∧ ∀ j, j < 8 → wordB (f j) = true) ∨ ∃ k : Nat, k < 8 ∧ e = .returned (.int .i64 (k : Int)) ∧ wordB (f k) = false)

set_option maxRecDepth 100000 in
set_option maxHeartbeats 1000000 in
theorem indexw_calls (w : World) (g : Nat) (f : Nat → Int) {t : TypeId} (hc : Cl w g t #[.int .i64 (f 0), .int .i64 (f 1), .int .i64 (f 2), .int .i64 (f 3), .int .i64 (f 4), .int .i64 (f 5), .int .i64 (f 6), .int .i64 (f 7)]) :
    Calls Tryz.prog 80 #[.slice (some ⟨g, 0, none⟩) 8 8, .func (.func 93) #[] #[]] w (IdxW w f) := by
  have hgl := hc.lt
  go_enter Tryz.func80, Tryz.ntmps80
  go_wp2_with fail
  go_loopw [5, 8] (fun _ i wr => IdxWRel w f i wr) (fun _ i _ => 8 - (intOf i).toNat)
  case atStart => exact ⟨0, Nat.zero_le _, rfl, fun j hj => by omega, Below.refl _ _⟩
  case round =>
    obtain ⟨k, hk, rfl, hno, hb⟩ := hrel
    have HNO := Lib.hid hno
    clear hno
    by_cases hlt : k < 8
    · have hck := hc.below hb hgl
      have hgk := hck.lt
      have x0 := (hck.cell k).trans (w8_get f k hlt)
      cases hq : wordB (f k)
      · have HQ := Lib.hid hq
        go_wp2_with fail
        refine (nword_calls _ (f k)).mono ?_
        rintro e w1 ⟨rfl, rfl⟩
        rw [hq]
        clear hq
        go_wp2_with fail
        go_ret
        exact ⟨hb, .inr ⟨k, hlt, rfl, HQ.out⟩⟩
      · have HQ := Lib.hid hq
        go_wp2_with fail
        refine (nword_calls _ (f k)).mono ?_
        rintro e w1 ⟨rfl, rfl⟩
        rw [hq]
        clear hq
        go_wp2_with fail
        go_roundw
        case rel =>
          refine ⟨k + 1, by omega, by go_num, fun j hj => ?_, hb⟩
          by_cases hjk : j < k
          · exact HNO.out j hjk
          · obtain rfl : j = k := by omega
            exact HQ.out
        case measure => simp [intOf]; omega
    · have hkn : k = 8 := by omega
      subst hkn
      go_wp2_with fail
      go_ret
      exact ⟨hb, .inl ⟨rfl, HNO.out⟩⟩

set_option maxRecDepth 100000 in
set_option maxHeartbeats 1000000 in
theorem containsw_calls (w : World) (g : Nat) (f : Nat → Int) {t : TypeId} (hc : Cl w g t #[.int .i64 (f 0), .int .i64 (f 1), .int .i64 (f 2), .int .i64 (f 3), .int .i64 (f 4), .int .i64 (f 5), .int .i64 (f 6), .int .i64 (f 7)]) :
    Calls Tryz.prog 47 #[.slice (some ⟨g, 0, none⟩) 8 8, .func (.func 93) #[] #[]] w fun e w' => ∃ b, e = .returned (.bool b) ∧ (b = false → ∀ j, j < 8 → wordB (f j) = true) ∧ Below w.heap.size w w' := by
  go_enter Tryz.func47, Tryz.ntmps47
  go_wp2_with fail
  refine (indexw_calls _ g f hc).mono ?_
  rintro e w1 ⟨hb, ⟨rfl, hall⟩ | ⟨k, hk, rfl, hf⟩⟩
  · have HA := Lib.hid hall
    clear hall
    go_wp2_with fail
    go_ret
    exact ⟨_, rfl, fun _ => HA.out, hb⟩
  · have h1 : ((k : Int) ≥ 0) := by omega
    clear hf
    go_wp2_with fail
    go_ret
    exact ⟨true, by (first | rfl | rw [decide_eq_true h1] | simp), (fun h => by simp at h), hb⟩

set_option maxRecDepth 100000 in
set_option maxHeartbeats 1000000 in
/-- words decides whether eight numbers are words. -/
theorem words_calls (w : World) (f : Nat → Int) :
    Calls Tryz.prog 65 #[.agg #[.int .i64 (f 0), .int .i64 (f 1), .int .i64 (f 2), .int .i64 (f 3), .int .i64 (f 4), .int .i64 (f 5), .int .i64 (f 6), .int .i64 (f 7)]] w fun e w' => ∃ b, e = .returned (.bool b) ∧ (b = true → WIn f) ∧ Below w.heap.size w w' := by
  have hc := Cl.new w 67 #[.int .i64 (f 0), .int .i64 (f 1), .int .i64 (f 2), .int .i64 (f 3), .int .i64 (f 4), .int .i64 (f 5), .int .i64 (f 6), .int .i64 (f 7)]
  go_enter Tryz.func65, Tryz.ntmps65
  go_wp2_with fail
  refine (containsw_calls _ _ f hc).mono ?_
  rintro e w1 ⟨b, rfl, hall, hb⟩
  have HA := Lib.hid hall
  clear hall
  go_wp2_with fail
  go_ret
  exact ⟨!b, rfl, fun h k hk => by have := HA.out (by simpa using h) k hk; simpa [wordB] using this, (Below.alloc (Below.refl w.heap.size w) (Nat.le_refl _) _).trans (hb.mono (by simp))⟩
end Go.Proofs.YtckamjbdogpacaaGreatDoor

namespace Go.Proofs.YtckamjbdogpacaaGreatDoor
open Go.RowKit
set_option linter.unusedSimpArgs false
set_option linter.unusedVariables false

theorem MemG.sub {base : Nat} {F F' : Nat → Prop} {w : World} {gm L : Nat} {D : Nat → Nat → Int} {C : Nat → Int} {P : Nat → List (Nat × Int)} {E : Nat} (h : MemG base F w gm L D C P E) (hs : ∀ g, g < w.heap.size → F g → F' g) : MemG base F' w gm L D C P E := by
  obtain ⟨gl, gb, cur, sp, Ae, ne, ce, xs, es, ck, h1, h2, h3, h4, hM, hL, hZ, hP, hA, hE, hn, hB, hK⟩ := h
  refine ⟨gl, gb, cur, sp, Ae, ne, ce, xs, es, ck, h1, h2, h3, h4, hM, hL, hZ, hP, ⟨hA.1, hs _ hM.lt hA.2.1, hs _ hL.lt hA.2.2.1, hs _ (lt_of_heap hB) hA.2.2.2.1, fun b hb => hs _ (hE.lt b hb).2 (hA.2.2.2.2.1 b hb), fun i hi u hu b hb => ?_⟩, hE, hn, hB, hK⟩
  obtain ⟨v, m, a, _, _, d, _, _⟩ := hP i hi
  have hu' := hu
  rw [a] at hu'
  injection hu' with hu'
  subst hu'
  exact hs _ (d.lt b hb).2 (hA.2.2.2.2.2 i hi _ hu b hb)
theorem GrewF.mono {base : Nat} {F F' : Nat → Prop} {w w' : World} (h : GrewF base F w w') (hs : ∀ g, F g → F' g) : GrewF base F' w w' := ⟨h.1, fun g hg => (h.2 g hg).imp id (hs g)⟩
theorem GrewF.keep {base : Nat} {F : Nat → Prop} {w w' : World} (h : GrewF base F w w') {g : Nat} (hg : g < w.heap.size) (hf : ¬ F g) : w'.heap[g]? = w.heap[g]? := (h.2 g hg).resolve_right hf
theorem GrewF.cl {base : Nat} {F : Nat → Prop} {w w' : World} (h : GrewF base F w w') {g : Nat} {t : TypeId} {cs : Array Value} (hc : Cl w g t cs) (hf : ¬ F g) : Cl w' g t cs := (h.keep hc.lt hf).trans hc

theorem fr11 {w : World} {g gl o i0 i1 i2 i3 i4 i5 i6 i7 i8 i9 i10 : Nat} {u0 u1 u2 u3 u4 u5 u6 u7 u8 u9 u10 v : Value} (hne : g ≠ gl) (h : w.cell? ⟨g, o, none⟩ = some v) : (((((((((((w.setCell ⟨gl, i0, none⟩ u0).setCell ⟨gl, i1, none⟩ u1).setCell ⟨gl, i2, none⟩ u2).setCell ⟨gl, i3, none⟩ u3).setCell ⟨gl, i4, none⟩ u4).setCell ⟨gl, i5, none⟩ u5).setCell ⟨gl, i6, none⟩ u6).setCell ⟨gl, i7, none⟩ u7).setCell ⟨gl, i8, none⟩ u8).setCell ⟨gl, i9, none⟩ u9).setCell ⟨gl, i10, none⟩ u10).cell? ⟨g, o, none⟩ = some v := by
  refine (cell_of_heap ?_ o).trans h
  repeat refine (Below.heap_setCell _ _ _ _ hne).trans ?_
  rfl

/-- A whole line is stored: words, code, nothing pending. -/
def setZ (cur : Array Value) (b : Nat) (f : Nat → Int) (c : Int) : Array Value := (((setL cur b f).setIfInBounds (b + 8) (.int .i64 c)).setIfInBounds (b + 9) (.slice none 0 0)).setIfInBounds (b + 10) (.int .i64 0)

set_option maxRecDepth 100000 in
set_option maxHeartbeats 4000000 in
theorem healW_calls (base : Nat) (F : Nat → Prop) (w : World) (gm L : Nat) (z : Int) (f : Nat → Int) (T : Nat → Int) (E : Nat) (hM : MemW base F w gm L E) (hT : Gx base w T) (hE : E ≤ 900) (hU : Up F w.heap.size) (hbase : base ≤ w.heap.size) :
    Calls Tryz.prog 30 #[.pointer (some ⟨gm, 0, none⟩), .int .i64 z, .agg #[.int .i64 (f 0), .int .i64 (f 1), .int .i64 (f 2), .int .i64 (f 3), .int .i64 (f 4), .int .i64 (f 5), .int .i64 (f 6), .int .i64 (f 7)]] w (CallW base F w gm L (E + 1)) := by
  have HSAME : Hid (∀ w', Below w.heap.size w w' → MemW base F w' gm L (E + 1) ∧ GrewF base F w w') := fun w' hb => ⟨MemW.mono (hM.below hb) (by omega), GrewF.of_below hb⟩
  obtain ⟨D, C, P, hM⟩ := hM
  have hA0 : Below w.heap.size w (w.alloc (.cells #[.int .i64 (f 0), .int .i64 (f 1), .int .i64 (f 2), .int .i64 (f 3), .int .i64 (f 4), .int .i64 (f 5), .int .i64 (f 6), .int .i64 (f 7)] 67)) := by (repeat (first | with_reducible exact Below.refl _ _ | with_reducible assumption | with_reducible refine below_drewN ?_ _ | with_reducible refine Below.drew ?_ | with_reducible refine Below.alloc ?_ (by first | omega | (simp; omega) | simp) _ | with_reducible refine Below.setCell ?_ (by first | omega | (simp; omega) | simp) _))
  have hX0 : Cl (w.alloc (.cells #[.int .i64 (f 0), .int .i64 (f 1), .int .i64 (f 2), .int .i64 (f 3), .int .i64 (f 4), .int .i64 (f 5), .int .i64 (f 6), .int .i64 (f 7)] 67)) w.heap.size 67 #[.int .i64 (f 0), .int .i64 (f 1), .int .i64 (f 2), .int .i64 (f 3), .int .i64 (f 4), .int .i64 (f 5), .int .i64 (f 6), .int .i64 (f 7)] := Cl.new _ _ _
  obtain ⟨F', hF'⟩ : ∃ F' : Nat → Prop, F' = fun g => F g ∧ g ≠ w.heap.size := ⟨_, rfl⟩
  have hFs : ∀ g, F' g → F g := fun g h => by rw [hF'] at h; exact h.1
  have hFx : ¬ F' w.heap.size := fun h => by rw [hF'] at h; exact h.2 rfl
  have hFu : Up F' (w.heap.size + 1) := fun g hg => by rw [hF']; exact ⟨hU g (by omega), by omega⟩
  have hM0 : MemG base F' (w.alloc (.cells #[.int .i64 (f 0), .int .i64 (f 1), .int .i64 (f 2), .int .i64 (f 3), .int .i64 (f 4), .int .i64 (f 5), .int .i64 (f 6), .int .i64 (f 7)] 67)) gm L D C P E := (hM.sub (F' := F') (fun g hg h => by rw [hF']; exact ⟨h, by omega⟩)).below hA0
  have hT0 := hT.below hA0
  have hgm : gm < w.heap.size := by
    obtain ⟨gl, gb, cur, sp, Ae, ne, ce, xs, es, ck, g1, g2, g3, hL200, hG, -⟩ := hM
    exact hG.lt
  obtain ⟨w0, hw0⟩ : ∃ x, x = w.alloc (.cells #[.int .i64 (f 0), .int .i64 (f 1), .int .i64 (f 2), .int .i64 (f 3), .int .i64 (f 4), .int .i64 (f 5), .int .i64 (f 6), .int .i64 (f 7)] 67) := ⟨_, rfl⟩
  have hs0 : w0.heap.size = w.heap.size + 1 := by rw [hw0]; simp
  rw [← hw0] at hA0 hX0 hM0 hT0
  clear hM hT hF'
  obtain ⟨gl0, m0, hL200⟩ : ∃ (gl0 : Nat), w0.cell? ⟨gm, 0, none⟩ = some (.slice (some ⟨gl0, 0, none⟩) L L) ∧ L ≤ 200 := by
    obtain ⟨gl, gb, cur, sp, Ae, ne, ce, xs, es, ck, g1, g2, g3, hL200, hG, -⟩ := hM0
    have m0 := hG.cell 0
    simp only [List.getElem?_toArray, List.getElem?_cons_zero] at m0
    exact ⟨gl, m0, hL200⟩
  have HM0 := Lib.hid hM0
  have HT0 := Lib.hid hT0
  have HU := Lib.hid hU
  have HFU := Lib.hid hFu
  have HFX := Lib.hid hFx
  have HFS := Lib.hid hFs
  have HX0 := Lib.hid hX0
  have HA0 := Lib.hid hA0
  have HW0 := Lib.hid hw0
  clear hM0 hT0 hU hFu hFx hFs hA0 hw0
  by_cases hz : 0 ≤ z ∧ z < L
  · obtain ⟨n, rfl⟩ : ∃ n : Nat, z = n := ⟨z.toNat, by omega⟩
    have hn : n < L := by omega
    have hhas : hasB (n : Int) L = true := by simp [hasB]; omega
    clear hz
    go_enter Tryz.func30, Tryz.ntmps30
    go_wp2_with fail
    rw [← HW0.out]
    refine (has_calls _ gm L (n : Int) _ _ m0 hL200).mono ?_
    rintro e w1 ⟨rfl, rfl⟩
    rw [hhas]
    have v0 := hX0.cell 0
    have v1 := hX0.cell 1
    have v2 := hX0.cell 2
    have v3 := hX0.cell 3
    have v4 := hX0.cell 4
    have v5 := hX0.cell 5
    have v6 := hX0.cell 6
    have v7 := hX0.cell 7
    simp only [List.getElem?_toArray, List.getElem?_cons_succ, List.getElem?_cons_zero] at v0 v1 v2 v3 v4 v5 v6 v7
    clear hX0
    go_wp2_with fail
    refine (words_calls _ f).mono ?_
    rintro e w2 ⟨b, rfl, hW, hb2⟩
    cases b with
    | false =>
      go_wp2_with fail
      go_ret
      exact ⟨⟨_, rfl⟩, HSAME.out _ (HA0.out.trans (hb2.mono HA0.out.size))⟩
    | true =>
      have hWf := hW rfl
      clear hW
      have hM2 := HM0.out.below hb2
      have hT2 := HT0.out.below hb2
      have hX2 := HX0.out.below hb2 HX0.out.lt
      have hs2 := hb2.size
      obtain ⟨gl, gb, cur, sp, Ae, ne, ce, xs, es, ck, g1, g2, g3, _, hG, hLn, hZ, hP, hA, hEv, hne, hB, hK⟩ := hM2
      have HMID := Lib.hid (fun wr cd (hM : Mid w2 wr gl (setZ cur (n * 11) f cd)) => MemG.mid g1 g2 g3 hL200 hG hLn hZ hP hA hEv hne hB hK hn (HFU.out.mono (by omega)) hM (by simp [setZ, setL_size]) (fun i j hi hj => by
          have hx : ∀ q, q < 11 → n * 11 + q ≠ i * 11 + j := fun q hq h => hi (by omega)
          unfold setZ
          rw [Array.getElem?_setIfInBounds_ne (hx 10 (by omega)), Array.getElem?_setIfInBounds_ne (hx 9 (by omega)), Array.getElem?_setIfInBounds_ne (hx 8 (by omega))]
          exact setL_ne _ _ _ _ (by omega)) hWf (fun j hj => by
          have := hZ.1
          unfold setZ
          rw [Array.getElem?_setIfInBounds_ne (by omega), Array.getElem?_setIfInBounds_ne (by omega), Array.getElem?_setIfInBounds_ne (by omega)]
          exact setL_at _ _ _ _ hj (by omega)) (cd := cd) (by
          have := hZ.1
          have hss := setL_size cur (n * 11) f
          unfold setZ
          rw [Array.getElem?_setIfInBounds_ne (by omega), Array.getElem?_setIfInBounds_ne (by omega)]
          exact Array.getElem?_setIfInBounds_self_of_lt (by omega)) (v' := .slice none 0 0) (by
          have := hZ.1
          have hss := setL_size cur (n * 11) f
          unfold setZ
          rw [Array.getElem?_setIfInBounds_ne (by omega)]
          exact Array.getElem?_setIfInBounds_self_of_lt (by simp; omega)) (z := 0) (by
          have := hZ.1
          have hss := setL_size cur (n * 11) f
          unfold setZ
          exact Array.getElem?_setIfInBounds_self_of_lt (by simp; omega)) (ps := []) (Nat.le_refl _) (World.ownsRow_nil _ _ _ _) (.inr fun b hb => by simp [Value.ownBlock] at hb) (fun p hp => by cases hp) (Nat.zero_le _))
      have m02 := hG.cell 0
      simp only [List.getElem?_toArray, List.getElem?_cons_zero] at m02
      obtain ⟨v, m, hv', hmk, -, -, -, -⟩ := hP n hn
      have HLN := Lib.hid hLn
      have HLG := Lib.hid (LineG.of hLn hZ hn hv')
      have l10 := (hLn.cell (n * 11 + 10)).trans hmk
      have hgl := hLn.lt
      have hgm2 := hG.lt
      have ngm : gm ≠ gl := Cl.apart hG hLn (by decide)
      have ngx : w.heap.size ≠ gl := fun h => HFX.out (h ▸ hA.2.2.1)
      have HX2 := Lib.hid hX2
      have HT2 := Lib.hid hT2
      have HW := Lib.hid hWf
      have HB2 := Lib.hid hb2
      have x0 := hX2.cell 0
      have x1 := hX2.cell 1
      have x2 := hX2.cell 2
      have x3 := hX2.cell 3
      have x4 := hX2.cell 4
      have x5 := hX2.cell 5
      have x6 := hX2.cell 6
      have x7 := hX2.cell 7
      have hgx := hX2.lt
      simp only [List.getElem?_toArray, List.getElem?_cons_succ, List.getElem?_cons_zero] at x0 x1 x2 x3 x4 x5 x6 x7
      clear hG hLn hZ hP hA hEv hB hK hWf hT2 hX2 v0 v1 v2 v3 v4 v5 v6 v7 m0 hb2 hv' hmk
      have ni0 : (0 : Int) ≤ (n : Int) := by omega
      have ni1 : (n : Int) < (L : Int) := by omega
      go_upto_region 5 with (fail)
      go_cut [] (fun wx => ∃ cd, Mid w2 wx gl (setZ cur (n * 11) f cd))
      case first =>
        go_region_held3 (fun w' => w'.cell? ⟨gm, 0, none⟩ = some (.slice (some ⟨gl, 0, none⟩) L L) ∧ w'.cell? ⟨w.heap.size, 0, none⟩ = some (.int .i64 (f 0)) ∧ w'.cell? ⟨w.heap.size, 1, none⟩ = some (.int .i64 (f 1)) ∧ w'.cell? ⟨w.heap.size, 2, none⟩ = some (.int .i64 (f 2)) ∧ w'.cell? ⟨w.heap.size, 3, none⟩ = some (.int .i64 (f 3)) ∧ w'.cell? ⟨w.heap.size, 4, none⟩ = some (.int .i64 (f 4)) ∧ w'.cell? ⟨w.heap.size, 5, none⟩ = some (.int .i64 (f 5)) ∧ w'.cell? ⟨w.heap.size, 6, none⟩ = some (.int .i64 (f 6)) ∧ w'.cell? ⟨w.heap.size, 7, none⟩ = some (.int .i64 (f 7))) (first | go_keep | exact ⟨fr11 ngm em, fr11 ngx ex0, fr11 ngx ex1, fr11 ngx ex2, fr11 ngx ex3, fr11 ngx ex4, fr11 ngx ex5, fr11 ngx ex6, fr11 ngx ex7⟩)
          (first | (go_at_call 40; refine (encode_some _ T f HW.out (HT2.out.below (by (repeat (first | with_reducible exact Below.refl _ _ | with_reducible assumption | with_reducible refine below_drewN ?_ _ | with_reducible refine Below.drew ?_ | with_reducible refine Below.alloc ?_ (by first | omega | (simp; omega) | simp) _ | with_reducible refine Below.setCell ?_ (by first | omega | (simp; omega) | simp) _)))).1 (HT2.out.below (by (repeat (first | with_reducible exact Below.refl _ _ | with_reducible assumption | with_reducible refine below_drewN ?_ _ | with_reducible refine Below.drew ?_ | with_reducible refine Below.alloc ?_ (by first | omega | (simp; omega) | simp) _ | with_reducible refine Below.setCell ?_ (by first | omega | (simp; omega) | simp) _)))).2.1).mono ?_; rintro e wa ⟨⟨cd, rfl⟩, ba0⟩; (have ba : Below w2.heap.size w2 wa := (by first | exact below_of_drew ba0 | exact ba0)); (have em := (ba.cell (p := ⟨gm, 0, none⟩) hgm2).trans m02); (have ex0 := (ba.cell (p := ⟨w.heap.size, 0, none⟩) hgx).trans x0); (have ex1 := (ba.cell (p := ⟨w.heap.size, 1, none⟩) hgx).trans x1); (have ex2 := (ba.cell (p := ⟨w.heap.size, 2, none⟩) hgx).trans x2); (have ex3 := (ba.cell (p := ⟨w.heap.size, 3, none⟩) hgx).trans x3); (have ex4 := (ba.cell (p := ⟨w.heap.size, 4, none⟩) hgx).trans x4); (have ex5 := (ba.cell (p := ⟨w.heap.size, 5, none⟩) hgx).trans x5); (have ex6 := (ba.cell (p := ⟨w.heap.size, 6, none⟩) hgx).trans x6); (have ex7 := (ba.cell (p := ⟨w.heap.size, 7, none⟩) hgx).trans x7); (have hLa := HLN.out.below ba hgl); (have ef0 := hLa.free (n * 11)); (have ef1 := hLa.free (n * 11 + 1)); (have ef2 := hLa.free (n * 11 + 2)); (have ef3 := hLa.free (n * 11 + 3)); (have ef4 := hLa.free (n * 11 + 4)); (have ef5 := hLa.free (n * 11 + 5)); (have ef6 := hLa.free (n * 11 + 6)); (have ef7 := hLa.free (n * 11 + 7)); (have ef8 := hLa.free (n * 11 + 8)); (have ef9 := hLa.free (n * 11 + 9)); (have ef10 := hLa.free (n * 11 + 10)); (have hla := hLa.lt); (obtain ⟨⟨el0, el1, el2, el3, el4, el5, el6, el7, el8⟩, el9⟩ := HLG.out.below ba); (have el10 := (ba.cell (p := ⟨gl, n * 11 + 10, none⟩) hgl).trans l10); clear hLa))
        go_wp2_with fail
        go_meet
        exact ⟨cd, (((((((((((Mid.start HLN.out ba).set _ _).set _ _).set _ _).set _ _).set _ _).set _ _).set _ _).set _ _).set _ _).set _ _).set _ _⟩
      case rest =>
        obtain ⟨cd, hM3⟩ := hcut
        obtain ⟨w3, hw3⟩ : ∃ x : World, x = wc := ⟨_, rfl⟩
        subst hw3
        obtain ⟨hM3', hg3, -⟩ := HMID.out _ cd hM3
        have hX3 : Cl w3 w.heap.size 67 #[.int .i64 (f 0), .int .i64 (f 1), .int .i64 (f 2), .int .i64 (f 3), .int .i64 (f 4), .int .i64 (f 5), .int .i64 (f 6), .int .i64 (f 7)] := hM3.heap HX2.out ngx
        have hs3 := hg3.size
        clear hM3 m02 l10 hgl hgm2 ngx hgx x0 x1 x2 x3 x4 x5 x6 x7 HMID HLN HLG
        go_wp2_with fail
        refine (restG_calls base F' _ gm L n _ _ _ E hM3' hn (by omega)).mono ?_
        rintro e w4 ⟨rfl, hM4, hg4, -⟩
        have hX4 := hg4.cl hX3 HFX.out
        have hs4 := hg4.size
        have y0 := hX4.cell 0
        have y1 := hX4.cell 1
        have y2 := hX4.cell 2
        have y3 := hX4.cell 3
        have y4 := hX4.cell 4
        have y5 := hX4.cell 5
        have y6 := hX4.cell 6
        have y7 := hX4.cell 7
        simp only [List.getElem?_toArray, List.getElem?_cons_succ, List.getElem?_cons_zero] at y0 y1 y2 y3 y4 y5 y6 y7
        have HG4 := Lib.hid (hg3.trans hg4)
        have HM4 := Lib.hid hM4
        clear hM4 hg3 hg4 hX4 hX3 hM3'
        go_wp2_with fail
        refine (noteG_calls base F' _ gm L _ _ _ E HM4.out (by omega) (HFU.out.mono (by omega)) _ _ _ _ f).mono ?_
        rintro e w5 ⟨rfl, hM5, hg5⟩
        have HM5 := Lib.hid hM5
        have HG5 := Lib.hid (HG4.out.trans hg5)
        clear hM5 hg5 y0 y1 y2 y3 y4 y5 y6 y7
        go_wp2_with fail
        go_ret
        exact ⟨⟨_, rfl⟩, ⟨_, _, _, HM5.out.sub (fun g _ h => HFS.out g h)⟩, (GrewF.of_below (HA0.out.trans (HB2.out.mono HA0.out.size))).trans (HG5.out.mono HFS.out)⟩
  · have hhas : hasB z L = false := by simp [hasB]; omega
    clear hX0
    go_enter Tryz.func30, Tryz.ntmps30
    go_wp2_with fail
    rw [← HW0.out]
    refine (has_calls _ gm L z _ _ m0 hL200).mono ?_
    rintro e w1 ⟨rfl, rfl⟩
    rw [hhas]
    go_wp2_with fail
    go_ret
    exact ⟨⟨_, rfl⟩, HSAME.out _ HA0.out⟩
end Go.Proofs.YtckamjbdogpacaaGreatDoor
