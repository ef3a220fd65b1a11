/-
  class.Words at the pointer of the examples.
  SameInts, SameBlocks, Same: two lists, or two pictures, are equal.
  What is carried through the examples of layer 11.
-/
import Derived.Test.YtckamjbdogpacaaGreatDoorFollow
import Derived.Test.YtckamjbdogpacaaGreatDoorFit
import Derived.Test.YtckamjbdogpacaaGreatDoorAfterB
import Derived.Test.YtckamjbdogpacaaGreatDoorFill
import Derived.Test.YtckamjbdogpacaaGreatDoorScan
import Derived.Test.YtckamjbdogpacaaGreatDoorCheck
namespace Go.Proofs.YtckamjbdogpacaaGreatDoor
open Go.RowKit
set_option linter.unusedSimpArgs false
set_option linter.unusedVariables false

/-- The first 'k' of 63 words are loaded. -/
def WdRel (w : World) (go gb : Nat) (f : Nat → Int) (e i : Value) (wr : World) : Prop :=
  ∃ (k : Nat) (cur : Array Value), k ≤ 63 ∧ i = .int .i64 k ∧ e = .int .i64 0 ∧ cur.size = 63 ∧ (∀ j, j < k → cur[j]? = some (.int .i64 (f j))) ∧ Cl wr go 3 cur ∧ Cl wr gb 43 #[.int .i64 24, .int .i64 3, .int .i64 2, .int .i64 2] ∧ Below w.heap.size w wr

def WordsPost (w : World) (f : Nat → Int) (e : Ending) (w' : World) : Prop :=
  ∃ go cur, e = .returned (.tuple #[.slice (some ⟨go, 0, none⟩) 63 63, .int .i64 0]) ∧ cur.size = 63 ∧ (∀ j, j < 63 → cur[j]? = some (.int .i64 (f j))) ∧ Cl w' go 3 cur ∧ Below w.heap.size w w'

set_option maxRecDepth 100000 in
set_option maxHeartbeats 4000000 in
theorem cwords_calls (w : World) (gv : Nat) (f : Nat → Int) (hA : LdsV w gv 112 4) (hH : LdsV w gv 192 306) (hF : ∀ k : Nat, k < 63 → LdsV w gv (193 + k) (f k)) (hd : Hd w) (hp : Pt w) :
    Calls Tryz.prog 21 #[.pointer (some ⟨gv, 0, none⟩), .agg #[.int .i64 64, .int .i64 2, .int .i64 8, .int .i64 10, .int .i64 4, .int .i64 14, .int .i64 16, .int .i64 3], .int .i64 8216] w (WordsPost w f) := by
  obtain ⟨j0, hj0, hy0, hy1, hy2⟩ := info_parts int_info
  have HF := Lib.hid hF
  clear hF
  go_enter Tryz.func21, Tryz.ntmps21
  go_upto_region 1 with (fail)
  generalize hwn : w.alloc (.cells #[.int .i64 64, .int .i64 2, .int .i64 8, .int .i64 10, .int .i64 4, .int .i64 14, .int .i64 16, .int .i64 3] 29) = wn
  have hLn : Cl wn w.heap.size 29 #[.int .i64 64, .int .i64 2, .int .i64 8, .int .i64 10, .int .i64 4, .int .i64 14, .int .i64 16, .int .i64 3] := by rw [← hwn]; exact Cl.new _ _ _
  have hB : Below w.heap.size w wn := by rw [← hwn]; (repeat (first | with_reducible exact Below.refl _ _ | with_reducible assumption | with_reducible refine below_drewN ?_ _ | with_reducible refine Below.drew ?_ | with_reducible refine Below.alloc ?_ (by first | omega | (simp; omega) | simp) _ | with_reducible refine Below.setCell ?_ (by first | omega | (simp; omega) | simp) _))
  clear hwn
  have hln := hLn.lt
  obtain ⟨y0, y1, y2, y3, y4, y5, y6, y7⟩ := hLn.cells8
  go_wp2_with fail
  refine (follow8216 _ gv (hA.below hB) (hH.below hB) (hd.below hB) (hp.below hB)).mono ?_
  rintro e w1 ⟨rfl, hb1⟩
  replace hB := hB.trans (hb1.mono hB.size)
  clear hLn hd hp hln y0 y1 y2 y3 y4 y5 y6 y7 hb1
  go_upto_region 2 with (fail)
  generalize hwn : w1.alloc (.cells #[.int .i64 24, .int .i64 3, .int .i64 2, .int .i64 2] 43) = w2
  have hC : Cl w2 w1.heap.size 43 #[.int .i64 24, .int .i64 3, .int .i64 2, .int .i64 2] := by rw [← hwn]; exact Cl.new _ _ _
  have hb2 : Below w1.heap.size w1 w2 := by rw [← hwn]; (repeat (first | with_reducible exact Below.refl _ _ | with_reducible assumption | with_reducible refine below_drewN ?_ _ | with_reducible refine Below.drew ?_ | with_reducible refine Below.alloc ?_ (by first | omega | (simp; omega) | simp) _ | with_reducible refine Below.setCell ?_ (by first | omega | (simp; omega) | simp) _))
  clear hwn
  replace hB := hB.trans (hb2.mono hB.size)
  clear hb2
  have b1 := hC.cell 1
  simp only [List.getElem?_toArray, List.getElem?_cons_succ, List.getElem?_cons_zero] at b1
  have hcl := hC.lt
  go_wp2_with fail
  refine (room3 _).mono ?_
  rintro e w' ⟨rfl, rfl⟩
  go_wp2_with (at_make; refine wpList_make_full _ rfl _ _ 37 rfl w2.heap.size 3 j0 _ 1 Tryz.underlying37 hj0 hy0 hy1 _ _ _ _ 63 rfl rfl rfl rfl (by rw [hy2]; omega) (by unfold maxLen; omega) (by simp) ?_; intro w3 hown3 hg3)
  obtain ⟨cur, hcur, hsz⟩ : ∃ cur, Cl w3 w2.heap.size 3 cur ∧ cur.size = 63 := by
    rcases hown3.2 with ⟨h0, _⟩ | ⟨g', cap, cur, hv, _, hh, _, _, hsz, _⟩
    · cases h0
    · injection hv with hA _ hc
      injection hA with hA
      injection hA with hA
      subst hA
      subst hc
      exact ⟨cur, hh, by simpa using hsz⟩
  have hb3 : Below w2.heap.size w2 w3 := Below.grown (Below.refl _ _) hg3 (Nat.le_refl _) (by simp)
  replace hC := hC.below hb3 hC.lt
  have hgo : w.heap.size ≤ w2.heap.size := hB.size
  replace hB := hB.trans (hb3.mono hB.size)
  have ngb : ¬ w2.heap.size = w1.heap.size := by omega
  have ngb' : ¬ w1.heap.size = w2.heap.size := by omega
  clear hown3 hg3 hb3 b1 hcl hA hH
  generalize w2.heap.size = go at *
  generalize w1.heap.size = gb at *
  go_loopw [9, 11, 28] (fun e _ i wr => WdRel w go gb f e i wr) (fun _ _ i _ => 63 - (intOf i).toNat)
  case atStart => exact ⟨0, cur, by omega, rfl, rfl, hsz, fun j hj => by omega, hcur, hC, hB⟩
  case round =>
    clear hcur hsz hC hB
    obtain ⟨k, cur, hk, rfl, rfl, hsz, hj, hO, hC, hB⟩ := hrel
    have HJ := Lib.hid hj
    clear hj
    have b0 := hC.cell 0
    simp only [List.getElem?_toArray, List.getElem?_cons_succ, List.getElem?_cons_zero] at b0
    have lo := hO.lt
    have lc := hC.lt
    by_cases hlt : k < 63
    · go_wp2_with fail
      refine (HF.out k hlt _ hB).mono ?_
      rintro e w4 ⟨rfl, hb4⟩
      replace hO := hO.below hb4 hO.lt
      replace hC := hC.below hb4 hC.lt
      replace hB := hB.trans (hb4.mono hB.size)
      clear b0 lo lc hb4
      have ck : w4.cell? ⟨go, k, none⟩ = some cur[k] := (hO.cell k).trans (Array.getElem?_eq_getElem (by omega))
      have fk := hO.free k
      have lo := hO.lt
      go_wp2_with fail
      refine ⟨⟨k + 1, _, by omega, by go_num, rfl, by simpa using hsz, fun j hj => ?_, hO.set_ k _, hC.far ngb' _, by (repeat (first | with_reducible exact Below.refl _ _ | with_reducible assumption | with_reducible refine below_drewN ?_ _ | with_reducible refine Below.drew ?_ | with_reducible refine Below.alloc ?_ (by first | omega | (simp; omega) | simp) _ | with_reducible refine Below.setCell ?_ (by first | omega | (simp; omega) | simp) _))⟩, by simp [intOf]; omega⟩
      by_cases he : j = k
      · subst he; exact Array.getElem?_setIfInBounds_self_of_lt (by omega)
      · rw [Array.getElem?_setIfInBounds_ne (by omega)]; exact HJ.out j (by omega)
    · obtain rfl : k = 63 := by omega
      go_wp2_with fail
      go_ret2
      exact ⟨go, cur, rfl, hsz, HJ.out, hO, hB⟩
end Go.Proofs.YtckamjbdogpacaaGreatDoor

namespace Go.Proofs.YtckamjbdogpacaaGreatDoor
open Go.RowKit

theorem list_eq_of {α : Type} {xs ys : List α} (hl : xs.length = ys.length) (h : ∀ j, j < xs.length → xs[j]? = ys[j]?) : xs = ys := by
  apply List.ext_getElem?
  intro i
  by_cases hi : i < xs.length
  · exact h i hi
  · rw [List.getElem?_eq_none (by omega), List.getElem?_eq_none (by omega)]

set_option maxHeartbeats 1000000 in
theorem sameInts_calls (w : World) (a b : Value) (xs ys : List Int) (hX : RdI w a xs) (hY : RdI w b ys) (hn : xs.length ≤ 100000) (_hm : ys.length ≤ 100000) :
    Calls Tryz.prog 13 #[a, b] w fun e w' => e = .returned (.bool (decide (xs = ys))) ∧ Below w.heap.size w w' := by
  obtain ⟨A, ca, rfl, _, hA⟩ := hX.at_
  obtain ⟨B, cb, rfl, _, hB⟩ := hY.at_
  by_cases hl : xs.length = ys.length
  · have b1 : ((xs.length : Int) != (ys.length : Int)) = false := by simp [hl]
    have HL := Lib.hid hl
    have hl1 : xs.length ≤ ys.length := by omega
    have hl2 : ys.length ≤ xs.length := by omega
    clear hl
    go_enter Tryz.func13, Tryz.ntmps13
    go_wp2
    go_loopw [5] (fun i wr => ∃ k : Nat, k ≤ xs.length ∧ i = .int .i64 k ∧ (∀ j, j < k → xs[j]? = ys[j]?) ∧ Below w.heap.size w wr) (fun i _ => xs.length - (intOf i).toNat)
    case atStart => exact ⟨0, Nat.zero_le _, rfl, by omega, Below.refl _ _⟩
    case round =>
      obtain ⟨k, hk, rfl, hno, hb⟩ := hrel
      have HNO := Lib.hid hno
      clear hno
      by_cases hlt : k < xs.length
      · obtain ⟨ba, oa, rfl, hla, hca⟩ := hA k hlt
        obtain ⟨bb, ob, rfl, hlb, hcb⟩ := hB k (by omega)
        obtain ⟨x, hx⟩ : ∃ x, xs[k]? = some x := ⟨_, List.getElem?_eq_getElem hlt⟩
        obtain ⟨y, hy⟩ : ∃ y, ys[k]? = some y := ⟨_, List.getElem?_eq_getElem (by omega)⟩
        have d0 := (hb.cell (p := ⟨ba, oa + k, none⟩) hla).trans (hca x hx)
        have e0 := (hb.cell (p := ⟨bb, ob + k, none⟩) hlb).trans (hcb y hy)
        have hlt' : k < ys.length := by omega
        have HX := Lib.hid hx
        have HY := Lib.hid hy
        clear hca hcb hA hB hx hy
        by_cases hxy : x = y
        · have b2 : (x != y) = false := by simp [hxy]
          have HXY := Lib.hid hxy
          clear hxy
          go_wp2
          go_quiet (fail)
          go_wp2
          go_roundw
          case rel =>
            refine ⟨k + 1, by omega, by go_num, fun j hj => ?_, by (repeat (first | with_reducible exact Below.refl _ _ | with_reducible assumption | with_reducible refine below_drewN ?_ _ | with_reducible refine Below.drew ?_ | with_reducible refine Below.alloc ?_ (by first | omega | (simp; omega) | simp) _ | with_reducible refine Below.setCell ?_ (by first | omega | (simp; omega) | simp) _))⟩
            by_cases hjk : j < k
            · exact HNO.out j hjk
            · obtain rfl : j = k := by omega
              rw [HX.out, HY.out, HXY.out]
          case measure => simp [intOf]; omega
        · have b2 : (x != y) = true := by simp [hxy]
          have HD : Hid (decide (xs = ys) = false) := by
            apply decide_eq_false
            intro h
            have := HX.out
            rw [h, HY.out] at this
            injection this with this
            exact hxy this.symm
          clear hxy
          go_wp2
          go_quiet (fail)
          go_wp2
          go_ret
          exact ⟨by rw [HD.out]; rfl, by (repeat (first | with_reducible exact Below.refl _ _ | with_reducible assumption | with_reducible refine below_drewN ?_ _ | with_reducible refine Below.drew ?_ | with_reducible refine Below.alloc ?_ (by first | omega | (simp; omega) | simp) _ | with_reducible refine Below.setCell ?_ (by first | omega | (simp; omega) | simp) _))⟩
      · have HD : Hid (decide (xs = ys) = true) := decide_eq_true (list_eq_of HL.out (fun j hj => HNO.out j (by omega)))
        go_wp2
        go_ret
        exact ⟨by rw [HD.out]; rfl, hb⟩
  · have b1 : ((xs.length : Int) != (ys.length : Int)) = true := by simp; omega
    have HD : Hid (decide (xs = ys) = false) := decide_eq_false (fun h => hl (by rw [h]))
    clear hl
    go_enter Tryz.func13, Tryz.ntmps13
    go_wp2
    go_ret
    exact ⟨by rw [HD.out]; rfl, Below.refl _ _⟩

end Go.Proofs.YtckamjbdogpacaaGreatDoor

namespace Go.Proofs.YtckamjbdogpacaaGreatDoor
open Go.RowKit
set_option linter.unusedSimpArgs false
set_option linter.unusedVariables false

theorem plan64 (w : World) : Calls Tryz.prog 9 #[.int .i64 64] w fun e w' => e = .returned (.tuple #[.agg #[.int .i64 64, .int .i64 2, .int .i64 8, .int .i64 10, .int .i64 4, .int .i64 14, .int .i64 16, .int .i64 3], .int .i64 0]) ∧ Below w.heap.size w w' := by
  refine (plan_a w 64 (by omega) (by omega) (by omega)).mono ?_
  rintro e w' ⟨rfl, hb⟩
  exact ⟨rfl, hb⟩

theorem RdI.of_cl {w : World} {g : Nat} (xs : List Int) (n : Nat) (hn : xs.length = n) (hm : n ≤ 100) (h : Cl w g 3 (xs.map (Value.int .i64)).toArray) : RdI w (.slice (some ⟨g, 0, none⟩) n n) xs := by
  subst hn
  refine ⟨by simp, some ⟨g, 0, none⟩, xs.length, rfl, Nat.le_refl _, by unfold maxLen; omega, by simp, fun _ => ⟨g, 0, _, (0, 0), rfl, h, fun j u hu => ?_⟩⟩
  simpa using hu

def Q0 : Nat → List (Nat × Int) := fun _ => []
def Q1 : Nat → List (Nat × Int) := upd Q0 14 (0, 4)
def Q2 : Nat → List (Nat × Int) := upd Q1 24 (0, 306)
def Q3 : Nat → List (Nat × Int) := upd (upd Q2 24 (1, 5)) 24 (2, 6)
theorem upd_8 {P : Nat → List (Nat × Int)} (h : ∀ n, ∀ p ∈ P n, p.1 < 8) (m : Nat) (x : Nat × Int) (hx : x.1 < 8) : ∀ n, ∀ p ∈ upd P m x n, p.1 < 8 := by
  intro n p hp
  unfold upd at hp
  split at hp
  · rcases List.mem_append.1 hp with h1 | h1
    · exact h n p h1
    · simp at h1; subst h1; exact hx
  · exact h n p hp
theorem Q0_8 : ∀ n, ∀ p ∈ Q0 n, p.1 < 8 := fun n p hp => by simp [Q0] at hp
theorem Q1_8 : ∀ n, ∀ p ∈ Q1 n, p.1 < 8 := upd_8 Q0_8 _ _ (by decide)
theorem Q2_8 : ∀ n, ∀ p ∈ Q2 n, p.1 < 8 := upd_8 Q1_8 _ _ (by decide)
theorem Q3_8 : ∀ n, ∀ p ∈ Q3 n, p.1 < 8 := upd_8 (upd_8 Q2_8 _ _ (by decide)) _ _ (by decide)

/-- What the examples have at hand: the layout, the memory, the tables. -/
def SanSt (w wr : World) (gL gm base : Nat) (P : Nat → List (Nat × Int)) (E : Nat) : Prop :=
  Cl wr gL 29 #[.int .i64 64, .int .i64 2, .int .i64 8, .int .i64 10, .int .i64 4, .int .i64 14, .int .i64 16, .int .i64 3] ∧ MemIs base wr gm 64 P E ∧ Hd wr ∧ Pt wr ∧ Below w.heap.size w wr ∧ w.heap.size ≤ base ∧ base ≤ wr.heap.size ∧ 2 < base ∧ 0 < base
theorem SanSt.below {w wr wr' : World} {gL gm base : Nat} {P : Nat → List (Nat × Int)} {E : Nat} (h : SanSt w wr gL gm base P E) (hb : Below wr.heap.size wr wr') : SanSt w wr' gL gm base P E := by
  obtain ⟨h1, h2, h3, h4, h5, h6, h7, h8, h9⟩ := h
  exact ⟨h1.below hb h1.lt, h2.below hb, h3.below hb, h4.below hb, h5.trans (hb.mono h5.size), h6, Nat.le_trans h7 hb.size, h8, h9⟩
theorem SanSt.grew {w wr wr' : World} {gL gm base : Nat} {P P' : Nat → List (Nat × Int)} {E E' : Nat} (h : SanSt w wr gL gm base P E) (hM : MemIs base wr' gm 64 P' E') (hg : GrewM base wr wr') : SanSt w wr' gL gm base P' E' := by
  obtain ⟨h1, h2, h3, h4, h5, h6, h7, h8, h9⟩ := h
  exact ⟨hg.cl h1 (by decide), hM, h3.grewM h8 hg, h4.grewM h9 hg, hg.below h5 h5.size h6, h6, Nat.le_trans h7 hg.size, h8, h9⟩

theorem san_assigned {w wr : World} {gL gm base : Nat} (h : SanSt w wr gL gm base Q0 0) :
    Calls Tryz.prog 15 #[.pointer (some ⟨gm, 0, none⟩), .agg #[.int .i64 64, .int .i64 2, .int .i64 8, .int .i64 10, .int .i64 4, .int .i64 14, .int .i64 16, .int .i64 3], .int .i64 0] wr fun e w' => e = .returned (.tuple #[.int .i64 (-1), .int .i64 0]) ∧ Below wr.heap.size wr w' :=
  Assigned_calls base wr gm 64 14 0 Q0 0 h.2.1 64 2 8 10 4 14 16 3 0 (by omega) (by omega) (by omega) (by omega) (by omega) (by omega) (by omega) (by omega) (Q0_8 14) (by decide) (by decide)
theorem san_of {w wr : World} {gL gm base : Nat} (h : SanSt w wr gL gm base Q1 1) :
    Calls Tryz.prog 17 #[.pointer (some ⟨gm, 0, none⟩), .agg #[.int .i64 64, .int .i64 2, .int .i64 8, .int .i64 10, .int .i64 4, .int .i64 14, .int .i64 16, .int .i64 3], .int .i64 25] wr fun e w' => e = .returned (.tuple #[.int .i64 24, .int .i64 0]) ∧ Below wr.heap.size wr w' :=
  Of_calls base wr gm 64 14 0 3 8 Q1 1 h.2.1 64 2 8 10 4 14 16 3 25 0 (by omega) (by omega) (by omega) (by omega) (by omega) (by omega) (by omega) (by omega) (by omega) (by omega) (by omega) (by omega) (by omega) (by omega) (Q1_8 14) (by decide) (by omega) (by decide)
theorem san_block {w wr : World} {gL gm base : Nat} (h : SanSt w wr gL gm base Q1 1) :
    Calls Tryz.prog 18 #[.pointer (some ⟨gm, 0, none⟩), .agg #[.int .i64 64, .int .i64 2, .int .i64 8, .int .i64 10, .int .i64 4, .int .i64 14, .int .i64 16, .int .i64 3], .int .i64 24] wr fun e w' => e = .returned (.tuple #[.agg #[.int .i64 24, .int .i64 3, .int .i64 0, .int .i64 0], .int .i64 0]) ∧ Below wr.heap.size wr w' :=
  Block24 wr gm (LdsM.of (n := 14) (r := 0) h.2.1 (by omega) (by omega) (by omega) (by omega) (by omega) (Q1_8 14) (by decide)) h.2.2.1 0 0 0 (LdsM.of (n := 24) (r := 0) h.2.1 (by omega) (by omega) (by omega) (by omega) (by omega) (Q1_8 24) (by decide)) (by omega) (by omega) (by omega) (by omega) (by omega) (fun W _ => proper_zero W 3)
theorem san_scan0 {w wr : World} {gL gm base : Nat} (h : SanSt w wr gL gm base Q0 0) :
    Calls Tryz.prog 6 #[.pointer (some ⟨gm, 0, none⟩), .agg #[.int .i64 64, .int .i64 2, .int .i64 8, .int .i64 10, .int .i64 4, .int .i64 14, .int .i64 16, .int .i64 3]] wr (PicOne wr [-1, -1, -1] [] []) :=
  scanE base wr gm Q0 0 h.2.1 (by decide) (by decide) (by decide) (Q0_8 14)
theorem san_scan3 {w wr : World} {gL gm base : Nat} (h : SanSt w wr gL gm base Q3 5) :
    Calls Tryz.prog 6 #[.pointer (some ⟨gm, 0, none⟩), .agg #[.int .i64 64, .int .i64 2, .int .i64 8, .int .i64 10, .int .i64 4, .int .i64 14, .int .i64 16, .int .i64 3]] wr (PicOne wr [3, -1, -1] [(16, 3, 0, 0), (24, 3, 2, 2)] []) :=
  scanF base wr gm Q3 5 h.2.1 (by decide) (by decide) (by decide) (Q3_8 14) (by decide) (by decide) (Q3_8 16) (Q3_8 24) h.2.2.1
theorem san_check (w : World) (ch bl bd : Value) (hC : RdI w ch [3, -1, -1]) (hR : RdB w bl [(16, 3, 0, 0), (24, 3, 2, 2)]) (hD : RdI w bd []) (hd : Hd w) :
    Calls Tryz.prog 22 #[.agg #[.int .i64 64, .int .i64 2, .int .i64 8, .int .i64 10, .int .i64 4, .int .i64 14, .int .i64 16, .int .i64 3], .agg #[ch, bl, bd]] w fun e w' => e = .returned (.int .i64 0) ∧ Below w.heap.size w w' :=
  check_calls w 64 2 8 10 4 14 16 3 ch bl bd [3] [(16, 3, 0, 0), (24, 3, 2, 2)] hC hR hD hd (by omega) (by omega) (by omega) (by simp) (by decide) (by
    intro b hb
    simp at hb
    rcases hb with rfl | rfl <;> simp [CanB, Bk.kind, Bk.cls, Bk.gen])
theorem san_store1 {w wr : World} {gL gm base : Nat} (h : SanSt w wr gL gm base Q0 0) :
    Calls Tryz.prog 16 #[.pointer (some ⟨gm, 0, none⟩), .int .i64 112, .int .i64 4] wr fun e w' => e = .returned (.int .i64 0) ∧ StorePost base wr gm 64 Q1 1 w' :=
  store_calls base wr gm 64 14 0 112 4 Q0 0 h.2.1 (by omega) (by omega) (by omega) (by omega) (by omega) (by omega) (by omega) (by omega) (by decide) h.2.2.2.2.2.2.1
theorem san_store2 {w wr : World} {gL gm base : Nat} (h : SanSt w wr gL gm base Q1 1) :
    Calls Tryz.prog 16 #[.pointer (some ⟨gm, 0, none⟩), .int .i64 192, .int .i64 306] wr fun e w' => e = .returned (.int .i64 0) ∧ StorePost base wr gm 64 Q2 2 w' :=
  store_calls base wr gm 64 24 0 192 306 Q1 1 h.2.1 (by omega) (by omega) (by omega) (by omega) (by omega) (by omega) (by omega) (by omega) (by decide) h.2.2.2.2.2.2.1
theorem san_lds {w wr : World} {gL gm base gv : Nat} (P : Nat → List (Nat × Int)) (E : Nat) (h8 : ∀ n, ∀ p ∈ P n, p.1 < 8) (h : SanSt w wr gL gm base P E) (hV : Cl wr gv 100 #[.pointer (some ⟨gm, 0, none⟩), .slice none 0 0]) (a : Nat) (ha : a < 512) :
    LdsV wr gv (a : Int) (sh (P (a / 8)) (a % 8)) :=
  LdsV.of hV (LdsM.of (n := a / 8) (r := a % 8) h.2.1 (by omega) (by omega) (by omega) (by omega) (by omega) (h8 (a / 8)) rfl)
theorem san_follow {w wr : World} {gL gm base gv : Nat} (h : SanSt w wr gL gm base Q2 2) (hV : Cl wr gv 100 #[.pointer (some ⟨gm, 0, none⟩), .slice none 0 0]) :
    Calls Tryz.prog 7 #[.pointer (some ⟨gv, 0, none⟩), .agg #[.int .i64 64, .int .i64 2, .int .i64 8, .int .i64 10, .int .i64 4, .int .i64 14, .int .i64 16, .int .i64 3], .int .i64 8216] wr fun e w' => e = .returned (.tuple #[.agg #[.int .i64 24, .int .i64 3, .int .i64 2, .int .i64 2], .int .i64 0]) ∧ Below wr.heap.size wr w' :=
  follow8216 wr gv (san_lds Q2 2 Q2_8 h hV 112 (by omega)) (san_lds Q2 2 Q2_8 h hV 192 (by omega)) h.2.2.1 h.2.2.2.1
theorem san_follow1 {w wr : World} {gL gm base gv : Nat} (h : SanSt w wr gL gm base Q2 2) (hV : Cl wr gv 100 #[.pointer (some ⟨gm, 0, none⟩), .slice none 0 0]) :
    Calls Tryz.prog 7 #[.pointer (some ⟨gv, 0, none⟩), .agg #[.int .i64 64, .int .i64 2, .int .i64 8, .int .i64 10, .int .i64 4, .int .i64 14, .int .i64 16, .int .i64 3], .int .i64 4120] wr fun e w' => e = .returned (.tuple #[.agg #[.int .i64 0, .int .i64 0, .int .i64 0, .int .i64 0], .int .i64 70]) ∧ Below wr.heap.size wr w' :=
  follow4120 wr gv (san_lds Q2 2 Q2_8 h hV 112 (by omega)) (san_lds Q2 2 Q2_8 h hV 192 (by omega)) h.2.2.1 h.2.2.2.1
theorem san_follow2 {w wr : World} {gL gm base gv : Nat} (h : SanSt w wr gL gm base Q2 2) (hV : Cl wr gv 100 #[.pointer (some ⟨gm, 0, none⟩), .slice none 0 0]) :
    Calls Tryz.prog 7 #[.pointer (some ⟨gv, 0, none⟩), .agg #[.int .i64 64, .int .i64 2, .int .i64 8, .int .i64 10, .int .i64 4, .int .i64 14, .int .i64 16, .int .i64 3], .int .i64 8217] wr fun e w' => e = .returned (.tuple #[.agg #[.int .i64 0, .int .i64 0, .int .i64 0, .int .i64 0], .int .i64 1]) ∧ Below wr.heap.size wr w' :=
  follow8217 wr gv (san_lds Q2 2 Q2_8 h hV 112 (by omega)) h.2.2.2.1
theorem san_fill {w wr : World} {gL gm base gv gw : Nat} (h : SanSt w wr gL gm base Q2 2) (hV : Cl wr gv 100 #[.pointer (some ⟨gm, 0, none⟩), .slice none 0 0]) (hW : Cl wr gw 3 #[.int .i64 5, .int .i64 6]) :
    Calls Tryz.prog 20 #[.pointer (some ⟨gv, 0, none⟩), .agg #[.int .i64 64, .int .i64 2, .int .i64 8, .int .i64 10, .int .i64 4, .int .i64 14, .int .i64 16, .int .i64 3], .int .i64 8216, .slice (some ⟨gw, 0, none⟩) 2 2] wr fun e w' => e = .returned (.int .i64 0) ∧ StorePost base wr gm 64 Q3 5 w' :=
  fill_calls base wr gv gm gw Q2 2 h.2.1 (by omega) hV hW (by decide) (by decide) (Q2_8 14) (Q2_8 24) (by decide) h.2.2.1 h.2.2.2.1 h.2.2.2.2.2.2.1
def wd3 (k : Nat) : Int := sh (Q3 ((193 + k) / 8)) ((193 + k) % 8)
theorem san_words {w wr : World} {gL gm base gv : Nat} (h : SanSt w wr gL gm base Q3 5) (hV : Cl wr gv 100 #[.pointer (some ⟨gm, 0, none⟩), .slice none 0 0]) :
    Calls Tryz.prog 21 #[.pointer (some ⟨gv, 0, none⟩), .agg #[.int .i64 64, .int .i64 2, .int .i64 8, .int .i64 10, .int .i64 4, .int .i64 14, .int .i64 16, .int .i64 3], .int .i64 8216] wr (WordsPost wr wd3) :=
  cwords_calls wr gv wd3 (san_lds Q3 5 Q3_8 h hV 112 (by omega)) (san_lds Q3 5 Q3_8 h hV 192 (by omega)) (fun k hk => by
    have := san_lds Q3 5 Q3_8 h hV (193 + k) (by omega)
    rwa [Int.natCast_add] at this) h.2.2.1 h.2.2.2.1
end Go.Proofs.YtckamjbdogpacaaGreatDoor
