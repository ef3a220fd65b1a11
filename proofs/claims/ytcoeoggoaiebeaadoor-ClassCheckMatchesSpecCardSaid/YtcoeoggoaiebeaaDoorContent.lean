/-
  class.Words at the pointer of the examples.
-/
import Derived.Test.YtcoeoggoaiebeaaDoorFollow
import Derived.Test.YtcoeoggoaiebeaaDoorFit
namespace Go.Proofs.YtcoeoggoaiebeaaDoor
open Go.RowKit
set_option linter.unusedSimpArgs false
set_option linter.unusedVariables false

/-- The first 'k' of 63 words are loaded. -/
def WdRel (w : World) (go gb : Nat) (f : Nat → Int) (e i : Value) (wr : World) : Prop :=
  ∃ (k : Nat) (cur : Array Value), k ≤ 63 ∧ i = .int .i64 k ∧ e = .int .i64 0 ∧ cur.size = 63 ∧ (∀ j, j < k → cur[j]? = some (.int .i64 (f j))) ∧ Cl wr go 3 cur ∧ Cl wr gb 53 #[.int .i64 24, .int .i64 3, .int .i64 2, .int .i64 2] ∧ Below w.heap.size w wr

def WordsPost (w : World) (f : Nat → Int) (e : Ending) (w' : World) : Prop :=
  ∃ go cur, e = .returned (.tuple #[.slice (some ⟨go, 0, none⟩) 63 63, .int .i64 0]) ∧ cur.size = 63 ∧ (∀ j, j < 63 → cur[j]? = some (.int .i64 (f j))) ∧ Cl w' go 3 cur ∧ Below w.heap.size w w'

set_option maxRecDepth 100000 in
set_option maxHeartbeats 4000000 in
theorem words_calls (w : World) (gv : Nat) (f : Nat → Int) (hA : LdsV w gv 112 4) (hH : LdsV w gv 192 306) (hF : ∀ k : Nat, k < 63 → LdsV w gv (193 + k) (f k)) (hd : Hd w) (hp : Pt w) :
    Calls Tryd.prog 32 #[.pointer (some ⟨gv, 0, none⟩), .agg #[.int .i64 64, .int .i64 2, .int .i64 8, .int .i64 10, .int .i64 4, .int .i64 14, .int .i64 16, .int .i64 3], .int .i64 8216] w (WordsPost w f) := by
  obtain ⟨j0, hj0, hy0, hy1, hy2⟩ := info_parts int_info
  have HF := Lib.hid hF
  clear hF
  go_enter Tryd.func32, Tryd.ntmps32
  go_upto_region 1 with (fail)
  generalize hwn : w.alloc (.cells #[.int .i64 64, .int .i64 2, .int .i64 8, .int .i64 10, .int .i64 4, .int .i64 14, .int .i64 16, .int .i64 3] 31) = wn
  have hLn : Cl wn w.heap.size 31 #[.int .i64 64, .int .i64 2, .int .i64 8, .int .i64 10, .int .i64 4, .int .i64 14, .int .i64 16, .int .i64 3] := by rw [← hwn]; exact Cl.new _ _ _
  have hB : Below w.heap.size w wn := by rw [← hwn]; (repeat (first | with_reducible exact Below.refl _ _ | with_reducible assumption | with_reducible refine below_drewN ?_ _ | with_reducible refine Below.drew ?_ | with_reducible refine Below.alloc ?_ (by first | omega | (simp; omega) | simp) _ | with_reducible refine Below.setCell ?_ (by first | omega | (simp; omega) | simp) _))
  clear hwn
  have hln := hLn.lt
  obtain ⟨y0, y1, y2, y3, y4, y5, y6, y7⟩ := hLn.cells8
  go_wp2_with fail
  refine (follow8216 _ gv (hA.below hB) (hH.below hB) (hd.below hB) (hp.below hB)).mono ?_
  rintro e w1 ⟨rfl, hb1⟩
  replace hB := hB.trans (hb1.mono hB.size)
  clear hLn hd hp hln y0 y1 y2 y3 y4 y5 y6 y7 hb1
  go_upto_region 2 with (fail)
  generalize hwn : w1.alloc (.cells #[.int .i64 24, .int .i64 3, .int .i64 2, .int .i64 2] 53) = w2
  have hC : Cl w2 w1.heap.size 53 #[.int .i64 24, .int .i64 3, .int .i64 2, .int .i64 2] := by rw [← hwn]; exact Cl.new _ _ _
  have hb2 : Below w1.heap.size w1 w2 := by rw [← hwn]; (repeat (first | with_reducible exact Below.refl _ _ | with_reducible assumption | with_reducible refine below_drewN ?_ _ | with_reducible refine Below.drew ?_ | with_reducible refine Below.alloc ?_ (by first | omega | (simp; omega) | simp) _ | with_reducible refine Below.setCell ?_ (by first | omega | (simp; omega) | simp) _))
  clear hwn
  replace hB := hB.trans (hb2.mono hB.size)
  clear hb2
  have b1 := hC.cell 1
  simp only [List.getElem?_toArray, List.getElem?_cons_succ, List.getElem?_cons_zero] at b1
  have hcl := hC.lt
  go_wp2_with fail
  refine (room3 _).mono ?_
  rintro e w' ⟨rfl, rfl⟩
  go_wp2_with (at_make; refine wpList_make_full _ rfl _ _ 35 rfl w2.heap.size 3 j0 _ 1 Tryd.underlying35 hj0 hy0 hy1 _ _ _ _ 63 rfl rfl rfl rfl (by rw [hy2]; omega) (by unfold maxLen; omega) (by simp) ?_; intro w3 hown3 hg3)
  obtain ⟨cur, hcur, hsz⟩ : ∃ cur, Cl w3 w2.heap.size 3 cur ∧ cur.size = 63 := by
    rcases hown3.2 with ⟨h0, _⟩ | ⟨g', cap, cur, hv, _, hh, _, _, hsz, _⟩
    · cases h0
    · injection hv with hA _ hc
      injection hA with hA
      injection hA with hA
      subst hA
      subst hc
      exact ⟨cur, hh, by simpa using hsz⟩
  have hb3 : Below w2.heap.size w2 w3 := Below.grown (Below.refl _ _) hg3 (Nat.le_refl _) (by simp)
  replace hC := hC.below hb3 hC.lt
  have hgo : w.heap.size ≤ w2.heap.size := hB.size
  replace hB := hB.trans (hb3.mono hB.size)
  have ngb : ¬ w2.heap.size = w1.heap.size := by omega
  have ngb' : ¬ w1.heap.size = w2.heap.size := by omega
  clear hown3 hg3 hb3 b1 hcl hA hH
  generalize w2.heap.size = go at *
  generalize w1.heap.size = gb at *
  go_loopw [9, 11, 28] (fun e _ i wr => WdRel w go gb f e i wr) (fun _ _ i _ => 63 - (intOf i).toNat)
  case atStart => exact ⟨0, cur, by omega, rfl, rfl, hsz, fun j hj => by omega, hcur, hC, hB⟩
  case round =>
    clear hcur hsz hC hB
    obtain ⟨k, cur, hk, rfl, rfl, hsz, hj, hO, hC, hB⟩ := hrel
    have HJ := Lib.hid hj
    clear hj
    have b0 := hC.cell 0
    simp only [List.getElem?_toArray, List.getElem?_cons_succ, List.getElem?_cons_zero] at b0
    have lo := hO.lt
    have lc := hC.lt
    by_cases hlt : k < 63
    · go_wp2_with fail
      refine (HF.out k hlt _ hB).mono ?_
      rintro e w4 ⟨rfl, hb4⟩
      replace hO := hO.below hb4 hO.lt
      replace hC := hC.below hb4 hC.lt
      replace hB := hB.trans (hb4.mono hB.size)
      clear b0 lo lc hb4
      have ck : w4.cell? ⟨go, k, none⟩ = some cur[k] := (hO.cell k).trans (Array.getElem?_eq_getElem (by omega))
      have fk := hO.free k
      have lo := hO.lt
      go_wp2_with fail
      refine ⟨⟨k + 1, _, by omega, by go_num, rfl, by simpa using hsz, fun j hj => ?_, hO.set_ k _, hC.far ngb' _, by (repeat (first | with_reducible exact Below.refl _ _ | with_reducible assumption | with_reducible refine below_drewN ?_ _ | with_reducible refine Below.drew ?_ | with_reducible refine Below.alloc ?_ (by first | omega | (simp; omega) | simp) _ | with_reducible refine Below.setCell ?_ (by first | omega | (simp; omega) | simp) _))⟩, by simp [intOf]; omega⟩
      by_cases he : j = k
      · subst he; exact Array.getElem?_setIfInBounds_self_of_lt (by omega)
      · rw [Array.getElem?_setIfInBounds_ne (by omega)]; exact HJ.out j (by omega)
    · obtain rfl : k = 63 := by omega
      go_wp2_with fail
      go_ret2
      exact ⟨go, cur, rfl, hsz, HJ.out, hO, hB⟩
end Go.Proofs.YtcoeoggoaiebeaaDoor
