/-
  A row of blocks that is sorted in place: how it reads, and what an exchange of two blocks does to it.
  slices: swapRangeCmpFunc, rotateCmpFunc at blocks.
  slices: insertionSortCmpFunc at blocks, by the order of class.Free.
-/
import Derived.Test.YtcoeoggoaiebeaaDoorCmp
namespace Go.Proofs.YtcoeoggoaiebeaaDoor
open Go.RowKit
open Go.Sort (swp)

/-- Block 'g' of the heap begins with the blocks 'd'. -/
def Dat (w : World) (g : Nat) (d : Array Bk) : Prop := RowB w g d.toList
/-- Four cells stored, one after the other. -/
abbrev put4 (w : World) (g o : Nat) (x : Bk) : World :=
  (((w.setCell ⟨g, o, none⟩ (.int .i64 x.line)).setCell ⟨g, o + 1, none⟩ (.int .i64 x.cls)).setCell ⟨g, o + 2, none⟩ (.int .i64 x.kind)).setCell ⟨g, o + 3, none⟩ (.int .i64 x.gen)

theorem RowB.put {w : World} {g : Nat} {bs : List Bk} (h : RowB w g bs) {k : Nat} (hk : k < bs.length) (x : Bk) : RowB (put4 w g (k * 4) x) g (bs.set k x) := by
  obtain ⟨cur, hc, h⟩ := h
  obtain ⟨a, b, c, d⟩ := h k _ (List.getElem?_eq_getElem hk)
  have hsz : k * 4 + 3 < cur.size := (Array.getElem?_eq_some_iff.1 d).1
  refine ⟨_, (((hc.set_ _ _).set_ _ _).set_ _ _).set_ _ _, fun i y hy => ?_⟩
  by_cases hik : k = i
  · subst hik
    rw [List.getElem?_set_self hk] at hy
    injection hy with hy
    subst hy
    refine ⟨?_, ?_, ?_, ?_⟩
    · rw [Array.getElem?_setIfInBounds_ne (by omega), Array.getElem?_setIfInBounds_ne (by omega), Array.getElem?_setIfInBounds_ne (by omega), Array.getElem?_setIfInBounds_self_of_lt (by first | omega | (simp; omega))]
    · rw [Array.getElem?_setIfInBounds_ne (by omega), Array.getElem?_setIfInBounds_ne (by omega), Array.getElem?_setIfInBounds_self_of_lt (by first | omega | (simp; omega))]
    · rw [Array.getElem?_setIfInBounds_ne (by omega), Array.getElem?_setIfInBounds_self_of_lt (by first | omega | (simp; omega))]
    · rw [Array.getElem?_setIfInBounds_self_of_lt (by first | omega | (simp; omega))]
  · rw [List.getElem?_set_ne hik] at hy
    obtain ⟨a, b, c, d⟩ := h i y hy
    refine ⟨?_, ?_, ?_, ?_⟩
    · rw [Array.getElem?_setIfInBounds_ne (by omega), Array.getElem?_setIfInBounds_ne (by omega), Array.getElem?_setIfInBounds_ne (by omega), Array.getElem?_setIfInBounds_ne (by omega)]; exact a
    · rw [Array.getElem?_setIfInBounds_ne (by omega), Array.getElem?_setIfInBounds_ne (by omega), Array.getElem?_setIfInBounds_ne (by omega), Array.getElem?_setIfInBounds_ne (by omega)]; exact b
    · rw [Array.getElem?_setIfInBounds_ne (by omega), Array.getElem?_setIfInBounds_ne (by omega), Array.getElem?_setIfInBounds_ne (by omega), Array.getElem?_setIfInBounds_ne (by omega)]; exact c
    · rw [Array.getElem?_setIfInBounds_ne (by omega), Array.getElem?_setIfInBounds_ne (by omega), Array.getElem?_setIfInBounds_ne (by omega), Array.getElem?_setIfInBounds_ne (by omega)]; exact d

section
variable {w w' : World} {g : Nat} {d : Array Bk}
theorem Dat.lt (h : Dat w g d) : g < w.heap.size := RowB.lt h
theorem Dat.below {B : Nat} (h : Dat w g d) (hb : Below B w w') (hg : g < B) : Dat w' g d := RowB.below h hb hg
theorem Dat.alloc (h : Dat w g d) (o : Obj) : Dat (w.alloc o) g d := RowB.alloc h o
theorem Dat.drewN (h : Dat w g d) (n : Nat) : Dat (w.drewN n) g d := h
theorem Dat.drew (h : Dat w g d) : Dat w.drew g d := h
theorem Dat.cells (h : Dat w g d) {k : Nat} (hk : k < d.size) :
    w.cell? ⟨g, k * 4, none⟩ = some (.int .i64 (Bk.line d[k]!)) ∧ w.cell? ⟨g, k * 4 + 1, none⟩ = some (.int .i64 (Bk.cls d[k]!)) ∧ w.cell? ⟨g, k * 4 + 2, none⟩ = some (.int .i64 (Bk.kind d[k]!)) ∧ w.cell? ⟨g, k * 4 + 3, none⟩ = some (.int .i64 (Bk.gen d[k]!)) :=
  RowB.cells h (by rw [getElem!_pos d k hk]; simp [hk])
theorem Dat.at_ (h : Dat w g d) {k : Nat} {x : Bk} (hk : k < d.size) (hx : Hid (d[k]! = x)) :
    w.cell? ⟨g, k * 4, none⟩ = some (.int .i64 x.line) ∧ w.cell? ⟨g, k * 4 + 1, none⟩ = some (.int .i64 x.cls) ∧ w.cell? ⟨g, k * 4 + 2, none⟩ = some (.int .i64 x.kind) ∧ w.cell? ⟨g, k * 4 + 3, none⟩ = some (.int .i64 x.gen) := by
  rw [← hx.out]
  exact h.cells hk
theorem Dat.free4 (h : Dat w g d) (k : Nat) : w.frozen? ⟨g, k * 4, none⟩ = false ∧ w.frozen? ⟨g, k * 4 + 1, none⟩ = false ∧ w.frozen? ⟨g, k * 4 + 2, none⟩ = false ∧ w.frozen? ⟨g, k * 4 + 3, none⟩ = false :=
  ⟨RowB.free h _, RowB.free h _, RowB.free h _, RowB.free h _⟩
theorem Dat.swap (h : Dat w g d) {i j : Nat} (hi : i < d.size) (hj : j < d.size) : Dat (put4 (put4 w g (i * 4) d[j]!) g (j * 4) d[i]!) g (swp d i j) := by
  unfold Dat swp
  rw [Array.toList_setIfInBounds, Array.toList_setIfInBounds]
  exact RowB.put (RowB.put h (by simpa using hi) _) (by simpa using hj) _
end
end Go.Proofs.YtcoeoggoaiebeaaDoor

namespace Go.Proofs.YtcoeoggoaiebeaaDoor
open Go.RowKit
open Go.Sort (swp PermIn SortedIn SWO swp_permIn permIn_refl permIn_trans permIn_mono permIn_all)
set_option linter.unusedSimpArgs false
set_option linter.unusedVariables false

def SwRel (w : World) (g a b n : Nat) (d : Array Bk) (i : Value) (wr : World) : Prop :=
  ∃ (k : Nat) (d' : Array Bk), k ≤ n ∧ i = .int .i64 k ∧ Dat wr g d' ∧ SwR a b k d d' ∧ PermIn a (b + n) d d' ∧ Below g w wr
/-- What a function on a row leaves. -/
def RowPost (w : World) (g : Nat) (R : Array Bk → Prop) (e : Ending) (w' : World) : Prop := e = .returned (.tuple #[]) ∧ ∃ d', Dat w' g d' ∧ R d' ∧ Below g w w'

set_option maxRecDepth 100000 in
set_option maxHeartbeats 2000000 in
theorem swapRange_calls (w : World) (g a b n c : Nat) (d : Array Bk) (fv : Value) (hD : Dat w g d) (hab : a + n ≤ b) (hb : b + n ≤ d.size) (hs : d.size ≤ 1000) :
    Calls Tryd.prog 97 #[.slice (some ⟨g, 0, none⟩) d.size c, .int .i64 (a : Int), .int .i64 (b : Int), .int .i64 (n : Int), fv] w (RowPost w g fun d' => SwR a b n d d' ∧ PermIn a (b + n) d d') := by
  go_enter Tryd.func97, Tryd.ntmps97
  go_wp2_with fail
  go_loopw [10] (fun i wr => SwRel w g a b n d i wr) (fun i _ => n - (intOf i).toNat)
  case atStart => exact ⟨0, d, Nat.zero_le _, rfl, hD, SwR.zero a b d, permIn_refl _ _ _, Below.refl _ _⟩
  case round =>
    clear hD
    obtain ⟨k, d', hk, rfl, hD, hS, hP, hbl⟩ := hrel
    by_cases hlt : k < n
    · have hsz : d'.size = d.size := hS.1
      have HSZ := Lib.hid hsz
      obtain ⟨p, hp⟩ : ∃ p : Nat, a + k = p := ⟨_, rfl⟩
      obtain ⟨q, hq⟩ : ∃ q : Nat, b + k = q := ⟨_, rfl⟩
      have hp' : p < d.size := by omega
      have hq' : q < d.size := by omega
      have hpe : (a : Int) + (k : Int) = (p : Int) := by omega
      have hqe : (b : Int) + (k : Int) = (q : Int) := by omega
      have hpq : p < q := by omega
      have hgl := hD.lt
      obtain ⟨x0, x1, x2, x3⟩ := hD.cells (k := p) (by omega)
      obtain ⟨y0, y1, y2, y3⟩ := hD.cells (k := q) (by omega)
      obtain ⟨f0, f1, f2, f3⟩ := hD.free4 p
      obtain ⟨h0, h1, h2, h3⟩ := hD.free4 q
      have hfin := hD.swap (i := p) (j := q) (by omega) (by omega)
      have HS : Hid (SwR a b (k + 1) d (swp d' p q)) := by rw [← hp, ← hq]; exact hS.step (by omega) (by omega)
      have HP : Hid (PermIn a (b + n) d (swp d' p q)) := permIn_trans _ _ _ _ _ hP (swp_permIn d' a (b + n) p q (by omega) (by omega) (by omega) (by omega) (by omega))
      have HF := Lib.hid hfin
      clear hp hq hsz hS hP hfin
      go_wp2_with fail
      go_region
      go_wp2_with fail
      go_roundw
      case rel => exact ⟨k + 1, swp d' p q, by omega, by go_num, HF.out.drew, HS.out, HP.out, by (repeat (first | with_reducible exact Below.refl _ _ | with_reducible assumption | with_reducible refine below_drewN ?_ _ | with_reducible refine Below.drew ?_ | with_reducible refine Below.alloc ?_ (by first | omega | (simp; omega) | simp) _ | with_reducible refine Below.setCell ?_ (by first | omega | (simp; omega) | simp) _))⟩
      case measure => simp [intOf]; omega
    · obtain rfl : k = n := by omega
      have HS := Lib.hid hS
      have HP := Lib.hid hP
      clear hS hP
      go_wp2_with fail
      go_end0
      exact ⟨rfl, d', hD, ⟨HS.out, HP.out⟩, hbl⟩

def RotRel (w : World) (g a m b : Nat) (d : Array Bk) (iv jv : Value) (wr : World) : Prop :=
  ∃ (i j : Nat) (d' : Array Bk), iv = .int .i64 i ∧ jv = .int .i64 j ∧ 0 < i ∧ 0 < j ∧ a + i ≤ m ∧ m + j ≤ b ∧ Dat wr g d' ∧ RotI a m b i j d d' ∧ PermIn a b d d' ∧ Below g w wr

set_option maxRecDepth 100000 in
set_option maxHeartbeats 2000000 in
theorem rotate_calls (w : World) (g a m b c : Nat) (d : Array Bk) (fv : Value) (hD : Dat w g d) (ham : a < m) (hmb : m < b) (hb : b ≤ d.size) (hs : d.size ≤ 1000) :
    Calls Tryd.prog 94 #[.slice (some ⟨g, 0, none⟩) d.size c, .int .i64 (a : Int), .int .i64 (m : Int), .int .i64 (b : Int), fv] w (RowPost w g fun d' => (∀ k, d'[k]! = rotF a m b d k) ∧ PermIn a b d d') := by
  obtain ⟨i0, hi0⟩ : ∃ i0 : Nat, m - a = i0 := ⟨_, rfl⟩
  obtain ⟨j0, hj0⟩ : ∃ j0 : Nat, b - m = j0 := ⟨_, rfl⟩
  have hie : (m : Int) - (a : Int) = (i0 : Int) := by omega
  have hje : (b : Int) - (m : Int) = (j0 : Int) := by omega
  have HI := Lib.hid hi0
  have HJ := Lib.hid hj0
  clear hi0 hj0
  go_enter Tryd.func94, Tryd.ntmps94
  go_wp2_with fail
  go_loopw [10, 11] (fun i j wr => RotRel w g a m b d i j wr) (fun i j _ => (intOf i).toNat + (intOf j).toNat)
  case atStart =>
    have h1 := HI.out
    have h2 := HJ.out
    exact ⟨i0, j0, d, rfl, rfl, by omega, by omega, by omega, by omega, hD, by rw [← h1, ← h2]; exact RotI.start d (by omega) (by omega), permIn_refl _ _ _, Below.refl _ _⟩
  case round =>
    clear hD hie hje HI HJ
    obtain ⟨i, j, d', rfl, rfl, hi, hj, hai, hjb, hD, hR, hP, hbl⟩ := hrel
    have hsz : d'.size = d.size := hR.1
    have HSZ := Lib.hid hsz
    have HR := Lib.hid hR
    have HP := Lib.hid hP
    clear hsz hR hP
    obtain ⟨p, hp⟩ : ∃ p : Nat, m - i = p := ⟨_, rfl⟩
    have hpe : (m : Int) - (i : Int) = (p : Int) := by omega
    by_cases hij : i = j
    · have b1 : ((i : Int) != (j : Int)) = false := by simp [hij]
      have HIJ := Lib.hid hij
      have HPP := Lib.hid hp
      clear hij hp
      go_wp2_with fail
      rw [← HSZ.out]
      refine (swapRange_calls wr g p m i c d' fv hD (by have := HPP.out; omega) (by have := HSZ.out; have := HIJ.out; omega) (by have := HSZ.out; omega)).mono ?_
      rintro e w1 ⟨rfl, d1, hD1, ⟨hS1, hP1⟩, hb1⟩
      have hEnd : (∀ k, d1[k]! = rotF a m b d k) ∧ PermIn a b d d1 := by
        have h1 := HPP.out
        have h2 := HR.out
        have h3 := HIJ.out
        have h4 := HSZ.out
        rw [← h3] at h2
        rw [← h1] at hS1
        exact ⟨RotI.last h2 (by omega) hS1, permIn_trans _ _ _ _ _ HP.out (permIn_mono _ _ p (m + i) a b (by omega) (by omega) (by omega) hP1)⟩
      have HE := Lib.hid hEnd
      clear hEnd hS1 hP1
      go_wp2_with fail
      go_end0
      exact ⟨rfl, d1, hD1, HE.out, hbl.trans hb1⟩
    · have b1 : ((i : Int) != (j : Int)) = true := by simp; omega
      by_cases hlt : j < i
      · have HPP := Lib.hid hp
        obtain ⟨i', hi'⟩ : ∃ i' : Nat, i - j = i' := ⟨_, rfl⟩
        have hie : (i : Int) - (j : Int) = (i' : Int) := by omega
        have HI := Lib.hid hi'
        clear hij hp hi'
        go_wp2_with fail
        rw [← HSZ.out]
        refine (swapRange_calls wr g p m j c d' fv hD (by have := HPP.out; omega) (by have := HSZ.out; omega) (by have := HSZ.out; omega)).mono ?_
        rintro e w1 ⟨rfl, d1, hD1, ⟨hS1, hP1⟩, hb1⟩
        rw [HSZ.out]
        have hEnd : RotI a m b i' j d d1 ∧ PermIn a b d d1 := by
          have h1 := HPP.out
          have h2 := HI.out
          have h4 := HSZ.out
          rw [← h1] at hS1
          rw [← h2]
          exact ⟨HR.out.left hlt (by omega) hS1, permIn_trans _ _ _ _ _ HP.out (permIn_mono _ _ p (m + j) a b (by omega) (by omega) (by omega) hP1)⟩
        have HE := Lib.hid hEnd
        clear hEnd hS1 hP1
        go_wp2_with fail
        go_roundw
        case rel => exact ⟨i', j, d1, rfl, rfl, by have := HI.out; omega, hj, by have := HI.out; omega, hjb, hD1, HE.out.1, HE.out.2, hbl.trans hb1⟩
        case measure => have := HI.out; simp [intOf]; omega
      · have hlt2 : i < j := by omega
        have HPP := Lib.hid hp
        obtain ⟨j', hj'⟩ : ∃ j' : Nat, j - i = j' := ⟨_, rfl⟩
        have hje : (j : Int) - (i : Int) = (j' : Int) := by omega
        obtain ⟨q, hq⟩ : ∃ q : Nat, m + j - i = q := ⟨_, rfl⟩
        have hqe : (m : Int) + (j : Int) - (i : Int) = (q : Int) := by omega
        have HJ := Lib.hid hj'
        have HQ := Lib.hid hq
        clear hij hp hj' hq
        go_wp2_with fail
        rw [← HSZ.out]
        refine (swapRange_calls wr g p q i c d' fv hD (by have := HPP.out; have := HQ.out; omega) (by have := HSZ.out; have := HQ.out; omega) (by have := HSZ.out; omega)).mono ?_
        rintro e w1 ⟨rfl, d1, hD1, ⟨hS1, hP1⟩, hb1⟩
        rw [HSZ.out]
        have hEnd : RotI a m b i j' d d1 ∧ PermIn a b d d1 := by
          have h1 := HPP.out
          have h2 := HJ.out
          have h3 := HQ.out
          have h4 := HSZ.out
          rw [← h1, ← h3] at hS1
          rw [← h2]
          exact ⟨HR.out.right hlt2 (by omega) hS1, permIn_trans _ _ _ _ _ HP.out (permIn_mono _ _ p (q + i) a b (by omega) (by omega) (by omega) hP1)⟩
        have HE := Lib.hid hEnd
        clear hEnd hS1 hP1
        go_wp2_with fail
        go_roundw
        case rel => exact ⟨i, j', d1, rfl, rfl, hi, by have := HJ.out; omega, hai, by have := HJ.out; omega, hD1, HE.out.1, HE.out.2, hbl.trans hb1⟩
        case measure => have := HJ.out; simp [intOf]; omega
end Go.Proofs.YtcoeoggoaiebeaaDoor

namespace Go.Proofs.YtcoeoggoaiebeaaDoor
open Go.RowKit
open Go.Sort (swp PermIn SortedIn SWO swp_permIn permIn_refl permIn_trans permIn_mono permIn_all Ins)
set_option linter.unusedSimpArgs false
set_option linter.unusedVariables false

def InsRel1 (w : World) (g a b : Nat) (d : Array Bk) (iv : Value) (wr : World) : Prop :=
  ∃ (i : Nat) (d' : Array Bk), iv = .int .i64 i ∧ a < i ∧ (i ≤ b ∨ i = a + 1) ∧ Dat wr g d' ∧ PermIn a b d d' ∧ SortedIn ltB a i d' ∧ Below g w wr
def InsRel2 (w : World) (g a b i : Nat) (d : Array Bk) (jv : Value) (wr : World) : Prop :=
  ∃ (j : Nat) (d' : Array Bk), jv = .int .i64 j ∧ a ≤ j ∧ j ≤ i ∧ Dat wr g d' ∧ PermIn a b d d' ∧ Ins ltB a j i d' ∧ Below g w wr

set_option maxRecDepth 100000 in
set_option maxHeartbeats 1000000 in
theorem insertion_calls (w : World) (g a b c : Nat) (d : Array Bk) (hD : Dat w g d) (hab : a ≤ b) (hb : b ≤ d.size) (hs : d.size ≤ 1000) :
    Calls Tryd.prog 85 #[.slice (some ⟨g, 0, none⟩) d.size c, .int .i64 (a : Int), .int .i64 (b : Int), .func (.func 45) #[] #[]] w (RowPost w g fun d' => PermIn a b d d' ∧ SortedIn ltB a b d') := by
  go_enter Tryd.func85, Tryd.ntmps85
  go_wp2_with fail
  go_loopw [8, 9] (fun i _ wr => InsRel1 w g a b d i wr) (fun i _ _ => b - (intOf i).toNat)
  case atStart => exact ⟨a + 1, d, by go_num, by omega, .inr rfl, hD, permIn_refl _ _ _, fun p q h1 h2 h3 => by omega, Below.refl _ _⟩
  case round =>
    clear hD
    obtain ⟨i, d', rfl, hai, hib, hD, hP, hS, hbl⟩ := hrel
    have HP := Lib.hid hP
    have HS := Lib.hid hS
    clear hP hS
    by_cases hlt : i < b
    · go_wp2_with fail
      go_loopw [9] (fun j wr => InsRel2 w g a b i d j wr) (fun j _ => (intOf j).toNat)
      case atStart => exact ⟨i, d', rfl, by omega, by omega, hD, HP.out, ⟨fun p q h1 h2 h3 _ h5 => HS.out p q h1 h2 (by omega), fun q h1 h2 => by omega⟩, hbl⟩
      case round =>
        clear hD HP HS hbl
        obtain ⟨j, d', rfl, haj, hji, hD, hP, hI, hbl⟩ := hrel
        have HSZ := Lib.hid hP.1
        have HP := Lib.hid hP
        have HI := Lib.hid hI
        clear hP hI
        have hgl := hD.lt
        by_cases hja : a < j
        · obtain ⟨q, hq⟩ : ∃ q : Nat, j = q + 1 := ⟨j - 1, by omega⟩
          have hqe : (j : Int) - 1 = (q : Int) := by omega
          have hjz : j < d'.size := by have := HSZ.out; omega
          have hqz : q < d'.size := by omega
          have hjs : j < d.size := by omega
          have hqs : q < d.size := by omega
          have hjb : j < b := by omega
          have haq : a ≤ q := by omega
          have hqw : IntKind.i64.wrap (q : Int) = (q : Int) := IntWalk.i64_in _ (by omega)
          have iq0 : (0 : Int) ≤ (q : Int) := by omega
          have iq1 : (q : Int) < (d.size : Int) := by omega
          have HQ := Lib.hid hq
          have hqj : q < j := by omega
          clear hq
          obtain ⟨x, hx⟩ : ∃ x : Bk, d'[j]! = x := ⟨_, rfl⟩
          obtain ⟨y, hy⟩ : ∃ y : Bk, d'[q]! = y := ⟨_, rfl⟩
          have HX := Lib.hid hx
          have HY := Lib.hid hy
          clear hx hy
          obtain ⟨x0, x1, x2, x3⟩ := hD.at_ hjz HX
          obtain ⟨y0, y1, y2, y3⟩ := hD.at_ hqz HY
          obtain ⟨w3, hw3⟩ : ∃ x : World, x = wr := ⟨_, rfl⟩
          subst hw3
          obtain ⟨v, hv⟩ : ∃ v, cmpB x y = v := ⟨_, rfl⟩
          have HV := Lib.hid hv
          have HL : Hid (decide (v < 0) = ltB x y) := by show _ = _; rw [← hv]; exact cmpB_lt _ _
          clear hv
          by_cases hv0 : v < 0
          · go_wp2_with fail
            go_region_held3 (fun w' => w'.cell? ⟨g, j * 4, none⟩ = some (.int .i64 x.line) ∧ w'.cell? ⟨g, j * 4 + 1, none⟩ = some (.int .i64 x.cls) ∧ w'.cell? ⟨g, j * 4 + 2, none⟩ = some (.int .i64 x.kind) ∧ w'.cell? ⟨g, j * 4 + 3, none⟩ = some (.int .i64 x.gen) ∧ w'.cell? ⟨g, q * 4, none⟩ = some (.int .i64 y.line) ∧ w'.cell? ⟨g, q * 4 + 1, none⟩ = some (.int .i64 y.cls) ∧ w'.cell? ⟨g, q * 4 + 2, none⟩ = some (.int .i64 y.kind) ∧ w'.cell? ⟨g, q * 4 + 3, none⟩ = some (.int .i64 y.gen)) (go_keep)
              (first
                | (go_at_call 45; refine (cmp_calls _ x y).mono ?_; rintro e wa ⟨rfl, ba0⟩; rw [HV.out]; (have ba : Below w3.heap.size w3 wa := (by first | exact below_of_drew ba0 | exact ba0)); (have dA := Dat.below hD ba hgl); (have qa := Dat.at_ dA hjz HX); (have qb := Dat.at_ dA hqz HY)))
            clear x0 x1 x2 x3 y0 y1 y2 y3 qa qb
            have hga := dA.lt
            obtain ⟨x0, x1, x2, x3⟩ := dA.at_ hjz HX
            obtain ⟨y0, y1, y2, y3⟩ := dA.at_ hqz HY
            obtain ⟨f0, f1, f2, f3⟩ := dA.free4 j
            obtain ⟨h0, h1, h2, h3⟩ := dA.free4 q
            have hBa : Below g w wa := hbl.trans (ba.mono (Nat.le_of_lt hgl))
            have hfin := dA.swap hjz hqz
            rw [HX.out, HY.out] at hfin
            have HF := Lib.hid hfin
            have HI2 : Hid (Ins ltB a q i (swp d' j q)) := by
              have hl := HL.out
              have hI := HI.out
              have hj1 := HQ.out
              rw [decide_eq_true hv0, ← HX.out, ← HY.out] at hl
              rw [hj1] at hl hI
              show Ins ltB a q i (swp d' j q)
              rw [hj1]
              exact hI.step hl.symm haq (by omega)
            have HP2 : Hid (PermIn a b d (swp d' j q)) := permIn_trans _ _ _ _ _ HP.out (swp_permIn d' a b j q haj hjb haq (by omega) (by have := HSZ.out; omega))
            clear hfin hbl ba hD
            go_wp2_with fail
            go_region
            go_wp2_with fail
            go_roundw
            case rel => exact ⟨q, swp d' j q, rfl, haq, by omega, HF.out.drew, HP2.out, HI2.out, by (repeat (first | with_reducible exact Below.refl _ _ | with_reducible assumption | with_reducible refine below_drewN ?_ _ | with_reducible refine Below.drew ?_ | with_reducible refine Below.alloc ?_ (by first | omega | (simp; omega) | simp) _ | with_reducible refine Below.setCell ?_ (by first | omega | (simp; omega) | simp) _))⟩
            case measure => have := HQ.out; simp [intOf]; omega
          · go_wp2_with fail
            go_region_held3 (fun w' => w'.cell? ⟨g, j * 4, none⟩ = some (.int .i64 x.line) ∧ w'.cell? ⟨g, j * 4 + 1, none⟩ = some (.int .i64 x.cls) ∧ w'.cell? ⟨g, j * 4 + 2, none⟩ = some (.int .i64 x.kind) ∧ w'.cell? ⟨g, j * 4 + 3, none⟩ = some (.int .i64 x.gen) ∧ w'.cell? ⟨g, q * 4, none⟩ = some (.int .i64 y.line) ∧ w'.cell? ⟨g, q * 4 + 1, none⟩ = some (.int .i64 y.cls) ∧ w'.cell? ⟨g, q * 4 + 2, none⟩ = some (.int .i64 y.kind) ∧ w'.cell? ⟨g, q * 4 + 3, none⟩ = some (.int .i64 y.gen)) (go_keep)
              (first
                | (go_at_call 45; refine (cmp_calls _ x y).mono ?_; rintro e wa ⟨rfl, ba0⟩; rw [HV.out]; (have ba : Below w3.heap.size w3 wa := (by first | exact below_of_drew ba0 | exact ba0)); (have dA := Dat.below hD ba hgl); (have qa := Dat.at_ dA hjz HX); (have qb := Dat.at_ dA hqz HY)))
            have hBa : Below g w wa := hbl.trans (ba.mono (Nat.le_of_lt hgl))
            have HS2 : Hid (SortedIn ltB a (i + 1) d') := by
              have hl := HL.out
              have hj1 := HQ.out
              rw [decide_eq_false (by omega), ← HX.out, ← HY.out] at hl
              exact HI.out.stop swoB (.inr (by rw [show j - 1 = q by omega]; exact hl.symm))
            clear x0 x1 x2 x3 y0 y1 y2 y3 qa qb hbl ba hD
            go_wp2_with fail
            go_roundw
            case rel => exact ⟨i + 1, d', by go_num, by omega, .inl (by omega), dA, HP.out, HS2.out, by (repeat (first | with_reducible exact Below.refl _ _ | with_reducible assumption | with_reducible refine below_drewN ?_ _ | with_reducible refine Below.drew ?_ | with_reducible refine Below.alloc ?_ (by first | omega | (simp; omega) | simp) _ | with_reducible refine Below.setCell ?_ (by first | omega | (simp; omega) | simp) _))⟩
            case measure => simp [intOf]; omega
        · have hja' : j ≤ a := by omega
          have HS2 : Hid (SortedIn ltB a (i + 1) d') := HI.out.stop swoB (.inl hja')
          go_wp2_with fail
          go_quiet (fail)
          go_wp2_with fail
          go_roundw
          case rel => exact ⟨i + 1, d', by go_num, by omega, .inl (by omega), hD.drewN _, HP.out, HS2.out, by (repeat (first | with_reducible exact Below.refl _ _ | with_reducible assumption | with_reducible refine below_drewN ?_ _ | with_reducible refine Below.drew ?_ | with_reducible refine Below.alloc ?_ (by first | omega | (simp; omega) | simp) _ | with_reducible refine Below.setCell ?_ (by first | omega | (simp; omega) | simp) _))⟩
          case measure => simp [intOf]; omega
    · have HS2 : Hid (SortedIn ltB a b d') := SortedIn.left HS.out (by omega)
      go_wp2_with fail
      go_end0
      exact ⟨rfl, d', hD, ⟨HP.out, HS2.out⟩, hbl⟩
end Go.Proofs.YtcoeoggoaiebeaaDoor
