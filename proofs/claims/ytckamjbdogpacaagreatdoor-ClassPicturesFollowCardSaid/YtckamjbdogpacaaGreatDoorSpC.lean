/-
  The specification of the code: Flip, Checked, Check, Fix: they return.
-/
import Derived.Test.YtckamjbdogpacaaGreatDoorSpB
namespace Go.Proofs.YtckamjbdogpacaaGreatDoor
open Go.RowKit
set_option linter.unusedSimpArgs false
set_option linter.unusedVariables false

set_option maxRecDepth 100000 in
set_option maxHeartbeats 1000000 in
theorem sflip_calls (w : World) (f : Nat → Int) (c a b : Int) : Calls Tryz.prog 115 #[.agg #[.int .i64 (f 0), .int .i64 (f 1), .int .i64 (f 2), .int .i64 (f 3), .int .i64 (f 4), .int .i64 (f 5), .int .i64 (f 6), .int .i64 (f 7)], .int .i64 c, .int .i64 a, .int .i64 b] w (FlPost w) := by
  cases h : exB a b with
  | false =>
    go_enter Tryz.func115, Tryz.ntmps115
    go_wp2_with fail
    refine (sexists_calls _ a b).mono ?_
    rintro e w1 ⟨rfl, rfl⟩
    rw [h]
    generalize hwn : (w.alloc (.cells #[.int .i64 (f 0), .int .i64 (f 1), .int .i64 (f 2), .int .i64 (f 3), .int .i64 (f 4), .int .i64 (f 5), .int .i64 (f 6), .int .i64 (f 7)] 67)).alloc (.cells #[.int .i64 0, .int .i64 0, .int .i64 0, .int .i64 0, .int .i64 0, .int .i64 0, .int .i64 0, .int .i64 0] 67) = wn
    have hX : Cl wn w.heap.size 67 #[.int .i64 (f 0), .int .i64 (f 1), .int .i64 (f 2), .int .i64 (f 3), .int .i64 (f 4), .int .i64 (f 5), .int .i64 (f 6), .int .i64 (f 7)] := by rw [← hwn]; exact (Cl.new _ _ _).alloc _
    have hZ : Cl wn (w.heap.size + 1) 67 #[.int .i64 0, .int .i64 0, .int .i64 0, .int .i64 0, .int .i64 0, .int .i64 0, .int .i64 0, .int .i64 0] := by rw [← hwn]; exact Cl.new_ _ _ _ _ (by simp)
    have hB : Below w.heap.size w wn := by rw [← hwn]; (repeat (first | with_reducible exact Below.refl _ _ | with_reducible assumption | with_reducible refine below_drewN ?_ _ | with_reducible refine Below.drew ?_ | with_reducible refine Below.alloc ?_ (by first | omega | (simp; omega) | simp) _ | with_reducible refine Below.setCell ?_ (by first | omega | (simp; omega) | simp) _))
    clear hwn
    have l0 := hX.lt
    have l1 := hZ.lt
    obtain ⟨x0, x1, x2, x3, x4, x5, x6, x7⟩ := hX.has8'
    obtain ⟨y0, y1, y2, y3, y4, y5, y6, y7⟩ := hZ.free8'
    obtain ⟨z0, z1, z2, z3, z4, z5, z6, z7⟩ := hZ.has8'
    go_wp2_with fail
    refine bodyPost_ret (v := .tuple #[.agg #[.int .i64 (f 0), .int .i64 (f 1), .int .i64 (f 2), .int .i64 (f 3), .int .i64 (f 4), .int .i64 (f 5), .int .i64 (f 6), .int .i64 (f 7)], .int .i64 c]) ?_ rfl ⟨⟨f, c, rfl⟩, ?_⟩
    · simp [results, Tryz.results115, go_sem, *]
    · (repeat (first | with_reducible exact Below.refl _ _ | with_reducible assumption | with_reducible refine below_drewN ?_ _ | with_reducible refine Below.drew ?_ | with_reducible refine Below.alloc ?_ (by first | omega | (simp; omega) | simp) _ | with_reducible refine Below.setCell ?_ (by first | omega | (simp; omega) | simp) _))
  | true =>
    have hr : 0 ≤ a ∧ a < 8 ∧ 0 ≤ b ∧ b < 40 ∨ a = 8 ∧ 0 ≤ b ∧ b < 10 := by simpa [exB] using h
    by_cases h8 : a = 8
    · have hb0 : 0 ≤ b := by omega
      have hb1 : b < 40 := by omega
      have e8 : (a == 8) = true := by simp [h8]
      clear hr h8
      obtain ⟨c', hc⟩ : ∃ c', bits .xor .i64 c (wrap64 (2 ^ b.toNat)) = c' := ⟨_, rfl⟩
      go_enter Tryz.func115, Tryz.ntmps115
      go_wp2_with fail
      refine (sexists_calls _ a b).mono ?_
      rintro e w1 ⟨rfl, rfl⟩
      rw [h]
      generalize hwn : (w.alloc (.cells #[.int .i64 (f 0), .int .i64 (f 1), .int .i64 (f 2), .int .i64 (f 3), .int .i64 (f 4), .int .i64 (f 5), .int .i64 (f 6), .int .i64 (f 7)] 67)).alloc (.cells #[.int .i64 0, .int .i64 0, .int .i64 0, .int .i64 0, .int .i64 0, .int .i64 0, .int .i64 0, .int .i64 0] 67) = wn
      have hX : Cl wn w.heap.size 67 #[.int .i64 (f 0), .int .i64 (f 1), .int .i64 (f 2), .int .i64 (f 3), .int .i64 (f 4), .int .i64 (f 5), .int .i64 (f 6), .int .i64 (f 7)] := by rw [← hwn]; exact (Cl.new _ _ _).alloc _
      have hZ : Cl wn (w.heap.size + 1) 67 #[.int .i64 0, .int .i64 0, .int .i64 0, .int .i64 0, .int .i64 0, .int .i64 0, .int .i64 0, .int .i64 0] := by rw [← hwn]; exact Cl.new_ _ _ _ _ (by simp)
      have hB : Below w.heap.size w wn := by rw [← hwn]; (repeat (first | with_reducible exact Below.refl _ _ | with_reducible assumption | with_reducible refine below_drewN ?_ _ | with_reducible refine Below.drew ?_ | with_reducible refine Below.alloc ?_ (by first | omega | (simp; omega) | simp) _ | with_reducible refine Below.setCell ?_ (by first | omega | (simp; omega) | simp) _))
      clear hwn
      have l0 := hX.lt
      have l1 := hZ.lt
      obtain ⟨x0, x1, x2, x3, x4, x5, x6, x7⟩ := hX.has8'
      obtain ⟨y0, y1, y2, y3, y4, y5, y6, y7⟩ := hZ.free8'
      obtain ⟨z0, z1, z2, z3, z4, z5, z6, z7⟩ := hZ.has8'
      go_wp2_with fail
      go_region
      all_goals
        go_wp2_with fail
        refine bodyPost_ret (v := .tuple #[.agg #[.int .i64 (f 0), .int .i64 (f 1), .int .i64 (f 2), .int .i64 (f 3), .int .i64 (f 4), .int .i64 (f 5), .int .i64 (f 6), .int .i64 (f 7)], .int .i64 c']) ?_ rfl ⟨⟨f, c', rfl⟩, ?_⟩
        · simp [results, Tryz.results115, go_sem, *]
        · (repeat (first | with_reducible exact Below.refl _ _ | with_reducible assumption | with_reducible refine below_drewN ?_ _ | with_reducible refine Below.drew ?_ | with_reducible refine Below.alloc ?_ (by first | omega | (simp; omega) | simp) _ | with_reducible refine Below.setCell ?_ (by first | omega | (simp; omega) | simp) _))
    · obtain ⟨k, rfl⟩ : ∃ k : Nat, a = k := ⟨a.toNat, by omega⟩
      have hk : k < 8 := by omega
      have hb0 : 0 ≤ b := by omega
      have hb1 : b < 40 := by omega
      have e8 : ((k : Int) == 8) = false := by simp; omega
      have ki1 : (k : Int) < 8 := by omega
      clear hr h8
      obtain ⟨p, hp⟩ : ∃ p, wrap64 (2 ^ b.toNat) = p := ⟨_, rfl⟩
      obtain ⟨f', hf'⟩ : ∃ f', f' = setW f k (bits .xor .i64 (f k) p) := ⟨_, rfl⟩
      have hset := w8_set f k (bits .xor .i64 (f k) p) hk
      rw [← hf'] at hset
      have HSET := Lib.hid hset
      have HP := Lib.hid hp
      clear hset hp hf'
      have gx := w8_get f k hk
      go_enter Tryz.func115, Tryz.ntmps115
      go_wp2_with fail
      refine (sexists_calls _ (k : Int) b).mono ?_
      rintro e w1 ⟨rfl, rfl⟩
      rw [h]
      generalize hwn : (w.alloc (.cells #[.int .i64 (f 0), .int .i64 (f 1), .int .i64 (f 2), .int .i64 (f 3), .int .i64 (f 4), .int .i64 (f 5), .int .i64 (f 6), .int .i64 (f 7)] 67)).alloc (.cells #[.int .i64 0, .int .i64 0, .int .i64 0, .int .i64 0, .int .i64 0, .int .i64 0, .int .i64 0, .int .i64 0] 67) = wn
      have hX : Cl wn w.heap.size 67 #[.int .i64 (f 0), .int .i64 (f 1), .int .i64 (f 2), .int .i64 (f 3), .int .i64 (f 4), .int .i64 (f 5), .int .i64 (f 6), .int .i64 (f 7)] := by rw [← hwn]; exact (Cl.new _ _ _).alloc _
      have hZ : Cl wn (w.heap.size + 1) 67 #[.int .i64 0, .int .i64 0, .int .i64 0, .int .i64 0, .int .i64 0, .int .i64 0, .int .i64 0, .int .i64 0] := by rw [← hwn]; exact Cl.new_ _ _ _ _ (by simp)
      have hB : Below w.heap.size w wn := by rw [← hwn]; (repeat (first | with_reducible exact Below.refl _ _ | with_reducible assumption | with_reducible refine below_drewN ?_ _ | with_reducible refine Below.drew ?_ | with_reducible refine Below.alloc ?_ (by first | omega | (simp; omega) | simp) _ | with_reducible refine Below.setCell ?_ (by first | omega | (simp; omega) | simp) _))
      clear hwn
      have l0 := hX.lt
      have l1 := hZ.lt
      have x0 := (hX.cell k).trans gx
      have f0 := hX.free k
      go_wp2_with fail
      go_region
      rw [HP.out]
      have hS := hX.set_ k (.int .i64 (bits .xor .i64 (f k) p))
      rw [HSET.out] at hS
      have hZ2 := hZ.far (p := ⟨w.heap.size, k, none⟩) (by simp) (.int .i64 (bits .xor .i64 (f k) p))
      have hB2 : Below w.heap.size w (wn.setCell ⟨w.heap.size, k, none⟩ (.int .i64 (bits .xor .i64 (f k) p))) := by (repeat (first | with_reducible exact Below.refl _ _ | with_reducible assumption | with_reducible refine below_drewN ?_ _ | with_reducible refine Below.drew ?_ | with_reducible refine Below.alloc ?_ (by first | omega | (simp; omega) | simp) _ | with_reducible refine Below.setCell ?_ (by first | omega | (simp; omega) | simp) _))
      generalize wn.setCell ⟨w.heap.size, k, none⟩ (.int .i64 (bits .xor .i64 (f k) p)) = w2 at *
      have l2 := hS.lt
      have l3 := hZ2.lt
      clear x0 f0 gx hX hZ hB l0 l1
      obtain ⟨x0, x1, x2, x3, x4, x5, x6, x7⟩ := hS.has8'
      obtain ⟨y0, y1, y2, y3, y4, y5, y6, y7⟩ := hZ2.free8'
      obtain ⟨z0, z1, z2, z3, z4, z5, z6, z7⟩ := hZ2.has8'
      go_wp2_with fail
      refine bodyPost_ret (v := .tuple #[.agg #[.int .i64 (f' 0), .int .i64 (f' 1), .int .i64 (f' 2), .int .i64 (f' 3), .int .i64 (f' 4), .int .i64 (f' 5), .int .i64 (f' 6), .int .i64 (f' 7)], .int .i64 c]) ?_ rfl ⟨⟨f', c, rfl⟩, ?_⟩
      · simp [results, Tryz.results115, go_sem, *]
      · (repeat (first | with_reducible exact Below.refl _ _ | with_reducible assumption | with_reducible refine below_drewN ?_ _ | with_reducible refine Below.drew ?_ | with_reducible refine Below.alloc ?_ (by first | omega | (simp; omega) | simp) _ | with_reducible refine Below.setCell ?_ (by first | omega | (simp; omega) | simp) _))

def CkdPost (w : World) (e : Ending) (w' : World) : Prop := (∃ s a b : Int, e = .returned (.agg #[.int .i64 s, .int .i64 a, .int .i64 b])) ∧ Below w.heap.size w w'
def CkdRel (w : World) (n : Nat) (v : Value) (wr : World) : Prop := ∃ k : Nat, k ≤ n ∧ v = .int .i64 (k : Int) ∧ w = wr
set_option maxRecDepth 100000 in
set_option maxHeartbeats 1000000 in
theorem checked_calls (w : World) (f : Nat → Int) (c : Int) : Calls Tryz.prog 114 #[.agg #[.int .i64 (f 0), .int .i64 (f 1), .int .i64 (f 2), .int .i64 (f 3), .int .i64 (f 4), .int .i64 (f 5), .int .i64 (f 6), .int .i64 (f 7)], .int .i64 c] w (CkdPost w) := by
  obtain ⟨w0, hw0⟩ : ∃ x, x = (w.alloc (.cells #[.int .i64 (f 0), .int .i64 (f 1), .int .i64 (f 2), .int .i64 (f 3), .int .i64 (f 4), .int .i64 (f 5), .int .i64 (f 6), .int .i64 (f 7)] 67)).alloc (.cells #[.int .i64 0, .int .i64 0, .int .i64 0] 170) := ⟨_, rfl⟩
  have hX : Cl w0 w.heap.size 67 #[.int .i64 (f 0), .int .i64 (f 1), .int .i64 (f 2), .int .i64 (f 3), .int .i64 (f 4), .int .i64 (f 5), .int .i64 (f 6), .int .i64 (f 7)] := by rw [hw0]; exact (Cl.new _ _ _).alloc _
  have hZ : Cl w0 (w.heap.size + 1) 170 #[.int .i64 0, .int .i64 0, .int .i64 0] := by rw [hw0]; exact Cl.new_ _ _ _ _ (by simp)
  have hA : Below w.heap.size w w0 := by rw [hw0]; (repeat (first | with_reducible exact Below.refl _ _ | with_reducible assumption | with_reducible refine below_drewN ?_ _ | with_reducible refine Below.drew ?_ | with_reducible refine Below.alloc ?_ (by first | omega | (simp; omega) | simp) _ | with_reducible refine Below.setCell ?_ (by first | omega | (simp; omega) | simp) _))
  have HW0 := Lib.hid hw0
  have HA := Lib.hid hA
  have HX := Lib.hid hX
  have HZ := Lib.hid hZ
  have l0 := hX.lt
  have l1 := hZ.lt
  obtain ⟨x0, x1, x2, x3, x4, x5, x6, x7⟩ := hX.has8'
  clear hw0 hA hX hZ
  go_enter Tryz.func114, Tryz.ntmps114
  go_wp2_with fail
  rw [← HW0.out]
  refine (svalid_calls _ f c).mono ?_
  rintro e w1 ⟨⟨b, rfl, hW⟩, hb1⟩
  have HB1 := Lib.hid hb1
  have l0' : w.heap.size < w1.heap.size := Nat.lt_of_lt_of_le l0 hb1.size
  have l1' : w.heap.size + 1 < w1.heap.size := Nat.lt_of_lt_of_le l1 hb1.size
  have hZ1 := HZ.out.below hb1 l1
  have y0 := hZ1.free 0
  have y1 := hZ1.free 1
  have y2 := hZ1.free 2
  have z0 := hZ1.cell 0
  have z1 := hZ1.cell 1
  have z2 := hZ1.cell 2
  simp only [List.getElem?_toArray, List.getElem?_cons_succ, List.getElem?_cons_zero] at z0 z1 z2
  cases b with
  | false =>
    clear x0 x1 x2 x3 x4 x5 x6 x7 hW hb1 hZ1
    go_wp2_with fail
    refine bodyPost_ret (v := .agg #[.int .i64 2, .int .i64 0, .int .i64 0]) ?_ rfl ⟨⟨2, 0, 0, rfl⟩, ?_⟩
    · simp [results, Tryz.results114, go_sem, *]
    · have hh := HA.out.trans (HB1.out.mono HA.out.size)
      (repeat (first | with_reducible exact Below.refl _ _ | with_reducible assumption | with_reducible refine below_drewN ?_ _ | with_reducible refine Below.drew ?_ | with_reducible refine Below.alloc ?_ (by first | omega | (simp; omega) | simp) _ | with_reducible refine Below.setCell ?_ (by first | omega | (simp; omega) | simp) _))
  | true =>
    have HW := Lib.hid (hW rfl)
    have hX1 := HX.out.below hb1 l0
    obtain ⟨xx0, xx1, xx2, xx3, xx4, xx5, xx6, xx7⟩ := hX1.has8'
    clear x0 x1 x2 x3 x4 x5 x6 x7 hW hb1 hX1 y0 y1 y2 z0 z1 z2 hZ1
    go_wp2_with fail
    refine (syndrome_calls _ f c HW.out).mono ?_
    rintro e w2 ⟨⟨s, p, rfl⟩, hb2⟩
    have HB2 := Lib.hid (HB1.out.trans (hb2.mono HB1.out.size))
    have HH := Lib.hid (HA.out.trans (HB2.out.mono HA.out.size))
    have hZ2 := HZ.out.below HB2.out l1
    have l2 := hZ2.lt
    have y0 := hZ2.free 0
    have y1 := hZ2.free 1
    have y2 := hZ2.free 2
    have z0 := hZ2.cell 0
    have z1 := hZ2.cell 1
    have z2 := hZ2.cell 2
    simp only [List.getElem?_toArray, List.getElem?_cons_succ, List.getElem?_cons_zero] at z0 z1 z2
    clear xx0 xx1 xx2 xx3 xx4 xx5 xx6 xx7 hb2 hZ2 l0' l1'
    by_cases hp : p = 0
    · by_cases hs : s = 0
      · subst hp hs
        go_wp2_with fail
        refine bodyPost_ret (v := .agg #[.int .i64 0, .int .i64 0, .int .i64 0]) ?_ rfl ⟨⟨0, 0, 0, rfl⟩, ?_⟩
        · simp [results, Tryz.results114, go_sem, *]
        · have hh := HH.out
          (repeat (first | with_reducible exact Below.refl _ _ | with_reducible assumption | with_reducible refine below_drewN ?_ _ | with_reducible refine Below.drew ?_ | with_reducible refine Below.alloc ?_ (by first | omega | (simp; omega) | simp) _ | with_reducible refine Below.setCell ?_ (by first | omega | (simp; omega) | simp) _))
      · have bs : (s == 0) = false := by simp [hs]
        subst hp
        clear hs
        go_wp2_with fail
        refine bodyPost_ret (v := .agg #[.int .i64 2, .int .i64 0, .int .i64 0]) ?_ rfl ⟨⟨2, 0, 0, rfl⟩, ?_⟩
        · simp [results, Tryz.results114, go_sem, *]
        · have hh := HH.out
          (repeat (first | with_reducible exact Below.refl _ _ | with_reducible assumption | with_reducible refine below_drewN ?_ _ | with_reducible refine Below.drew ?_ | with_reducible refine Below.alloc ?_ (by first | omega | (simp; omega) | simp) _ | with_reducible refine Below.setCell ?_ (by first | omega | (simp; omega) | simp) _))
    · have bp : (p == 0) = false := by simp [hp]
      clear hp
      by_cases hs : s = 0
      · subst hs
        go_wp2_with fail
        refine bodyPost_ret (v := .agg #[.int .i64 1, .int .i64 8, .int .i64 9]) ?_ rfl ⟨⟨1, 8, 9, rfl⟩, ?_⟩
        · simp [results, Tryz.results114, go_sem, *]
        · have hh := HH.out
          (repeat (first | with_reducible exact Below.refl _ _ | with_reducible assumption | with_reducible refine below_drewN ?_ _ | with_reducible refine Below.drew ?_ | with_reducible refine Below.alloc ?_ (by first | omega | (simp; omega) | simp) _ | with_reducible refine Below.setCell ?_ (by first | omega | (simp; omega) | simp) _))
      · have bs : (s == 0) = false := by simp [hs]
        clear hs
        go_wp2_with fail
        go_loopw [8] (fun v wr => CkdRel w2 9 v wr) (fun v _ => 9 - (intOf v).toNat)
        case atStart => exact ⟨0, by omega, rfl, rfl⟩
        case round =>
          obtain ⟨k, hk, rfl, rfl⟩ := hrel
          have k0 : (0 : Int) ≤ (k : Int) := by omega
          by_cases hlt : k < 9
          · go_wp2_with fail
            all_goals
              first
              | (refine bodyPost_ret (v := .agg #[.int .i64 1, .int .i64 8, .int .i64 (k : Int)]) ?_ rfl ⟨⟨1, 8, k, rfl⟩, ?_⟩
                 · simp [results, Tryz.results114, go_sem, *]
                 · have hh := HH.out
                   (repeat (first | with_reducible exact Below.refl _ _ | with_reducible assumption | with_reducible refine below_drewN ?_ _ | with_reducible refine Below.drew ?_ | with_reducible refine Below.alloc ?_ (by first | omega | (simp; omega) | simp) _ | with_reducible refine Below.setCell ?_ (by first | omega | (simp; omega) | simp) _)))
              | (go_roundw
                 case rel => exact ⟨k + 1, by omega, by go_num, rfl⟩
                 case measure => simp [intOf]; omega)
          · have k9 : ¬ (k : Int) < 9 := by omega
            go_wp2_with fail
            go_loopw [9] (fun v wr => CkdRel w2 320 v wr) (fun v _ => 320 - (intOf v).toNat)
            case atStart => exact ⟨0, by omega, rfl, rfl⟩
            case round =>
              obtain ⟨i, hi, rfl, rfl⟩ := hrel
              have i0 : (0 : Int) ≤ (i : Int) := by omega
              by_cases hli : i < 320
              · go_wp2_with fail
                refine (place_calls _ (i : Int) (by omega) (by omega)).mono ?_
                rintro e w3 ⟨⟨q, rfl⟩, rfl⟩
                obtain ⟨qa, tq⟩ : ∃ q, (i : Int).tdiv 40 = q := ⟨_, rfl⟩
                obtain ⟨qb, tm⟩ : ∃ q, (i : Int).tmod 40 = q := ⟨_, rfl⟩
                have qa0 : 0 ≤ qa ∧ qa ≤ 8 := by rw [← tq, Int.tdiv_eq_ediv_of_nonneg (by omega)]; omega
                have qb0 : 0 ≤ qb ∧ qb ≤ 40 := by rw [← tm, Int.tmod_eq_emod_of_nonneg (by omega)]; omega
                go_wp2_with fail
                all_goals
                  first
                  | (refine bodyPost_ret (v := .agg #[.int .i64 1, .int .i64 qa, .int .i64 qb]) ?_ rfl ⟨⟨1, qa, qb, rfl⟩, ?_⟩
                     · simp [results, Tryz.results114, go_sem, *]
                     · have hh := HH.out
                       (repeat (first | with_reducible exact Below.refl _ _ | with_reducible assumption | with_reducible refine below_drewN ?_ _ | with_reducible refine Below.drew ?_ | with_reducible refine Below.alloc ?_ (by first | omega | (simp; omega) | simp) _ | with_reducible refine Below.setCell ?_ (by first | omega | (simp; omega) | simp) _)))
                  | (go_roundw
                     case rel => exact ⟨i + 1, by omega, by go_num, rfl⟩
                     case measure => simp [intOf]; omega)
              · have i9 : ¬ (i : Int) < 320 := by omega
                go_wp2_with fail
                refine bodyPost_ret (v := .agg #[.int .i64 2, .int .i64 0, .int .i64 0]) ?_ rfl ⟨⟨2, 0, 0, rfl⟩, ?_⟩
                · simp [results, Tryz.results114, go_sem, *]
                · have hh := HH.out
                  (repeat (first | with_reducible exact Below.refl _ _ | with_reducible assumption | with_reducible refine below_drewN ?_ _ | with_reducible refine Below.drew ?_ | with_reducible refine Below.alloc ?_ (by first | omega | (simp; omega) | simp) _ | with_reducible refine Below.setCell ?_ (by first | omega | (simp; omega) | simp) _))

def ChkPost (w : World) (e : Ending) (w' : World) : Prop := (∃ s a b : Int, e = .returned (.tuple #[.int .i64 s, .int .i64 a, .int .i64 b])) ∧ Below w.heap.size w w'
set_option maxRecDepth 100000 in
set_option maxHeartbeats 1000000 in
theorem scheck_calls (w : World) (f : Nat → Int) (c : Int) : Calls Tryz.prog 109 #[.agg #[.int .i64 (f 0), .int .i64 (f 1), .int .i64 (f 2), .int .i64 (f 3), .int .i64 (f 4), .int .i64 (f 5), .int .i64 (f 6), .int .i64 (f 7)], .int .i64 c] w (ChkPost w) := by
  obtain ⟨w0, hw0⟩ : ∃ x, x = w.alloc (.cells #[.int .i64 (f 0), .int .i64 (f 1), .int .i64 (f 2), .int .i64 (f 3), .int .i64 (f 4), .int .i64 (f 5), .int .i64 (f 6), .int .i64 (f 7)] 67) := ⟨_, rfl⟩
  have hX : Cl w0 w.heap.size 67 #[.int .i64 (f 0), .int .i64 (f 1), .int .i64 (f 2), .int .i64 (f 3), .int .i64 (f 4), .int .i64 (f 5), .int .i64 (f 6), .int .i64 (f 7)] := by rw [hw0]; exact Cl.new _ _ _
  have hA : Below w.heap.size w w0 := by rw [hw0]; (repeat (first | with_reducible exact Below.refl _ _ | with_reducible assumption | with_reducible refine below_drewN ?_ _ | with_reducible refine Below.drew ?_ | with_reducible refine Below.alloc ?_ (by first | omega | (simp; omega) | simp) _ | with_reducible refine Below.setCell ?_ (by first | omega | (simp; omega) | simp) _))
  have HW0 := Lib.hid hw0
  have HA := Lib.hid hA
  obtain ⟨x0, x1, x2, x3, x4, x5, x6, x7⟩ := hX.has8'
  clear hw0 hA hX
  go_enter Tryz.func109, Tryz.ntmps109
  go_wp2_with fail
  rw [← HW0.out]
  refine (checked_calls _ f c).mono ?_
  rintro e w1 ⟨⟨s, a, b, rfl⟩, hb1⟩
  have HB1 := Lib.hid hb1
  clear x0 x1 x2 x3 x4 x5 x6 x7 hb1
  go_wp2_with fail
  obtain ⟨w2, hw2⟩ : ∃ x, x = w1.alloc (.cells #[.int .i64 s, .int .i64 a, .int .i64 b] 170) := ⟨_, rfl⟩
  have hS : Cl w2 w1.heap.size 170 #[.int .i64 s, .int .i64 a, .int .i64 b] := by rw [hw2]; exact Cl.new _ _ _
  have hB2 : Below w.heap.size w w2 := (HA.out.trans (HB1.out.mono HA.out.size)).trans (by rw [hw2]; exact (Below.alloc (Below.refl w1.heap.size w1) (Nat.le_refl _) _).mono (by have := HA.out.size; have := HB1.out.size; omega))
  rw [← hw2]
  clear hw2
  have s0 := hS.cell 0
  have s1 := hS.cell 1
  have s2 := hS.cell 2
  simp only [List.getElem?_toArray, List.getElem?_cons_succ, List.getElem?_cons_zero] at s0 s1 s2
  go_region
  all_goals
    go_wp2_with fail
    refine bodyPost_ret (v := .tuple #[.int .i64 s, .int .i64 a, .int .i64 b]) ?_ rfl ⟨⟨s, a, b, rfl⟩, ?_⟩
    · simp [results, Tryz.results109, go_sem, *]
    · (repeat (first | with_reducible exact Below.refl _ _ | with_reducible assumption | with_reducible refine below_drewN ?_ _ | with_reducible refine Below.drew ?_ | with_reducible refine Below.alloc ?_ (by first | omega | (simp; omega) | simp) _ | with_reducible refine Below.setCell ?_ (by first | omega | (simp; omega) | simp) _))

def FixPost (w : World) (e : Ending) (w' : World) : Prop := (∃ (g : Nat → Int) (c er : Int), e = .returned (.tuple #[.agg #[.int .i64 (g 0), .int .i64 (g 1), .int .i64 (g 2), .int .i64 (g 3), .int .i64 (g 4), .int .i64 (g 5), .int .i64 (g 6), .int .i64 (g 7)], .int .i64 c, .int .i64 er])) ∧ Below w.heap.size w w'
set_option maxRecDepth 100000 in
set_option maxHeartbeats 2000000 in
theorem sfix_calls (w : World) (f : Nat → Int) (c : Int) : Calls Tryz.prog 108 #[.agg #[.int .i64 (f 0), .int .i64 (f 1), .int .i64 (f 2), .int .i64 (f 3), .int .i64 (f 4), .int .i64 (f 5), .int .i64 (f 6), .int .i64 (f 7)], .int .i64 c] w (FixPost w) := by
  obtain ⟨w0, hw0⟩ : ∃ x, x = (w.alloc (.cells #[.int .i64 (f 0), .int .i64 (f 1), .int .i64 (f 2), .int .i64 (f 3), .int .i64 (f 4), .int .i64 (f 5), .int .i64 (f 6), .int .i64 (f 7)] 67)).alloc (.cells #[.int .i64 0, .int .i64 0, .int .i64 0, .int .i64 0, .int .i64 0, .int .i64 0, .int .i64 0, .int .i64 0] 67) := ⟨_, rfl⟩
  have hX : Cl w0 w.heap.size 67 #[.int .i64 (f 0), .int .i64 (f 1), .int .i64 (f 2), .int .i64 (f 3), .int .i64 (f 4), .int .i64 (f 5), .int .i64 (f 6), .int .i64 (f 7)] := by rw [hw0]; exact (Cl.new _ _ _).alloc _
  have hZ : Cl w0 (w.heap.size + 1) 67 #[.int .i64 0, .int .i64 0, .int .i64 0, .int .i64 0, .int .i64 0, .int .i64 0, .int .i64 0, .int .i64 0] := by rw [hw0]; exact Cl.new_ _ _ _ _ (by simp)
  have hA : Below w.heap.size w w0 := by rw [hw0]; (repeat (first | with_reducible exact Below.refl _ _ | with_reducible assumption | with_reducible refine below_drewN ?_ _ | with_reducible refine Below.drew ?_ | with_reducible refine Below.alloc ?_ (by first | omega | (simp; omega) | simp) _ | with_reducible refine Below.setCell ?_ (by first | omega | (simp; omega) | simp) _))
  have HW0 := Lib.hid hw0
  have HA := Lib.hid hA
  have HX := Lib.hid hX
  have HZ := Lib.hid hZ
  have l0 := hX.lt
  have l1 := hZ.lt
  obtain ⟨x0, x1, x2, x3, x4, x5, x6, x7⟩ := hX.has8'
  clear hw0 hA hX hZ
  go_enter Tryz.func108, Tryz.ntmps108
  go_wp2_with fail
  rw [← HW0.out]
  refine (svalid_calls _ f c).mono ?_
  rintro e w1 ⟨⟨b, rfl, hW⟩, hb1⟩
  have HH1 := Lib.hid (HA.out.trans (hb1.mono HA.out.size))
  have HB1 := Lib.hid hb1
  have hX1 := HX.out.below hb1 l0
  have hZ1 := HZ.out.below hb1 l1
  have m0 := hX1.lt
  have m1 := hZ1.lt
  clear x0 x1 x2 x3 x4 x5 x6 x7 hW hb1
  cases b with
  | false =>
    obtain ⟨y0, y1, y2, y3, y4, y5, y6, y7⟩ := hZ1.free8'
    obtain ⟨z0, z1, z2, z3, z4, z5, z6, z7⟩ := hZ1.has8'
    clear hX1 hZ1
    go_wp2_with fail
    refine bodyPost_ret (v := .tuple #[.agg #[.int .i64 0, .int .i64 0, .int .i64 0, .int .i64 0, .int .i64 0, .int .i64 0, .int .i64 0, .int .i64 0], .int .i64 0, .int .i64 1]) ?_ rfl ⟨⟨fun _ => 0, 0, 1, rfl⟩, ?_⟩
    · simp [results, Tryz.results108, go_sem, *]
    · have hh := HH1.out
      (repeat (first | with_reducible exact Below.refl _ _ | with_reducible assumption | with_reducible refine below_drewN ?_ _ | with_reducible refine Below.drew ?_ | with_reducible refine Below.alloc ?_ (by first | omega | (simp; omega) | simp) _ | with_reducible refine Below.setCell ?_ (by first | omega | (simp; omega) | simp) _))
  | true =>
    obtain ⟨x0, x1, x2, x3, x4, x5, x6, x7⟩ := hX1.has8'
    clear hX1 hZ1
    go_wp2_with fail
    refine (checked_calls _ f c).mono ?_
    rintro e w2 ⟨⟨s, a, b, rfl⟩, hb2⟩
    have HH2 := Lib.hid (HH1.out.trans (hb2.mono HH1.out.size))
    have HB2 := Lib.hid (HB1.out.trans (hb2.mono HB1.out.size))
    clear x0 x1 x2 x3 x4 x5 x6 x7 hb2
    obtain ⟨w3, hw3⟩ : ∃ x, x = w2.alloc (.cells #[.int .i64 s, .int .i64 a, .int .i64 b] 170) := ⟨_, rfl⟩
    have hA3 : Below w2.heap.size w2 w3 := by rw [hw3]; exact Below.alloc (Below.refl w2.heap.size w2) (Nat.le_refl _) _
    have hS3 : Cl w3 w2.heap.size 170 #[.int .i64 s, .int .i64 a, .int .i64 b] := by rw [hw3]; exact Cl.new _ _ _
    have hX3 := HX.out.below (HB2.out.trans (hA3.mono HB2.out.size)) l0
    have hZ3 := HZ.out.below (HB2.out.trans (hA3.mono HB2.out.size)) l1
    have HH3 := Lib.hid (HH2.out.trans (hA3.mono HH2.out.size))
    have HW3 := Lib.hid hw3
    have n0 := hX3.lt
    have n1 := hZ3.lt
    have n2 := hS3.lt
    clear hw3 hA3
    have s0 := hS3.cell 0
    have s1 := hS3.cell 1
    have s2 := hS3.cell 2
    simp only [List.getElem?_toArray, List.getElem?_cons_succ, List.getElem?_cons_zero] at s0 s1 s2
    obtain ⟨x0, x1, x2, x3, x4, x5, x6, x7⟩ := hX3.has8'
    obtain ⟨y0, y1, y2, y3, y4, y5, y6, y7⟩ := hZ3.free8'
    obtain ⟨z0, z1, z2, z3, z4, z5, z6, z7⟩ := hZ3.has8'
    have HX3 := Lib.hid hX3
    have HZ3 := Lib.hid hZ3
    clear hS3 hX3 hZ3
    by_cases h2 : s = 2
    · have b2 : (s == 2) = true := by simp [h2]
      clear h2
      go_upto_region 5 with (fail)
      rw [← HW3.out]
      go_wp2_with fail
      refine bodyPost_ret (v := .tuple #[.agg #[.int .i64 0, .int .i64 0, .int .i64 0, .int .i64 0, .int .i64 0, .int .i64 0, .int .i64 0, .int .i64 0], .int .i64 0, .int .i64 9]) ?_ rfl ⟨⟨fun _ => 0, 0, 9, rfl⟩, ?_⟩
      · simp [results, Tryz.results108, go_sem, *]
      · have hh := HH3.out
        (repeat (first | with_reducible exact Below.refl _ _ | with_reducible assumption | with_reducible refine below_drewN ?_ _ | with_reducible refine Below.drew ?_ | with_reducible refine Below.alloc ?_ (by first | omega | (simp; omega) | simp) _ | with_reducible refine Below.setCell ?_ (by first | omega | (simp; omega) | simp) _))
    · have b2 : (s == 2) = false := by simp [h2]
      clear h2
      by_cases h1 : s = 1
      · have b1 : (s == 1) = true := by simp [h1]
        clear h1
        go_upto_region 5 with (fail)
        rw [← HW3.out]
        go_wp2_with fail
        refine (sflip_calls _ f c a b).mono ?_
        rintro e w4 ⟨⟨g, c4, rfl⟩, hb4⟩
        have HH4 := Lib.hid (HH3.out.trans (hb4.mono HH3.out.size))
        have hZ4 := HZ3.out.below hb4 n1
        have k1 := hZ4.lt
        clear x0 x1 x2 x3 x4 x5 x6 x7 y0 y1 y2 y3 y4 y5 y6 y7 z0 z1 z2 z3 z4 z5 z6 z7 hb4 s0 s1 s2
        obtain ⟨w5, hw5⟩ : ∃ x, x = w4.alloc (.cells #[.int .i64 (g 0), .int .i64 (g 1), .int .i64 (g 2), .int .i64 (g 3), .int .i64 (g 4), .int .i64 (g 5), .int .i64 (g 6), .int .i64 (g 7)] 67) := ⟨_, rfl⟩
        have hA5 : Below w4.heap.size w4 w5 := by rw [hw5]; exact Below.alloc (Below.refl w4.heap.size w4) (Nat.le_refl _) _
        have hG5 : Cl w5 w4.heap.size 67 #[.int .i64 (g 0), .int .i64 (g 1), .int .i64 (g 2), .int .i64 (g 3), .int .i64 (g 4), .int .i64 (g 5), .int .i64 (g 6), .int .i64 (g 7)] := by rw [hw5]; exact Cl.new _ _ _
        have hZ5 := hZ4.below hA5 k1
        have HH5 := Lib.hid (HH4.out.trans (hA5.mono HH4.out.size))
        have HW5 := Lib.hid hw5
        have k5 := hZ5.lt
        have k6 := hG5.lt
        clear hw5 hA5 hZ4
        obtain ⟨x0, x1, x2, x3, x4, x5, x6, x7⟩ := hG5.has8'
        obtain ⟨y0, y1, y2, y3, y4, y5, y6, y7⟩ := hZ5.free8'
        obtain ⟨z0, z1, z2, z3, z4, z5, z6, z7⟩ := hZ5.has8'
        clear hG5 hZ5
        go_upto_region 9 with (fail)
        rw [← HW5.out]
        go_wp2_with fail
        refine bodyPost_ret (v := .tuple #[.agg #[.int .i64 (g 0), .int .i64 (g 1), .int .i64 (g 2), .int .i64 (g 3), .int .i64 (g 4), .int .i64 (g 5), .int .i64 (g 6), .int .i64 (g 7)], .int .i64 c4, .int .i64 0]) ?_ rfl ⟨⟨g, c4, 0, rfl⟩, ?_⟩
        · simp [results, Tryz.results108, go_sem, *]
        · have hh := HH5.out
          (repeat (first | with_reducible exact Below.refl _ _ | with_reducible assumption | with_reducible refine below_drewN ?_ _ | with_reducible refine Below.drew ?_ | with_reducible refine Below.alloc ?_ (by first | omega | (simp; omega) | simp) _ | with_reducible refine Below.setCell ?_ (by first | omega | (simp; omega) | simp) _))
      · have b1 : (s == 1) = false := by simp [h1]
        clear h1
        go_upto_region 5 with (fail)
        rw [← HW3.out]
        go_wp2_with fail
        refine bodyPost_ret (v := .tuple #[.agg #[.int .i64 (f 0), .int .i64 (f 1), .int .i64 (f 2), .int .i64 (f 3), .int .i64 (f 4), .int .i64 (f 5), .int .i64 (f 6), .int .i64 (f 7)], .int .i64 c, .int .i64 0]) ?_ rfl ⟨⟨f, c, 0, rfl⟩, ?_⟩
        · simp [results, Tryz.results108, go_sem, *]
        · have hh := HH3.out
          (repeat (first | with_reducible exact Below.refl _ _ | with_reducible assumption | with_reducible refine below_drewN ?_ _ | with_reducible refine Below.drew ?_ | with_reducible refine Below.alloc ?_ (by first | omega | (simp; omega) | simp) _ | with_reducible refine Below.setCell ?_ (by first | omega | (simp; omega) | simp) _))
end Go.Proofs.YtckamjbdogpacaaGreatDoor
