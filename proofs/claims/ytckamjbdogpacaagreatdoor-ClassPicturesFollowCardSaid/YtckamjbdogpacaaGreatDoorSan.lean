/-
  alumlaw11.sanity: the examples of layer 11 hold.
-/
import Derived.Test.YtckamjbdogpacaaGreatDoorSanA
namespace Go.Proofs.YtckamjbdogpacaaGreatDoor
open Go.RowKit
set_option linter.unusedSimpArgs false
set_option linter.unusedVariables false

set_option maxRecDepth 100000 in
set_option maxHeartbeats 16000000 in
theorem sanity_calls (w : World) (hd : Hd w) (hp : Pt w) : Calls Tryz.prog 4 #[] w fun e w' => e = .returned (.bool true) ∧ Below w.heap.size w w' := by
  go_enter Tryz.func4, Tryz.ntmps4
  go_wp2_with fail
  refine (plan64 _).mono ?_
  rintro e w1 ⟨rfl, hb1⟩
  go_upto_region 2 with (fail)
  generalize hwn : w1.alloc (.cells #[.int .i64 64, .int .i64 2, .int .i64 8, .int .i64 10, .int .i64 4, .int .i64 14, .int .i64 16, .int .i64 3] 29) = w2
  have hL : Cl w2 w1.heap.size 29 #[.int .i64 64, .int .i64 2, .int .i64 8, .int .i64 10, .int .i64 4, .int .i64 14, .int .i64 16, .int .i64 3] := by rw [← hwn]; exact Cl.new _ _ _
  have hB : Below w.heap.size w w2 := hb1.trans (Below.mono (by rw [← hwn]; (repeat (first | with_reducible exact Below.refl _ _ | with_reducible assumption | with_reducible refine below_drewN ?_ _ | with_reducible refine Below.drew ?_ | with_reducible refine Below.alloc ?_ (by first | omega | (simp; omega) | simp) _ | with_reducible refine Below.setCell ?_ (by first | omega | (simp; omega) | simp) _))) hb1.size)
  clear hwn hb1
  replace hd := hd.below hB
  replace hp := hp.below hB
  go_wp2_with fail
  refine (new_calls _ 64 (by omega) (by omega)).mono ?_
  rintro e w3 ⟨gm, rfl, hM, hb⟩
  have hs : SanSt w w3 w1.heap.size gm w2.heap.size Q0 0 := ⟨hL.below hb hL.lt, hM, hd.below hb, hp.below hb, hB.trans (hb.mono hB.size), hB.size, hb.size, hd.lt, hp.lt⟩
  clear hL hB hd hp hM hb
  generalize w1.heap.size = gL at *
  generalize w2.heap.size = base at *
  go_wp2_with fail
  refine (fit_calls _ 8).mono ?_
  rintro e w' ⟨rfl, rfl⟩
  rw [show fitZ 8 = (1, 0) from rfl]
  go_wp2_with fail
  refine (fit_calls _ 128).mono ?_
  rintro e w' ⟨rfl, rfl⟩
  rw [show fitZ 128 = (0, 2) from rfl]
  go_wp2_with fail
  refine (fit_calls _ (-1)).mono ?_
  rintro e w' ⟨rfl, rfl⟩
  rw [show fitZ (-1) = (0, 1) from rfl]
  go_wp2_with fail
  refine (room4 _).mono ?_
  rintro e w' ⟨rfl, rfl⟩
  go_wp2_with fail
  refine (room_out _ 5 (by omega)).mono ?_
  rintro e w' ⟨rfl, rfl⟩
  obtain ⟨y0, y1, y2, y3, y4, y5, y6, y7⟩ := hs.1.cells8
  have ll := hs.1.lt
  go_wp2_with fail
  refine (starts3 _ 64 2 8 10 4 14 16 3 1 (by omega) (by omega) (by omega) (by omega)).mono ?_
  rintro e w4 ⟨Ax, cx, rfl, hr, hb⟩
  rw [show (chunkSpots 16 1 3).map (·.1) = [32, 40] from rfl] at hr ⊢
  simp only [List.length_cons, List.length_nil, Nat.zero_add, Nat.reduceAdd] at hr ⊢
  replace hs := hs.below hb
  clear y0 y1 y2 y3 y4 y5 y6 y7 ll hb
  go_wp2_with fail
  generalize hwn : w4.alloc (.cells #[.int .i64 32, .int .i64 40] 3) = w5
  have hC : Cl w5 w4.heap.size 3 #[.int .i64 32, .int .i64 40] := by rw [← hwn]; exact Cl.new _ _ _
  have hb : Below w4.heap.size w4 w5 := by rw [← hwn]; (repeat (first | with_reducible exact Below.refl _ _ | with_reducible assumption | with_reducible refine below_drewN ?_ _ | with_reducible refine Below.drew ?_ | with_reducible refine Below.alloc ?_ (by first | omega | (simp; omega) | simp) _ | with_reducible refine Below.setCell ?_ (by first | omega | (simp; omega) | simp) _))
  clear hwn
  replace hr := Rd.below hr hb
  replace hs := hs.below hb
  refine (sameInts_calls _ _ _ [32, 40] [32, 40] hr (RdI.of_cl [32, 40] 2 rfl (by omega) hC) (by simp) (by simp)).mono ?_
  rintro e w6 ⟨rfl, hb6⟩
  rw [show decide (([32, 40] : List Int) = [32, 40]) = true from rfl]
  replace hs := hs.below hb6
  clear hr hC hb hb6
  obtain ⟨y0, y1, y2, y3, y4, y5, y6, y7⟩ := hs.1.cells8
  have ll := hs.1.lt
  go_wp2_with fail
  refine (san_assigned hs).mono ?_
  rintro e w7 ⟨rfl, hb⟩
  replace hs := hs.below hb
  clear y0 y1 y2 y3 y4 y5 y6 y7 ll hb
  obtain ⟨y0, y1, y2, y3, y4, y5, y6, y7⟩ := hs.1.cells8
  have ll := hs.1.lt
  go_wp2_with fail
  refine (san_scan0 hs).mono ?_
  rintro e w8 ⟨ch, bl, bd, rfl, hch, hbl, hbd, hb⟩
  obtain ⟨A1, c1, rfl⟩ := Rd.form hch
  obtain ⟨A2, c2, rfl⟩ := Rd.form hbl
  obtain ⟨A3, c3, rfl⟩ := Rd.form hbd
  replace hs := hs.below hb
  clear y0 y1 y2 y3 y4 y5 y6 y7 ll hb
  go_upto_region 12 with (fail)
  simp only [List.length_cons, List.length_nil, Nat.zero_add, Nat.reduceAdd] at hch
  clear hbl hbd
  generalize hwn : w8.alloc (.cells #[.slice A1 3 c1, .slice A2 0 c2, .slice A3 0 c3] 40) = w9
  have hE : Cl w9 w8.heap.size 40 #[.slice A1 3 c1, .slice A2 0 c2, .slice A3 0 c3] := by rw [← hwn]; exact Cl.new _ _ _
  have hb : Below w8.heap.size w8 w9 := by rw [← hwn]; (repeat (first | with_reducible exact Below.refl _ _ | with_reducible assumption | with_reducible refine below_drewN ?_ _ | with_reducible refine Below.drew ?_ | with_reducible refine Below.alloc ?_ (by first | omega | (simp; omega) | simp) _ | with_reducible refine Below.setCell ?_ (by first | omega | (simp; omega) | simp) _))
  clear hwn
  replace hs := hs.below hb
  replace hch := Rd.below hch hb
  clear hb
  generalize w8.heap.size = gE at *
  obtain ⟨y0, y1, y2, y3, y4, y5, y6, y7⟩ := hs.1.cells8
  have ll := hs.1.lt
  go_wp2_with fail
  refine (san_store1 hs).mono ?_
  rintro e w10 ⟨rfl, hM, hg⟩
  replace hs := hs.grew hM hg
  replace hE := hg.cl hE (by decide)
  replace hch := hg.rd hch (by decide)
  clear y0 y1 y2 y3 y4 y5 y6 y7 ll hM hg
  obtain ⟨y0, y1, y2, y3, y4, y5, y6, y7⟩ := hs.1.cells8
  have ll := hs.1.lt
  go_wp2_with fail
  refine (san_of hs).mono ?_
  rintro e w11 ⟨rfl, hb⟩
  replace hs := hs.below hb
  replace hE := hE.below hb hE.lt
  replace hch := Rd.below hch hb
  clear y0 y1 y2 y3 y4 y5 y6 y7 ll hb
  obtain ⟨y0, y1, y2, y3, y4, y5, y6, y7⟩ := hs.1.cells8
  have ll := hs.1.lt
  go_wp2_with fail
  refine (san_block hs).mono ?_
  rintro e w12 ⟨rfl, hb⟩
  replace hs := hs.below hb
  replace hE := hE.below hb hE.lt
  replace hch := Rd.below hch hb
  clear y0 y1 y2 y3 y4 y5 y6 y7 ll hb
  go_upto_region 15 with (fail)
  generalize hwn : w12.alloc (.cells #[.int .i64 24, .int .i64 3, .int .i64 0, .int .i64 0] 43) = w13
  have hN : Cl w13 w12.heap.size 43 #[.int .i64 24, .int .i64 3, .int .i64 0, .int .i64 0] := by rw [← hwn]; exact Cl.new _ _ _
  have hb : Below w12.heap.size w12 w13 := by rw [← hwn]; (repeat (first | with_reducible exact Below.refl _ _ | with_reducible assumption | with_reducible refine below_drewN ?_ _ | with_reducible refine Below.drew ?_ | with_reducible refine Below.alloc ?_ (by first | omega | (simp; omega) | simp) _ | with_reducible refine Below.setCell ?_ (by first | omega | (simp; omega) | simp) _))
  clear hwn
  replace hs := hs.below hb
  replace hE := hE.below hb hE.lt
  replace hch := Rd.below hch hb
  clear hb
  generalize w12.heap.size = gN at *
  go_wp2_with fail
  refine (san_store2 hs).mono ?_
  rintro e w14 ⟨rfl, hM, hg⟩
  replace hs := hs.grew hM hg
  replace hE := hg.cl hE (by decide)
  replace hN := hg.cl hN (by decide)
  replace hch := hg.rd hch (by decide)
  clear hM hg
  go_wp2_with fail
  refine (over_calls _ _).mono ?_
  rintro e w15 ⟨rfl, hwn⟩
  have hV : Cl w15 w14.heap.size 100 #[.pointer (some ⟨gm, 0, none⟩), .slice none 0 0] := by rw [← hwn]; exact Cl.new _ _ _
  have hb : Below w14.heap.size w14 w15 := by rw [← hwn]; (repeat (first | with_reducible exact Below.refl _ _ | with_reducible assumption | with_reducible refine below_drewN ?_ _ | with_reducible refine Below.drew ?_ | with_reducible refine Below.alloc ?_ (by first | omega | (simp; omega) | simp) _ | with_reducible refine Below.setCell ?_ (by first | omega | (simp; omega) | simp) _))
  clear hwn
  replace hs := hs.below hb
  replace hE := hE.below hb hE.lt
  replace hN := hN.below hb hN.lt
  replace hch := Rd.below hch hb
  clear hb
  generalize w14.heap.size = gv at *
  obtain ⟨y0, y1, y2, y3, y4, y5, y6, y7⟩ := hs.1.cells8
  have ll := hs.1.lt
  go_wp2_with fail
  refine (san_follow hs hV).mono ?_
  rintro e w16 ⟨rfl, hb⟩
  replace hs := hs.below hb
  replace hE := hE.below hb hE.lt
  replace hN := hN.below hb hN.lt
  replace hV := hV.below hb hV.lt
  replace hch := Rd.below hch hb
  clear y0 y1 y2 y3 y4 y5 y6 y7 ll hb
  go_upto_region 21 with (fail)
  generalize hwn : w16.alloc (.cells #[.int .i64 24, .int .i64 3, .int .i64 2, .int .i64 2] 43) = w17
  have hF : Cl w17 w16.heap.size 43 #[.int .i64 24, .int .i64 3, .int .i64 2, .int .i64 2] := by rw [← hwn]; exact Cl.new _ _ _
  have hb : Below w16.heap.size w16 w17 := by rw [← hwn]; (repeat (first | with_reducible exact Below.refl _ _ | with_reducible assumption | with_reducible refine below_drewN ?_ _ | with_reducible refine Below.drew ?_ | with_reducible refine Below.alloc ?_ (by first | omega | (simp; omega) | simp) _ | with_reducible refine Below.setCell ?_ (by first | omega | (simp; omega) | simp) _))
  clear hwn
  replace hs := hs.below hb
  replace hE := hE.below hb hE.lt
  replace hN := hN.below hb hN.lt
  replace hV := hV.below hb hV.lt
  replace hch := Rd.below hch hb
  clear hb
  generalize w16.heap.size = gF at *
  obtain ⟨y0, y1, y2, y3, y4, y5, y6, y7⟩ := hs.1.cells8
  have ll := hs.1.lt
  go_wp2_with fail
  refine (san_follow1 hs hV).mono ?_
  rintro e w18 ⟨rfl, hb⟩
  replace hs := hs.below hb
  replace hE := hE.below hb hE.lt
  replace hN := hN.below hb hN.lt
  replace hV := hV.below hb hV.lt
  replace hF := hF.below hb hF.lt
  replace hch := Rd.below hch hb
  clear y0 y1 y2 y3 y4 y5 y6 y7 ll hb
  go_upto_region 22 with (fail)
  generalize hwn : w18.alloc (.cells #[.int .i64 0, .int .i64 0, .int .i64 0, .int .i64 0] 43) = w19
  have hF1 : Cl w19 w18.heap.size 43 #[.int .i64 0, .int .i64 0, .int .i64 0, .int .i64 0] := by rw [← hwn]; exact Cl.new _ _ _
  have hb : Below w18.heap.size w18 w19 := by rw [← hwn]; (repeat (first | with_reducible exact Below.refl _ _ | with_reducible assumption | with_reducible refine below_drewN ?_ _ | with_reducible refine Below.drew ?_ | with_reducible refine Below.alloc ?_ (by first | omega | (simp; omega) | simp) _ | with_reducible refine Below.setCell ?_ (by first | omega | (simp; omega) | simp) _))
  clear hwn
  replace hs := hs.below hb
  replace hE := hE.below hb hE.lt
  replace hN := hN.below hb hN.lt
  replace hV := hV.below hb hV.lt
  replace hF := hF.below hb hF.lt
  replace hch := Rd.below hch hb
  clear hb
  generalize w18.heap.size = gF1 at *
  clear hF1
  obtain ⟨y0, y1, y2, y3, y4, y5, y6, y7⟩ := hs.1.cells8
  have ll := hs.1.lt
  go_wp2_with fail
  refine (san_follow2 hs hV).mono ?_
  rintro e w20 ⟨rfl, hb⟩
  replace hs := hs.below hb
  replace hE := hE.below hb hE.lt
  replace hN := hN.below hb hN.lt
  replace hV := hV.below hb hV.lt
  replace hF := hF.below hb hF.lt
  replace hch := Rd.below hch hb
  clear y0 y1 y2 y3 y4 y5 y6 y7 ll hb
  go_upto_region 23 with (fail)
  generalize hwn : w20.alloc (.cells #[.int .i64 0, .int .i64 0, .int .i64 0, .int .i64 0] 43) = w21
  have hF2 : Cl w21 w20.heap.size 43 #[.int .i64 0, .int .i64 0, .int .i64 0, .int .i64 0] := by rw [← hwn]; exact Cl.new _ _ _
  have hb : Below w20.heap.size w20 w21 := by rw [← hwn]; (repeat (first | with_reducible exact Below.refl _ _ | with_reducible assumption | with_reducible refine below_drewN ?_ _ | with_reducible refine Below.drew ?_ | with_reducible refine Below.alloc ?_ (by first | omega | (simp; omega) | simp) _ | with_reducible refine Below.setCell ?_ (by first | omega | (simp; omega) | simp) _))
  clear hwn
  replace hs := hs.below hb
  replace hE := hE.below hb hE.lt
  replace hN := hN.below hb hN.lt
  replace hV := hV.below hb hV.lt
  replace hF := hF.below hb hF.lt
  replace hch := Rd.below hch hb
  clear hb
  generalize w20.heap.size = gF2 at *
  clear hF2
  obtain ⟨p0, p1, p2⟩ := hE.has3
  have lE := hE.lt
  go_wp2_with fail
  generalize hwn : w21.alloc (.cells #[.int .i64 (-1), .int .i64 (-1), .int .i64 (-1)] 3) = w22
  have hC : Cl w22 w21.heap.size 3 #[.int .i64 (-1), .int .i64 (-1), .int .i64 (-1)] := by rw [← hwn]; exact Cl.new _ _ _
  have hb : Below w21.heap.size w21 w22 := by rw [← hwn]; (repeat (first | with_reducible exact Below.refl _ _ | with_reducible assumption | with_reducible refine below_drewN ?_ _ | with_reducible refine Below.drew ?_ | with_reducible refine Below.alloc ?_ (by first | omega | (simp; omega) | simp) _ | with_reducible refine Below.setCell ?_ (by first | omega | (simp; omega) | simp) _))
  clear hwn
  replace hs := hs.below hb
  replace hE := hE.below hb hE.lt
  replace hN := hN.below hb hN.lt
  replace hV := hV.below hb hV.lt
  replace hF := hF.below hb hF.lt
  replace hch := Rd.below hch hb
  refine (sameInts_calls _ _ _ [-1, -1, -1] [-1, -1, -1] hch (RdI.of_cl [-1, -1, -1] 3 rfl (by omega) hC) (by simp) (by simp)).mono ?_
  clear p0 p1 p2 lE hb
  rintro e w23 ⟨rfl, hb⟩
  rw [show decide (([-1, -1, -1] : List Int) = [-1, -1, -1]) = true from rfl]
  replace hs := hs.below hb
  replace hE := hE.below hb hE.lt
  replace hN := hN.below hb hN.lt
  replace hV := hV.below hb hV.lt
  replace hF := hF.below hb hF.lt
  clear hch hC hb
  obtain ⟨p0, p1, p2⟩ := hE.has3
  obtain ⟨⟨k0, k1, k2, k3⟩, ⟨k4, k5, k6, k7⟩⟩ := hN.has4
  have lN := hN.lt
  obtain ⟨y0, y1, y2, y3, y4, y5, y6, y7⟩ := hs.1.cells8
  have ll := hs.1.lt
  go_upto_region 25 with (fail)
  clear p0 p1 p2 k0 k1 k2 k3 k4 k5 k6 k7 lN hE hN
  go_wp2_with fail
  generalize hwn : w23.alloc (.cells #[.int .i64 5, .int .i64 6] 3) = w24
  have hC : Cl w24 w23.heap.size 3 #[.int .i64 5, .int .i64 6] := by rw [← hwn]; exact Cl.new _ _ _
  have hb : Below w23.heap.size w23 w24 := by rw [← hwn]; (repeat (first | with_reducible exact Below.refl _ _ | with_reducible assumption | with_reducible refine below_drewN ?_ _ | with_reducible refine Below.drew ?_ | with_reducible refine Below.alloc ?_ (by first | omega | (simp; omega) | simp) _ | with_reducible refine Below.setCell ?_ (by first | omega | (simp; omega) | simp) _))
  clear hwn
  replace hs := hs.below hb
  replace hV := hV.below hb hV.lt
  replace hF := hF.below hb hF.lt
  refine (san_fill hs hV hC).mono ?_
  rintro e w25 ⟨rfl, hM, hg⟩
  replace hs := hs.grew hM hg
  replace hV := hg.cl hV (by decide)
  replace hF := hg.cl hF (by decide)
  clear y0 y1 y2 y3 y4 y5 y6 y7 ll hM hg hC hb
  obtain ⟨y0, y1, y2, y3, y4, y5, y6, y7⟩ := hs.1.cells8
  have ll := hs.1.lt
  go_wp2_with fail
  refine (san_words hs hV).mono ?_
  rintro e w26 ⟨go, cur, rfl, hsz, hcur, hW, hb⟩
  replace hs := hs.below hb
  replace hF := hF.below hb hF.lt
  clear y0 y1 y2 y3 y4 y5 y6 y7 ll hb hV
  obtain ⟨⟨k0, k1, k2, k3⟩, ⟨k4, k5, k6, k7⟩⟩ := hF.has4
  have lF := hF.lt
  go_upto_region 28 with (fail)
  clear k0 k1 k2 k3 k4 k5 k6 k7 lF hF
  have c0 : w26.cell? ⟨go, 0, none⟩ = some (.int .i64 5) := (hW.cell 0).trans (hcur 0 (by omega))
  have c1' : w26.cell? ⟨go, 1, none⟩ = some (.int .i64 6) := (hW.cell 1).trans (hcur 1 (by omega))
  have c2' : w26.cell? ⟨go, 2, none⟩ = some (.int .i64 0) := (hW.cell 2).trans (hcur 2 (by omega))
  have lW := hW.lt
  have HW := Lib.hid hW
  clear hcur hsz hW
  obtain ⟨y0, y1, y2, y3, y4, y5, y6, y7⟩ := hs.1.cells8
  have ll := hs.1.lt
  have HS := Lib.hid hs
  clear hs
  go_region_held3 (fun w' => w'.cell? ⟨gL, 0, none⟩ = some (.int .i64 64) ∧ w'.cell? ⟨gL, 1, none⟩ = some (.int .i64 2) ∧ w'.cell? ⟨gL, 2, none⟩ = some (.int .i64 8) ∧ w'.cell? ⟨gL, 3, none⟩ = some (.int .i64 10) ∧ w'.cell? ⟨gL, 4, none⟩ = some (.int .i64 4) ∧ w'.cell? ⟨gL, 5, none⟩ = some (.int .i64 14) ∧ w'.cell? ⟨gL, 6, none⟩ = some (.int .i64 16) ∧ w'.cell? ⟨gL, 7, none⟩ = some (.int .i64 3) ∧ w'.cell? ⟨go, 0, none⟩ = some (.int .i64 5) ∧ w'.cell? ⟨go, 1, none⟩ = some (.int .i64 6) ∧ w'.cell? ⟨go, 2, none⟩ = some (.int .i64 0)) (go_keep)
    (first
      | (go_at_call 6; refine (san_scan3 (HS.out.below (by (repeat (first | with_reducible exact Below.refl _ _ | with_reducible assumption | with_reducible refine below_drewN ?_ _ | with_reducible refine Below.drew ?_ | with_reducible refine Below.alloc ?_ (by first | omega | (simp; omega) | simp) _ | with_reducible refine Below.setCell ?_ (by first | omega | (simp; omega) | simp) _))))).mono ?_; rintro e wa ⟨ch, bl, bd, rfl, h1, h2, h3, ba0⟩; (have ba : Below w26.heap.size w26 wa := Below.trans (by (repeat (first | with_reducible exact Below.refl _ _ | with_reducible assumption | with_reducible refine below_drewN ?_ _ | with_reducible refine Below.drew ?_ | with_reducible refine Below.alloc ?_ (by first | omega | (simp; omega) | simp) _ | with_reducible refine Below.setCell ?_ (by first | omega | (simp; omega) | simp) _))) ba0); (have hsa := HS.out.below ba); (have qa := Cl.cells8 hsa.1); unfold Cells8 at qa; (have q0 := (ba.cell (p := ⟨go, 0, none⟩) lW).trans c0); (have q1 := (ba.cell (p := ⟨go, 1, none⟩) lW).trans c1'); (have q2 := (ba.cell (p := ⟨go, 2, none⟩) lW).trans c2'); (have H1 := Lib.hid h1); (have H2 := Lib.hid h2); (have H3 := Lib.hid h3); (have HSA := Lib.hid hsa); clear h1 h2 h3 hsa)
      | (go_at_call 22; refine (san_check _ ch bl bd (Rd.below H1.out (by (repeat (first | with_reducible exact Below.refl _ _ | with_reducible assumption | with_reducible refine below_drewN ?_ _ | with_reducible refine Below.drew ?_ | with_reducible refine Below.alloc ?_ (by first | omega | (simp; omega) | simp) _ | with_reducible refine Below.setCell ?_ (by first | omega | (simp; omega) | simp) _)))) (Rd.below H2.out (by (repeat (first | with_reducible exact Below.refl _ _ | with_reducible assumption | with_reducible refine below_drewN ?_ _ | with_reducible refine Below.drew ?_ | with_reducible refine Below.alloc ?_ (by first | omega | (simp; omega) | simp) _ | with_reducible refine Below.setCell ?_ (by first | omega | (simp; omega) | simp) _)))) (Rd.below H3.out (by (repeat (first | with_reducible exact Below.refl _ _ | with_reducible assumption | with_reducible refine below_drewN ?_ _ | with_reducible refine Below.drew ?_ | with_reducible refine Below.alloc ?_ (by first | omega | (simp; omega) | simp) _ | with_reducible refine Below.setCell ?_ (by first | omega | (simp; omega) | simp) _)))) (HSA.out.below (by (repeat (first | with_reducible exact Below.refl _ _ | with_reducible assumption | with_reducible refine below_drewN ?_ _ | with_reducible refine Below.drew ?_ | with_reducible refine Below.alloc ?_ (by first | omega | (simp; omega) | simp) _ | with_reducible refine Below.setCell ?_ (by first | omega | (simp; omega) | simp) _)))).2.2.1).mono ?_; rintro e wb ⟨rfl, bb0⟩; (have bb : Below wa.heap.size wa wb := Below.trans (by (repeat (first | with_reducible exact Below.refl _ _ | with_reducible assumption | with_reducible refine below_drewN ?_ _ | with_reducible refine Below.drew ?_ | with_reducible refine Below.alloc ?_ (by first | omega | (simp; omega) | simp) _ | with_reducible refine Below.setCell ?_ (by first | omega | (simp; omega) | simp) _))) bb0); (have hsb := HSA.out.below bb); (have qb := Cl.cells8 hsb.1); unfold Cells8 at qb; (have r0 := (bb.cell (p := ⟨go, 0, none⟩) (Nat.lt_of_lt_of_le lW ba.size)).trans q0); (have r1 := (bb.cell (p := ⟨go, 1, none⟩) (Nat.lt_of_lt_of_le lW ba.size)).trans q1); (have r2 := (bb.cell (p := ⟨go, 2, none⟩) (Nat.lt_of_lt_of_le lW ba.size)).trans q2); (have HSB := Lib.hid hsb); clear hsb))
  go_wp2_with fail
  go_ret
  exact ⟨rfl, HSB.out.2.2.2.2.1⟩
end Go.Proofs.YtckamjbdogpacaaGreatDoor
