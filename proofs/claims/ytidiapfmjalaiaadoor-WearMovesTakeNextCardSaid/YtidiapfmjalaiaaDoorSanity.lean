/-
  sanity returns true, whatever the world.
-/
import Derived.Test.YtidiapfmjalaiaaDoorSane
import Derived.Deep.RegionHeld3
import Derived.Deep.DeepCutAuto
namespace Go.Proofs.YtidiapfmjalaiaaDoor
open Go.RowKit

def SanePost (w : World) (e : Ending) (w' : World) : Prop := e = .returned (.bool true) ∧ Below w.heap.size w w'

set_option maxRecDepth 100000 in
set_option maxHeartbeats 8000000 in
theorem sanity_calls (w : World) : Calls Tryd.prog 5 #[] w (SanePost w) := by
  go_enter Tryd.func5, Tryd.ntmps5
  go_wp2_with fail
  refine (three_x _).mono ?_
  rintro e w1 h
  obtain ⟨a1, k1, a2, k2, a3, k3, rfl, x1, x2, x3, hb1⟩ := h
  have hB := hb1
  have hX := Cl.new w1 27 #[.slice a1 3 k1, .slice a2 3 k2, .slice a3 0 k3]
  go_wp2_with fail
  refine (use_calls _ _ _ _ sX 4 (x2.below (by (repeat (first | with_reducible exact Below.refl _ _ | with_reducible assumption | with_reducible refine below_drewN ?_ _ | with_reducible refine Below.drew ?_ | with_reducible refine Below.alloc ?_ (by first | omega | (simp; omega) | simp) _ | with_reducible refine Below.setCell ?_ (by first | omega | (simp; omega) | simp) _)))) (by decide)).mono ?_
  rintro e w2 ⟨rfl, hb2⟩
  simp only [sUse]
  replace hX := hX.below hb2 (by simp)
  have hA2 : Below w1.heap.size w1 w2 := Below.trans (by (repeat (first | with_reducible exact Below.refl _ _ | with_reducible assumption | with_reducible refine below_drewN ?_ _ | with_reducible refine Below.drew ?_ | with_reducible refine Below.alloc ?_ (by first | omega | (simp; omega) | simp) _ | with_reducible refine Below.setCell ?_ (by first | omega | (simp; omega) | simp) _))) (hb2.mono (by first | omega | simp | (simp; omega)))
  replace hB := hB.trans (hA2.mono hB.size)
  replace x1 := x1.below hA2
  replace x2 := x2.below hA2
  replace x3 := x3.below hA2
  clear hb2
  clear hA2
  obtain ⟨⟨y0, y1, y2⟩, -⟩ := hX.has3
  have ylt := hX.lt
  go_wp2_with fail
  refine (next_calls _ _ _ _ sX 4 (x2.below (by (repeat (first | with_reducible exact Below.refl _ _ | with_reducible assumption | with_reducible refine below_drewN ?_ _ | with_reducible refine Below.drew ?_ | with_reducible refine Below.alloc ?_ (by first | omega | (simp; omega) | simp) _ | with_reducible refine Below.setCell ?_ (by first | omega | (simp; omega) | simp) _)))) (by decide)).mono ?_
  rintro e w3 ⟨rfl, hb3⟩
  simp only [sNext, outBk, Option.getD_some, Option.isSome_some, Bk.line, Bk.cls, Bk.kind, Bk.gen, sT]
  clear y0 y1 y2 ylt
  have hA3 : Below w2.heap.size w2 w3 := Below.trans (by (repeat (first | with_reducible exact Below.refl _ _ | with_reducible assumption | with_reducible refine below_drewN ?_ _ | with_reducible refine Below.drew ?_ | with_reducible refine Below.alloc ?_ (by first | omega | (simp; omega) | simp) _ | with_reducible refine Below.setCell ?_ (by first | omega | (simp; omega) | simp) _))) (hb3.mono (by first | omega | simp | (simp; omega)))
  replace hB := hB.trans (hA3.mono hB.size)
  replace x1 := x1.below hA3
  replace x2 := x2.below hA3
  replace x3 := x3.below hA3
  replace hX := hX.below hA3 hX.lt
  clear hb3
  clear hA3
  have hN := Cl.new w3 40 #[.int .i64 48, .int .i64 4, .int .i64 0, .int .i64 8]
  obtain ⟨⟨y0, y1, y2⟩, -⟩ := hX.has3
  have ylt := hX.lt
  go_wp2_with fail
  refine (level_calls _ _ _ _ sX 4 (x2.below (by (repeat (first | with_reducible exact Below.refl _ _ | with_reducible assumption | with_reducible refine below_drewN ?_ _ | with_reducible refine Below.drew ?_ | with_reducible refine Below.alloc ?_ (by first | omega | (simp; omega) | simp) _ | with_reducible refine Below.setCell ?_ (by first | omega | (simp; omega) | simp) _)))) (by decide) sGenX).mono ?_
  rintro e w4 ⟨rfl, hb4⟩
  simp only [sLevel, outBk, Option.getD_some, Option.isSome_some, Bk.line, Bk.cls, Bk.kind, Bk.gen, sF]
  clear y0 y1 y2 ylt
  replace hN := hN.below hb4 (by simp)
  have hA4 : Below w3.heap.size w3 w4 := Below.trans (by (repeat (first | with_reducible exact Below.refl _ _ | with_reducible assumption | with_reducible refine below_drewN ?_ _ | with_reducible refine Below.drew ?_ | with_reducible refine Below.alloc ?_ (by first | omega | (simp; omega) | simp) _ | with_reducible refine Below.setCell ?_ (by first | omega | (simp; omega) | simp) _))) (hb4.mono (by first | omega | simp | (simp; omega)))
  replace hB := hB.trans (hA4.mono hB.size)
  replace x1 := x1.below hA4
  replace x2 := x2.below hA4
  replace x3 := x3.below hA4
  replace hX := hX.below hA4 hX.lt
  clear hb4
  clear hA4
  have hV := Cl.new w4 40 #[.int .i64 16, .int .i64 4, .int .i64 2, .int .i64 1]
  obtain ⟨⟨y0, y1, y2⟩, -⟩ := hX.has3
  have ylt := hX.lt
  go_wp2_with fail
  refine (wear_moves_calls _ _ _ _ sC sX [] 4 10 (x1.below (by (repeat (first | with_reducible exact Below.refl _ _ | with_reducible assumption | with_reducible refine below_drewN ?_ _ | with_reducible refine Below.drew ?_ | with_reducible refine Below.alloc ?_ (by first | omega | (simp; omega) | simp) _ | with_reducible refine Below.setCell ?_ (by first | omega | (simp; omega) | simp) _)))) (x2.below (by (repeat (first | with_reducible exact Below.refl _ _ | with_reducible assumption | with_reducible refine below_drewN ?_ _ | with_reducible refine Below.drew ?_ | with_reducible refine Below.alloc ?_ (by first | omega | (simp; omega) | simp) _ | with_reducible refine Below.setCell ?_ (by first | omega | (simp; omega) | simp) _)))) (x3.below (by (repeat (first | with_reducible exact Below.refl _ _ | with_reducible assumption | with_reducible refine below_drewN ?_ _ | with_reducible refine Below.drew ?_ | with_reducible refine Below.alloc ?_ (by first | omega | (simp; omega) | simp) _ | with_reducible refine Below.setCell ?_ (by first | omega | (simp; omega) | simp) _)))) (by decide) (by decide) (by decide) sGenX (by decide)).mono ?_
  rintro e w5 ⟨am, km, rfl, hM, hb5⟩
  rw [sMoves] at hM ⊢
  clear y0 y1 y2 ylt
  replace hV := hV.below hb5 (by simp)
  have hA5 : Below w4.heap.size w4 w5 := Below.trans (by (repeat (first | with_reducible exact Below.refl _ _ | with_reducible assumption | with_reducible refine below_drewN ?_ _ | with_reducible refine Below.drew ?_ | with_reducible refine Below.alloc ?_ (by first | omega | (simp; omega) | simp) _ | with_reducible refine Below.setCell ?_ (by first | omega | (simp; omega) | simp) _))) (hb5.mono (by first | omega | simp | (simp; omega)))
  replace hB := hB.trans (hA5.mono hB.size)
  replace x1 := x1.below hA5
  replace x2 := x2.below hA5
  replace x3 := x3.below hA5
  replace hX := hX.below hA5 hX.lt
  replace hN := hN.below hA5 hN.lt
  clear hb5
  clear hA5
  obtain ⟨bm, om, hAm, -⟩ := RdM.one hM
  subst hAm
  obtain ⟨mlt, m0, m1, m2, m3, m4, m5, m6, m7⟩ := RdM.oneAt hM
  simp only [Bk.line, Bk.cls, Bk.kind, Bk.gen, sF, sT] at m0 m1 m2 m3 m4 m5 m6 m7
  obtain ⟨⟨y0, y1, y2⟩, -⟩ := hX.has3
  have ylt := hX.lt
  have yn : ¬ w1.heap.size = w5.heap.size := by omega
  have yn' : ¬ w5.heap.size = w1.heap.size := by omega
  have zn : ¬ bm = w5.heap.size := by omega
  have zn' : ¬ w5.heap.size = bm := by omega
  go_wp2_with fail
  go_cut [10, 11] (fun s t wx => ∃ g A1 c1 A2 c2 A3 c3, s = .pointer (some ⟨g, 0, none⟩) ∧ t = .int .i64 0 ∧ w5.heap.size ≤ g ∧ Cl wx g 27 #[.slice A1 3 c1, .slice A2 3 c2, .slice A3 0 c3] ∧ RdI wx (.slice A1 3 c1) sC ∧ RdB wx (.slice A2 3 c2) sW ∧ RdI wx (.slice A3 0 c3) [] ∧ Below w5.heap.size w5 wx)
  case first =>
    go_region_held3 (fun w' => (w'.cell? ⟨w1.heap.size, 0, none⟩ = some (.slice a1 3 k1) ∧ w'.cell? ⟨w1.heap.size, 1, none⟩ = some (.slice a2 3 k2) ∧ w'.cell? ⟨w1.heap.size, 2, none⟩ = some (.slice a3 0 k3)) ∧ (w'.cell? ⟨bm, om, none⟩ = some (.int .i64 16) ∧ w'.cell? ⟨bm, om + 1, none⟩ = some (.int .i64 4) ∧ w'.cell? ⟨bm, om + 2, none⟩ = some (.int .i64 2) ∧ w'.cell? ⟨bm, om + 3, none⟩ = some (.int .i64 1) ∧ w'.cell? ⟨bm, om + 4, none⟩ = some (.int .i64 48) ∧ w'.cell? ⟨bm, om + 5, none⟩ = some (.int .i64 4) ∧ w'.cell? ⟨bm, om + 6, none⟩ = some (.int .i64 0) ∧ w'.cell? ⟨bm, om + 7, none⟩ = some (.int .i64 8))) (go_keep)
      (first | (go_at_call 11; refine (after_x _ _ _ _ (by first | exact x1 | exact x1.below (by (repeat (first | with_reducible exact Below.refl _ _ | with_reducible assumption | with_reducible refine below_drewN ?_ _ | with_reducible refine Below.drew ?_ | with_reducible refine Below.alloc ?_ (by first | omega | (simp; omega) | simp) _ | with_reducible refine Below.setCell ?_ (by first | omega | (simp; omega) | simp) _)))) (by first | exact x2 | exact x2.below (by (repeat (first | with_reducible exact Below.refl _ _ | with_reducible assumption | with_reducible refine below_drewN ?_ _ | with_reducible refine Below.drew ?_ | with_reducible refine Below.alloc ?_ (by first | omega | (simp; omega) | simp) _ | with_reducible refine Below.setCell ?_ (by first | omega | (simp; omega) | simp) _)))) (by first | exact x3 | exact x3.below (by (repeat (first | with_reducible exact Below.refl _ _ | with_reducible assumption | with_reducible refine below_drewN ?_ _ | with_reducible refine Below.drew ?_ | with_reducible refine Below.alloc ?_ (by first | omega | (simp; omega) | simp) _ | with_reducible refine Below.setCell ?_ (by first | omega | (simp; omega) | simp) _))))).mono ?_; rintro e wa ⟨a4, k4, a5, k5, a6, k6, rfl, v1, v2, v3, ba0⟩; have ba : Below w5.heap.size w5 wa := (by first | exact below_of_drew ba0 | exact Below.trans (by (repeat (first | with_reducible exact Below.refl _ _ | with_reducible assumption | with_reducible refine below_drewN ?_ _ | with_reducible refine Below.drew ?_ | with_reducible refine Below.alloc ?_ (by first | omega | (simp; omega) | simp) _ | with_reducible refine Below.setCell ?_ (by first | omega | (simp; omega) | simp) _))) (ba0.mono (by simp))); have sa := ba.size; have qa := (hX.below ba hX.lt).has3.1; (have ca : ∀ j, j < 8 → wa.cell? ⟨bm, om + j, none⟩ = w5.cell? ⟨bm, om + j, none⟩ := fun j _ => ba.cell (p := ⟨bm, om + j, none⟩) mlt); (have c0 := (ca 0 (by omega)).trans m0); (have c1 := (ca 1 (by omega)).trans m1); (have c2 := (ca 2 (by omega)).trans m2); (have c3 := (ca 3 (by omega)).trans m3); (have c4 := (ca 4 (by omega)).trans m4); (have c5 := (ca 5 (by omega)).trans m5); (have c6 := (ca 6 (by omega)).trans m6); (have c7 := (ca 7 (by omega)).trans m7); clear ca; simp only [Nat.add_zero] at c0; (have l1 : w1.heap.size < wa.heap.size := (by omega)); (have l2 : bm < wa.heap.size := (by omega)); (first | (have g1 := (Cl.new w5 27 #[.slice none 0 0, .slice none 0 0, .slice none 0 0]).drew.below ba0 (by simp); obtain ⟨⟨k10, k11, k12⟩, k13, k14, k15⟩ := g1.has3) | skip)))
    all_goals (go_wp2_with fail; go_meet)
    · exact ⟨wa.heap.size, a4, k4, a5, k5, a6, k6, rfl, rfl, by omega, Cl.new _ _ _, Rd.alloc v1 _, Rd.alloc v2 _, Rd.alloc v3 _, by (repeat (first | with_reducible exact Below.refl _ _ | with_reducible assumption | with_reducible refine below_drewN ?_ _ | with_reducible refine Below.drew ?_ | with_reducible refine Below.alloc ?_ (by first | omega | (simp; omega) | simp) _ | with_reducible refine Below.setCell ?_ (by first | omega | (simp; omega) | simp) _))⟩
    · exact ⟨w5.heap.size, a4, k4, a5, k5, a6, k6, rfl, rfl, by omega, g1.set3 _ _ _, v1.far3 g1 (by decide) _ _ _, v2.far3 g1 (by decide) _ _ _, v3.far3 g1 (by decide) _ _ _, by (repeat (first | with_reducible exact Below.refl _ _ | with_reducible assumption | with_reducible refine below_drewN ?_ _ | with_reducible refine Below.drew ?_ | with_reducible refine Below.alloc ?_ (by first | omega | (simp; omega) | simp) _ | with_reducible refine Below.setCell ?_ (by first | omega | (simp; omega) | simp) _))⟩
  case rest =>
    obtain ⟨gA, a4, k4, a5, k5, a6, k6, rfl, rfl, hgA, hA, v1, v2, v3, hbx⟩ := hcut
    clear mlt m0 m1 m2 m3 m4 m5 m6 m7 y0 y1 y2 ylt yn yn' zn zn'
    obtain ⟨w6, hw6⟩ : ∃ x : World, x = wc := ⟨_, rfl⟩
    subst hw6
    replace hB := hB.trans (hbx.mono hB.size)
    replace x1 := x1.below hbx
    replace x2 := x2.below hbx
    replace x3 := x3.below hbx
    replace hX := hX.below hbx hX.lt
    replace hN := hN.below hbx hN.lt
    replace hV := hV.below hbx hV.lt
    replace hM := hM.below hbx
    clear hbx
    have hgA' := hA.lt
    obtain ⟨mlt, m0, m1, m2, m3, m4, m5, m6, m7⟩ := RdM.oneAt hM
    simp only [Bk.line, Bk.cls, Bk.kind, Bk.gen, sF, sT] at m0 m1 m2 m3 m4 m5 m6 m7
    obtain ⟨⟨y0, y1, y2⟩, -⟩ := hA.has3
    have ylt := hA.lt
    have yn : ¬ gA = w6.heap.size := by omega
    have yn' : ¬ w6.heap.size = gA := by omega
    have zn : ¬ bm = w6.heap.size := by omega
    have zn' : ¬ w6.heap.size = bm := by omega
    go_wp2_with fail
    go_cut [12, 13] (fun s t wx => ∃ g : Nat, s = .pointer (some ⟨g, 0, none⟩) ∧ t = .int .i64 1 ∧ Below w6.heap.size w6 wx)
    case first =>
      go_region_held3 (fun w' => (w'.cell? ⟨gA, 0, none⟩ = some (.slice a4 3 k4) ∧ w'.cell? ⟨gA, 1, none⟩ = some (.slice a5 3 k5) ∧ w'.cell? ⟨gA, 2, none⟩ = some (.slice a6 0 k6)) ∧ (w'.cell? ⟨bm, om, none⟩ = some (.int .i64 16) ∧ w'.cell? ⟨bm, om + 1, none⟩ = some (.int .i64 4) ∧ w'.cell? ⟨bm, om + 2, none⟩ = some (.int .i64 2) ∧ w'.cell? ⟨bm, om + 3, none⟩ = some (.int .i64 1) ∧ w'.cell? ⟨bm, om + 4, none⟩ = some (.int .i64 48) ∧ w'.cell? ⟨bm, om + 5, none⟩ = some (.int .i64 4) ∧ w'.cell? ⟨bm, om + 6, none⟩ = some (.int .i64 0) ∧ w'.cell? ⟨bm, om + 7, none⟩ = some (.int .i64 8))) (go_keep)
        (first | (go_at_call 11; refine (after_w _ _ _ _ (by first | exact v2 | exact v2.below (by (repeat (first | with_reducible exact Below.refl _ _ | with_reducible assumption | with_reducible refine below_drewN ?_ _ | with_reducible refine Below.drew ?_ | with_reducible refine Below.alloc ?_ (by first | omega | (simp; omega) | simp) _ | with_reducible refine Below.setCell ?_ (by first | omega | (simp; omega) | simp) _))))).mono ?_; rintro e wa h; obtain ⟨z1, zk1, z2, zk2, z3, zk3, rfl, -, -, -, ba0⟩ := PicPost.forms h; have ba : Below w6.heap.size w6 wa := (by first | exact below_of_drew ba0 | exact Below.trans (by (repeat (first | with_reducible exact Below.refl _ _ | with_reducible assumption | with_reducible refine below_drewN ?_ _ | with_reducible refine Below.drew ?_ | with_reducible refine Below.alloc ?_ (by first | omega | (simp; omega) | simp) _ | with_reducible refine Below.setCell ?_ (by first | omega | (simp; omega) | simp) _))) (ba0.mono (by simp))); have sa := ba.size; have qa := (hA.below ba hA.lt).has3.1; (have ca : ∀ j, j < 8 → wa.cell? ⟨bm, om + j, none⟩ = w6.cell? ⟨bm, om + j, none⟩ := fun j _ => ba.cell (p := ⟨bm, om + j, none⟩) mlt); (have c0 := (ca 0 (by omega)).trans m0); (have c1 := (ca 1 (by omega)).trans m1); (have c2 := (ca 2 (by omega)).trans m2); (have c3 := (ca 3 (by omega)).trans m3); (have c4 := (ca 4 (by omega)).trans m4); (have c5 := (ca 5 (by omega)).trans m5); (have c6 := (ca 6 (by omega)).trans m6); (have c7 := (ca 7 (by omega)).trans m7); clear ca; simp only [Nat.add_zero] at c0; (have l1 : gA < wa.heap.size := (by omega)); (have l2 : bm < wa.heap.size := (by omega)); (first | (have g1 := (Cl.new w6 27 #[.slice none 0 0, .slice none 0 0, .slice none 0 0]).drew.below ba0 (by simp); obtain ⟨⟨k10, k11, k12⟩, k13, k14, k15⟩ := g1.has3) | skip)))
      all_goals (go_wp2_with fail; go_meet)
      · exact ⟨wa.heap.size, rfl, rfl, by (repeat (first | with_reducible exact Below.refl _ _ | with_reducible assumption | with_reducible refine below_drewN ?_ _ | with_reducible refine Below.drew ?_ | with_reducible refine Below.alloc ?_ (by first | omega | (simp; omega) | simp) _ | with_reducible refine Below.setCell ?_ (by first | omega | (simp; omega) | simp) _))⟩
      · exact ⟨w6.heap.size, rfl, rfl, by (repeat (first | with_reducible exact Below.refl _ _ | with_reducible assumption | with_reducible refine below_drewN ?_ _ | with_reducible refine Below.drew ?_ | with_reducible refine Below.alloc ?_ (by first | omega | (simp; omega) | simp) _ | with_reducible refine Below.setCell ?_ (by first | omega | (simp; omega) | simp) _))⟩
    case rest =>
      obtain ⟨gB, rfl, rfl, hbx⟩ := hcut
      clear mlt m0 m1 m2 m3 m4 m5 m6 m7 y0 y1 y2 ylt yn yn' zn zn'
      obtain ⟨w7, hw7⟩ : ∃ x : World, x = wc := ⟨_, rfl⟩
      subst hw7
      replace hB := hB.trans (hbx.mono hB.size)
      replace x1 := x1.below hbx
      replace x2 := x2.below hbx
      replace x3 := x3.below hbx
      replace hX := hX.below hbx hX.lt
      replace hN := hN.below hbx hN.lt
      replace hV := hV.below hbx hV.lt
      replace hM := hM.below hbx
      replace hA := hA.below hbx hA.lt
      replace v1 := v1.below hbx
      replace v2 := v2.below hbx
      replace v3 := v3.below hbx
      clear hbx
      go_wp2_with fail
      refine (three_y _).mono ?_
      rintro e w8 ⟨p1, pk1, p2, pk2, p3, pk3, rfl, pr1, pr2, pr3, hb8⟩
      have hA8 : Below w7.heap.size w7 w8 := Below.trans (by (repeat (first | with_reducible exact Below.refl _ _ | with_reducible assumption | with_reducible refine below_drewN ?_ _ | with_reducible refine Below.drew ?_ | with_reducible refine Below.alloc ?_ (by first | omega | (simp; omega) | simp) _ | with_reducible refine Below.setCell ?_ (by first | omega | (simp; omega) | simp) _))) (hb8.mono (by first | omega | simp | (simp; omega)))
      replace hB := hB.trans (hA8.mono hB.size)
      replace x1 := x1.below hA8
      replace x2 := x2.below hA8
      replace x3 := x3.below hA8
      replace hX := hX.below hA8 hX.lt
      replace hN := hN.below hA8 hN.lt
      replace hV := hV.below hA8 hV.lt
      replace hM := hM.below hA8
      replace hA := hA.below hA8 hA.lt
      replace v1 := v1.below hA8
      replace v2 := v2.below hA8
      replace v3 := v3.below hA8
      clear hb8
      clear hA8
      have hY := Cl.new w8 27 #[.slice p1 3 pk1, .slice p2 3 pk2, .slice p3 0 pk3]
      go_wp2_with fail
      refine (three_z _).mono ?_
      rintro e w9 ⟨q1, qk1, q2, qk2, q3, qk3, rfl, qr1, qr2, qr3, hb9⟩
      replace hY := hY.below hb9 (by simp)
      have hA9 : Below w8.heap.size w8 w9 := Below.trans (by (repeat (first | with_reducible exact Below.refl _ _ | with_reducible assumption | with_reducible refine below_drewN ?_ _ | with_reducible refine Below.drew ?_ | with_reducible refine Below.alloc ?_ (by first | omega | (simp; omega) | simp) _ | with_reducible refine Below.setCell ?_ (by first | omega | (simp; omega) | simp) _))) (hb9.mono (by first | omega | simp | (simp; omega)))
      replace hB := hB.trans (hA9.mono hB.size)
      replace x1 := x1.below hA9
      replace x2 := x2.below hA9
      replace x3 := x3.below hA9
      replace hX := hX.below hA9 hX.lt
      replace hN := hN.below hA9 hN.lt
      replace hV := hV.below hA9 hV.lt
      replace hM := hM.below hA9
      replace hA := hA.below hA9 hA.lt
      replace v1 := v1.below hA9
      replace v2 := v2.below hA9
      replace v3 := v3.below hA9
      replace pr1 := pr1.below hA9
      replace pr2 := pr2.below hA9
      replace pr3 := pr3.below hA9
      clear hb9
      clear hA9
      have hZ := Cl.new w9 27 #[.slice q1 3 qk1, .slice q2 3 qk2, .slice q3 0 qk3]
      obtain ⟨⟨y0, y1, y2⟩, -⟩ := hY.has3
      have ylt := hY.lt
      go_wp2_with fail
      refine (level_calls _ _ _ _ sY 4 (pr2.below (by (repeat (first | with_reducible exact Below.refl _ _ | with_reducible assumption | with_reducible refine below_drewN ?_ _ | with_reducible refine Below.drew ?_ | with_reducible refine Below.alloc ?_ (by first | omega | (simp; omega) | simp) _ | with_reducible refine Below.setCell ?_ (by first | omega | (simp; omega) | simp) _)))) (by decide) sGenY).mono ?_
      rintro e w10 ⟨rfl, hb10⟩
      simp only [sLevelY, outBk, Option.getD_some, Option.isSome_some, Bk.line, Bk.cls, Bk.kind, Bk.gen, sF]
      clear y0 y1 y2 ylt
      replace hZ := hZ.below hb10 (by simp)
      have hA10 : Below w9.heap.size w9 w10 := Below.trans (by (repeat (first | with_reducible exact Below.refl _ _ | with_reducible assumption | with_reducible refine below_drewN ?_ _ | with_reducible refine Below.drew ?_ | with_reducible refine Below.alloc ?_ (by first | omega | (simp; omega) | simp) _ | with_reducible refine Below.setCell ?_ (by first | omega | (simp; omega) | simp) _))) (hb10.mono (by first | omega | simp | (simp; omega)))
      replace hB := hB.trans (hA10.mono hB.size)
      replace x1 := x1.below hA10
      replace x2 := x2.below hA10
      replace x3 := x3.below hA10
      replace hX := hX.below hA10 hX.lt
      replace hN := hN.below hA10 hN.lt
      replace hV := hV.below hA10 hV.lt
      replace hM := hM.below hA10
      replace hA := hA.below hA10 hA.lt
      replace v1 := v1.below hA10
      replace v2 := v2.below hA10
      replace v3 := v3.below hA10
      replace pr1 := pr1.below hA10
      replace pr2 := pr2.below hA10
      replace pr3 := pr3.below hA10
      replace hY := hY.below hA10 hY.lt
      replace qr1 := qr1.below hA10
      replace qr2 := qr2.below hA10
      replace qr3 := qr3.below hA10
      clear hb10
      clear hA10
      obtain ⟨⟨y0, y1, y2⟩, -⟩ := hZ.has3
      have ylt := hZ.lt
      go_wp2_with fail
      refine (level_calls _ _ _ _ sZ 4 (qr2.below (by (repeat (first | with_reducible exact Below.refl _ _ | with_reducible assumption | with_reducible refine below_drewN ?_ _ | with_reducible refine Below.drew ?_ | with_reducible refine Below.alloc ?_ (by first | omega | (simp; omega) | simp) _ | with_reducible refine Below.setCell ?_ (by first | omega | (simp; omega) | simp) _)))) (by decide) sGenZ).mono ?_
      rintro e w11 ⟨rfl, hb11⟩
      simp only [sLevelZ, outBk, Option.getD_none, Option.isSome_none, Bk.line, Bk.cls, Bk.kind, Bk.gen]
      clear y0 y1 y2 ylt
      have hA11 : Below w10.heap.size w10 w11 := Below.trans (by (repeat (first | with_reducible exact Below.refl _ _ | with_reducible assumption | with_reducible refine below_drewN ?_ _ | with_reducible refine Below.drew ?_ | with_reducible refine Below.alloc ?_ (by first | omega | (simp; omega) | simp) _ | with_reducible refine Below.setCell ?_ (by first | omega | (simp; omega) | simp) _))) (hb11.mono (by first | omega | simp | (simp; omega)))
      replace hB := hB.trans (hA11.mono hB.size)
      replace x1 := x1.below hA11
      replace x2 := x2.below hA11
      replace x3 := x3.below hA11
      replace hX := hX.below hA11 hX.lt
      replace hN := hN.below hA11 hN.lt
      replace hV := hV.below hA11 hV.lt
      replace hM := hM.below hA11
      replace hA := hA.below hA11 hA.lt
      replace v1 := v1.below hA11
      replace v2 := v2.below hA11
      replace v3 := v3.below hA11
      replace pr1 := pr1.below hA11
      replace pr2 := pr2.below hA11
      replace pr3 := pr3.below hA11
      replace hY := hY.below hA11 hY.lt
      replace qr1 := qr1.below hA11
      replace qr2 := qr2.below hA11
      replace qr3 := qr3.below hA11
      replace hZ := hZ.below hA11 hZ.lt
      clear hb11
      clear hA11
      go_wp2_with fail
      refine (three_w _).mono ?_
      rintro e w12 ⟨r1, rk1, r2, rk2, r3, rk3, rfl, rr1, rr2, rr3, hb12⟩
      have hA12 : Below w11.heap.size w11 w12 := Below.trans (by (repeat (first | with_reducible exact Below.refl _ _ | with_reducible assumption | with_reducible refine below_drewN ?_ _ | with_reducible refine Below.drew ?_ | with_reducible refine Below.alloc ?_ (by first | omega | (simp; omega) | simp) _ | with_reducible refine Below.setCell ?_ (by first | omega | (simp; omega) | simp) _))) (hb12.mono (by first | omega | simp | (simp; omega)))
      replace hB := hB.trans (hA12.mono hB.size)
      replace x1 := x1.below hA12
      replace x2 := x2.below hA12
      replace x3 := x3.below hA12
      replace hX := hX.below hA12 hX.lt
      replace hN := hN.below hA12 hN.lt
      replace hV := hV.below hA12 hV.lt
      replace hM := hM.below hA12
      replace hA := hA.below hA12 hA.lt
      replace v1 := v1.below hA12
      replace v2 := v2.below hA12
      replace v3 := v3.below hA12
      replace pr1 := pr1.below hA12
      replace pr2 := pr2.below hA12
      replace pr3 := pr3.below hA12
      replace hY := hY.below hA12 hY.lt
      replace qr1 := qr1.below hA12
      replace qr2 := qr2.below hA12
      replace qr3 := qr3.below hA12
      replace hZ := hZ.below hA12 hZ.lt
      clear hb12
      clear hA12
      have hT := Cl.new w12 27 #[.slice r1 3 rk1, .slice r2 3 rk2, .slice r3 0 rk3]
      obtain ⟨⟨y0, y1, y2⟩, -⟩ := hX.has3
      have ylt := hX.lt
      go_wp2_with fail
      refine (spread_calls _ _ _ _ sX 4 (x2.below (by (repeat (first | with_reducible exact Below.refl _ _ | with_reducible assumption | with_reducible refine below_drewN ?_ _ | with_reducible refine Below.drew ?_ | with_reducible refine Below.alloc ?_ (by first | omega | (simp; omega) | simp) _ | with_reducible refine Below.setCell ?_ (by first | omega | (simp; omega) | simp) _)))) (by decide)).mono ?_
      rintro e w13 ⟨rfl, hb13⟩
      simp only [sUse]
      rw [show wrap64 ((9 : Int) - 1) = 8 from IntWalk.wrap64_in _ ⟨by omega, by omega⟩]
      clear y0 y1 y2 ylt
      replace hT := hT.below hb13 (by simp)
      have hA13 : Below w12.heap.size w12 w13 := Below.trans (by (repeat (first | with_reducible exact Below.refl _ _ | with_reducible assumption | with_reducible refine below_drewN ?_ _ | with_reducible refine Below.drew ?_ | with_reducible refine Below.alloc ?_ (by first | omega | (simp; omega) | simp) _ | with_reducible refine Below.setCell ?_ (by first | omega | (simp; omega) | simp) _))) (hb13.mono (by first | omega | simp | (simp; omega)))
      replace hB := hB.trans (hA13.mono hB.size)
      replace x1 := x1.below hA13
      replace x2 := x2.below hA13
      replace x3 := x3.below hA13
      replace hX := hX.below hA13 hX.lt
      replace hN := hN.below hA13 hN.lt
      replace hV := hV.below hA13 hV.lt
      replace hM := hM.below hA13
      replace hA := hA.below hA13 hA.lt
      replace v1 := v1.below hA13
      replace v2 := v2.below hA13
      replace v3 := v3.below hA13
      replace pr1 := pr1.below hA13
      replace pr2 := pr2.below hA13
      replace pr3 := pr3.below hA13
      replace hY := hY.below hA13 hY.lt
      replace qr1 := qr1.below hA13
      replace qr2 := qr2.below hA13
      replace qr3 := qr3.below hA13
      replace hZ := hZ.below hA13 hZ.lt
      replace rr1 := rr1.below hA13
      replace rr2 := rr2.below hA13
      replace rr3 := rr3.below hA13
      clear hb13
      clear hA13
      obtain ⟨⟨n0, n1, n2, n3⟩, -⟩ := hN.has4
      obtain ⟨⟨l0, l1, l2, l3⟩, -⟩ := hV.has4
      obtain ⟨⟨u0, u1, u2⟩, -⟩ := hA.has3
      obtain ⟨⟨t0, t1, t2⟩, -⟩ := hT.has3
      go_wp2_with fail
      refine (same_calls _ _ _ _ _ _ _ sC sW [] (v1.below (by (repeat (first | with_reducible exact Below.refl _ _ | with_reducible assumption | with_reducible refine below_drewN ?_ _ | with_reducible refine Below.drew ?_ | with_reducible refine Below.alloc ?_ (by first | omega | (simp; omega) | simp) _ | with_reducible refine Below.setCell ?_ (by first | omega | (simp; omega) | simp) _)))) (v2.below (by (repeat (first | with_reducible exact Below.refl _ _ | with_reducible assumption | with_reducible refine below_drewN ?_ _ | with_reducible refine Below.drew ?_ | with_reducible refine Below.alloc ?_ (by first | omega | (simp; omega) | simp) _ | with_reducible refine Below.setCell ?_ (by first | omega | (simp; omega) | simp) _)))) (v3.below (by (repeat (first | with_reducible exact Below.refl _ _ | with_reducible assumption | with_reducible refine below_drewN ?_ _ | with_reducible refine Below.drew ?_ | with_reducible refine Below.alloc ?_ (by first | omega | (simp; omega) | simp) _ | with_reducible refine Below.setCell ?_ (by first | omega | (simp; omega) | simp) _)))) (rr1.below (by (repeat (first | with_reducible exact Below.refl _ _ | with_reducible assumption | with_reducible refine below_drewN ?_ _ | with_reducible refine Below.drew ?_ | with_reducible refine Below.alloc ?_ (by first | omega | (simp; omega) | simp) _ | with_reducible refine Below.setCell ?_ (by first | omega | (simp; omega) | simp) _)))) (rr2.below (by (repeat (first | with_reducible exact Below.refl _ _ | with_reducible assumption | with_reducible refine below_drewN ?_ _ | with_reducible refine Below.drew ?_ | with_reducible refine Below.alloc ?_ (by first | omega | (simp; omega) | simp) _ | with_reducible refine Below.setCell ?_ (by first | omega | (simp; omega) | simp) _)))) (rr3.below (by (repeat (first | with_reducible exact Below.refl _ _ | with_reducible assumption | with_reducible refine below_drewN ?_ _ | with_reducible refine Below.drew ?_ | with_reducible refine Below.alloc ?_ (by first | omega | (simp; omega) | simp) _ | with_reducible refine Below.setCell ?_ (by first | omega | (simp; omega) | simp) _)))) (by decide) (by decide) (by decide)).mono ?_
      rintro e w14 ⟨rfl, hb14⟩
      clear n0 n1 n2 n3 l0 l1 l2 l3 u0 u1 u2 t0 t1 t2
      have hA14 : Below w13.heap.size w13 w14 := Below.trans (by (repeat (first | with_reducible exact Below.refl _ _ | with_reducible assumption | with_reducible refine below_drewN ?_ _ | with_reducible refine Below.drew ?_ | with_reducible refine Below.alloc ?_ (by first | omega | (simp; omega) | simp) _ | with_reducible refine Below.setCell ?_ (by first | omega | (simp; omega) | simp) _))) (hb14.mono (by first | omega | simp | (simp; omega)))
      replace hB := hB.trans (hA14.mono hB.size)
      replace x1 := x1.below hA14
      replace x2 := x2.below hA14
      replace x3 := x3.below hA14
      replace hX := hX.below hA14 hX.lt
      replace hN := hN.below hA14 hN.lt
      replace hV := hV.below hA14 hV.lt
      replace hM := hM.below hA14
      replace hA := hA.below hA14 hA.lt
      replace v1 := v1.below hA14
      replace v2 := v2.below hA14
      replace v3 := v3.below hA14
      replace pr1 := pr1.below hA14
      replace pr2 := pr2.below hA14
      replace pr3 := pr3.below hA14
      replace hY := hY.below hA14 hY.lt
      replace qr1 := qr1.below hA14
      replace qr2 := qr2.below hA14
      replace qr3 := qr3.below hA14
      replace hZ := hZ.below hA14 hZ.lt
      replace rr1 := rr1.below hA14
      replace rr2 := rr2.below hA14
      replace rr3 := rr3.below hA14
      replace hT := hT.below hA14 hT.lt
      clear hb14
      clear hA14
      obtain ⟨⟨y0, y1, y2⟩, -⟩ := hY.has3
      have ylt := hY.lt
      go_wp2_with fail
      refine (wear_moves_calls _ _ _ _ sC sY [] 4 10 (pr1.below (by (repeat (first | with_reducible exact Below.refl _ _ | with_reducible assumption | with_reducible refine below_drewN ?_ _ | with_reducible refine Below.drew ?_ | with_reducible refine Below.alloc ?_ (by first | omega | (simp; omega) | simp) _ | with_reducible refine Below.setCell ?_ (by first | omega | (simp; omega) | simp) _)))) (pr2.below (by (repeat (first | with_reducible exact Below.refl _ _ | with_reducible assumption | with_reducible refine below_drewN ?_ _ | with_reducible refine Below.drew ?_ | with_reducible refine Below.alloc ?_ (by first | omega | (simp; omega) | simp) _ | with_reducible refine Below.setCell ?_ (by first | omega | (simp; omega) | simp) _)))) (pr3.below (by (repeat (first | with_reducible exact Below.refl _ _ | with_reducible assumption | with_reducible refine below_drewN ?_ _ | with_reducible refine Below.drew ?_ | with_reducible refine Below.alloc ?_ (by first | omega | (simp; omega) | simp) _ | with_reducible refine Below.setCell ?_ (by first | omega | (simp; omega) | simp) _)))) (by decide) (by decide) (by decide) sGenY (by decide)).mono ?_
      rintro e w15 ⟨an, kn, rfl, hMn, hb15⟩
      rw [sMovesY]
      clear hMn
      clear y0 y1 y2 ylt
      have hA15 : Below w14.heap.size w14 w15 := Below.trans (by (repeat (first | with_reducible exact Below.refl _ _ | with_reducible assumption | with_reducible refine below_drewN ?_ _ | with_reducible refine Below.drew ?_ | with_reducible refine Below.alloc ?_ (by first | omega | (simp; omega) | simp) _ | with_reducible refine Below.setCell ?_ (by first | omega | (simp; omega) | simp) _))) (hb15.mono (by first | omega | simp | (simp; omega)))
      replace hB := hB.trans (hA15.mono hB.size)
      replace x1 := x1.below hA15
      replace x2 := x2.below hA15
      replace x3 := x3.below hA15
      replace hX := hX.below hA15 hX.lt
      replace hN := hN.below hA15 hN.lt
      replace hV := hV.below hA15 hV.lt
      replace hM := hM.below hA15
      replace hA := hA.below hA15 hA.lt
      replace v1 := v1.below hA15
      replace v2 := v2.below hA15
      replace v3 := v3.below hA15
      replace pr1 := pr1.below hA15
      replace pr2 := pr2.below hA15
      replace pr3 := pr3.below hA15
      replace hY := hY.below hA15 hY.lt
      replace qr1 := qr1.below hA15
      replace qr2 := qr2.below hA15
      replace qr3 := qr3.below hA15
      replace hZ := hZ.below hA15 hZ.lt
      replace rr1 := rr1.below hA15
      replace rr2 := rr2.below hA15
      replace rr3 := rr3.below hA15
      replace hT := hT.below hA15 hT.lt
      clear hb15
      clear hA15
      obtain ⟨⟨y0, y1, y2⟩, -⟩ := hY.has3
      have ylt := hY.lt
      go_wp2_with fail
      refine (due_calls _ _ _ _ sC sY [] (pr1.below (by (repeat (first | with_reducible exact Below.refl _ _ | with_reducible assumption | with_reducible refine below_drewN ?_ _ | with_reducible refine Below.drew ?_ | with_reducible refine Below.alloc ?_ (by first | omega | (simp; omega) | simp) _ | with_reducible refine Below.setCell ?_ (by first | omega | (simp; omega) | simp) _)))) (pr2.below (by (repeat (first | with_reducible exact Below.refl _ _ | with_reducible assumption | with_reducible refine below_drewN ?_ _ | with_reducible refine Below.drew ?_ | with_reducible refine Below.alloc ?_ (by first | omega | (simp; omega) | simp) _ | with_reducible refine Below.setCell ?_ (by first | omega | (simp; omega) | simp) _)))) (pr3.below (by (repeat (first | with_reducible exact Below.refl _ _ | with_reducible assumption | with_reducible refine below_drewN ?_ _ | with_reducible refine Below.drew ?_ | with_reducible refine Below.alloc ?_ (by first | omega | (simp; omega) | simp) _ | with_reducible refine Below.setCell ?_ (by first | omega | (simp; omega) | simp) _)))) (by decide) (by decide) (by decide) sGenY).mono ?_
      rintro e w16 ⟨ad, kd, rfl, hDn, hb16⟩
      rw [sDueY]
      clear hDn
      clear y0 y1 y2 ylt
      have hA16 : Below w15.heap.size w15 w16 := Below.trans (by (repeat (first | with_reducible exact Below.refl _ _ | with_reducible assumption | with_reducible refine below_drewN ?_ _ | with_reducible refine Below.drew ?_ | with_reducible refine Below.alloc ?_ (by first | omega | (simp; omega) | simp) _ | with_reducible refine Below.setCell ?_ (by first | omega | (simp; omega) | simp) _))) (hb16.mono (by first | omega | simp | (simp; omega)))
      replace hB := hB.trans (hA16.mono hB.size)
      replace x1 := x1.below hA16
      replace x2 := x2.below hA16
      replace x3 := x3.below hA16
      replace hX := hX.below hA16 hX.lt
      replace hN := hN.below hA16 hN.lt
      replace hV := hV.below hA16 hV.lt
      replace hM := hM.below hA16
      replace hA := hA.below hA16 hA.lt
      replace v1 := v1.below hA16
      replace v2 := v2.below hA16
      replace v3 := v3.below hA16
      replace pr1 := pr1.below hA16
      replace pr2 := pr2.below hA16
      replace pr3 := pr3.below hA16
      replace hY := hY.below hA16 hY.lt
      replace qr1 := qr1.below hA16
      replace qr2 := qr2.below hA16
      replace qr3 := qr3.below hA16
      replace hZ := hZ.below hA16 hZ.lt
      replace rr1 := rr1.below hA16
      replace rr2 := rr2.below hA16
      replace rr3 := rr3.below hA16
      replace hT := hT.below hA16 hT.lt
      clear hb16
      clear hA16
      obtain ⟨⟨y0, y1, y2⟩, -⟩ := hX.has3
      have ylt := hX.lt
      go_wp2_with fail
      refine (due_calls _ _ _ _ sC sX [] (x1.below (by (repeat (first | with_reducible exact Below.refl _ _ | with_reducible assumption | with_reducible refine below_drewN ?_ _ | with_reducible refine Below.drew ?_ | with_reducible refine Below.alloc ?_ (by first | omega | (simp; omega) | simp) _ | with_reducible refine Below.setCell ?_ (by first | omega | (simp; omega) | simp) _)))) (x2.below (by (repeat (first | with_reducible exact Below.refl _ _ | with_reducible assumption | with_reducible refine below_drewN ?_ _ | with_reducible refine Below.drew ?_ | with_reducible refine Below.alloc ?_ (by first | omega | (simp; omega) | simp) _ | with_reducible refine Below.setCell ?_ (by first | omega | (simp; omega) | simp) _)))) (x3.below (by (repeat (first | with_reducible exact Below.refl _ _ | with_reducible assumption | with_reducible refine below_drewN ?_ _ | with_reducible refine Below.drew ?_ | with_reducible refine Below.alloc ?_ (by first | omega | (simp; omega) | simp) _ | with_reducible refine Below.setCell ?_ (by first | omega | (simp; omega) | simp) _)))) (by decide) (by decide) (by decide) sGenX).mono ?_
      rintro e w17 ⟨ae, ke, rfl, hDx, hb17⟩
      rw [sDueX] at hDx ⊢
      clear y0 y1 y2 ylt
      have hA17 : Below w16.heap.size w16 w17 := Below.trans (by (repeat (first | with_reducible exact Below.refl _ _ | with_reducible assumption | with_reducible refine below_drewN ?_ _ | with_reducible refine Below.drew ?_ | with_reducible refine Below.alloc ?_ (by first | omega | (simp; omega) | simp) _ | with_reducible refine Below.setCell ?_ (by first | omega | (simp; omega) | simp) _))) (hb17.mono (by first | omega | simp | (simp; omega)))
      replace hB := hB.trans (hA17.mono hB.size)
      replace x1 := x1.below hA17
      replace x2 := x2.below hA17
      replace x3 := x3.below hA17
      replace hX := hX.below hA17 hX.lt
      replace hN := hN.below hA17 hN.lt
      replace hV := hV.below hA17 hV.lt
      replace hM := hM.below hA17
      replace hA := hA.below hA17 hA.lt
      replace v1 := v1.below hA17
      replace v2 := v2.below hA17
      replace v3 := v3.below hA17
      replace pr1 := pr1.below hA17
      replace pr2 := pr2.below hA17
      replace pr3 := pr3.below hA17
      replace hY := hY.below hA17 hY.lt
      replace qr1 := qr1.below hA17
      replace qr2 := qr2.below hA17
      replace qr3 := qr3.below hA17
      replace hZ := hZ.below hA17 hZ.lt
      replace rr1 := rr1.below hA17
      replace rr2 := rr2.below hA17
      replace rr3 := rr3.below hA17
      replace hT := hT.below hA17 hT.lt
      clear hb17
      clear hA17
      go_wp2_with fail
      refine (sameInts_calls _ _ _ [4] [4] (hDx.below (by (repeat (first | with_reducible exact Below.refl _ _ | with_reducible assumption | with_reducible refine below_drewN ?_ _ | with_reducible refine Below.drew ?_ | with_reducible refine Below.alloc ?_ (by first | omega | (simp; omega) | simp) _ | with_reducible refine Below.setCell ?_ (by first | omega | (simp; omega) | simp) _)))) (Rd.cl (Cl.new w17 3 #[.int .i64 4]) rfl (by simp)) (by decide) (by decide)).mono ?_
      rintro e w18 ⟨rfl, hb18⟩
      simp only [decide_true]
      have hA18 : Below w17.heap.size w17 w18 := Below.trans (by (repeat (first | with_reducible exact Below.refl _ _ | with_reducible assumption | with_reducible refine below_drewN ?_ _ | with_reducible refine Below.drew ?_ | with_reducible refine Below.alloc ?_ (by first | omega | (simp; omega) | simp) _ | with_reducible refine Below.setCell ?_ (by first | omega | (simp; omega) | simp) _))) (hb18.mono (by first | omega | simp | (simp; omega)))
      replace hB := hB.trans (hA18.mono hB.size)
      replace x1 := x1.below hA18
      replace x2 := x2.below hA18
      replace x3 := x3.below hA18
      replace hX := hX.below hA18 hX.lt
      replace hN := hN.below hA18 hN.lt
      replace hV := hV.below hA18 hV.lt
      replace hM := hM.below hA18
      replace hA := hA.below hA18 hA.lt
      replace v1 := v1.below hA18
      replace v2 := v2.below hA18
      replace v3 := v3.below hA18
      replace pr1 := pr1.below hA18
      replace pr2 := pr2.below hA18
      replace pr3 := pr3.below hA18
      replace hY := hY.below hA18 hY.lt
      replace qr1 := qr1.below hA18
      replace qr2 := qr2.below hA18
      replace qr3 := qr3.below hA18
      replace hZ := hZ.below hA18 hZ.lt
      replace rr1 := rr1.below hA18
      replace rr2 := rr2.below hA18
      replace rr3 := rr3.below hA18
      replace hT := hT.below hA18 hT.lt
      replace hDx := hDx.below hA18
      clear hb18
      clear hA18
      go_wp2_with fail
      go_ret
      exact ⟨rfl, hB⟩
end Go.Proofs.YtidiapfmjalaiaaDoor
