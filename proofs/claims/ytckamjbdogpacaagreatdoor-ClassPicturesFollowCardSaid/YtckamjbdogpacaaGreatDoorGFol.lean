/-
  class.Follow at every pointer, through a view of a memory of any content.
  class.Scan: what a picture tells of the memory; what Scan has made so far.
-/
import Derived.Test.YtckamjbdogpacaaGreatDoorGLd
import Derived.Test.YtckamjbdogpacaaGreatDoorGMemC
namespace Go.Proofs.YtckamjbdogpacaaGreatDoor
open Go.RowKit
set_option linter.unusedSimpArgs false
set_option linter.unusedVariables false

/-- What Follow answers, out of what block answers at the pointer's line. -/
def folZ (r : Bk × Int) (gn : Int) : Bk × Int := if r.2 = 0 then (if r.1.kind = 0 ∨ r.1.gen ≠ gn then ((0, 0, 0, 0), 70) else (r.1, 0)) else ((0, 0, 0, 0), r.2)

set_option maxRecDepth 100000 in
set_option maxHeartbeats 8000000 in
theorem follow_in (w : World) (gv : Nat) (lL C ln gn p bl bc bk bg er : Int) (hpp : p = ptrZ ln gn) (l0 : 1 ≤ ln) (l1 : ln ≤ 4095) (g0 : 1 ≤ gn) (g1 : gn ≤ 1048575) (hp : Pt w)
    (hB : ∀ w', Below w.heap.size w w' → Calls Tryz.prog 37 #[.func (.func 36) #[.pointer (some ⟨gv, 0, none⟩)] #[], .agg #[.int .i64 lL, .int .i64 2, .int .i64 8, .int .i64 10, .int .i64 4, .int .i64 14, .int .i64 16, .int .i64 C], .int .i64 ln] w'
      fun en w'' => en = .returned (.tuple #[.agg #[.int .i64 bl, .int .i64 bc, .int .i64 bk, .int .i64 bg], .int .i64 er]) ∧ Below w'.heap.size w' w'') :
    Calls Tryz.prog 7 #[.pointer (some ⟨gv, 0, none⟩), .agg #[.int .i64 lL, .int .i64 2, .int .i64 8, .int .i64 10, .int .i64 4, .int .i64 14, .int .i64 16, .int .i64 C], .int .i64 p] w
      fun e w' => e = .returned (.tuple #[.agg #[.int .i64 (Bk.line (folZ ((bl, bc, bk, bg), er) gn).1), .int .i64 (Bk.cls (folZ ((bl, bc, bk, bg), er) gn).1), .int .i64 (Bk.kind (folZ ((bl, bc, bk, bg), er) gn).1), .int .i64 (Bk.gen (folZ ((bl, bc, bk, bg), er) gn).1)], .int .i64 (folZ ((bl, bc, bk, bg), er) gn).2]) ∧ Below w.heap.size w w' := by
  have hpz := ptrZ_parts l0 l1 g0 g1
  have bp0 : (p == 0) = false := by rw [hpp]; simp; omega
  have HP := Lib.hid hpp
  have HB := Lib.hid hB
  clear hpz hpp hB
  go_enter Tryz.func7, Tryz.ntmps7
  go_upto_region 1 with (fail)
  generalize hwn : (w.alloc (.cells #[.int .i64 lL, .int .i64 2, .int .i64 8, .int .i64 10, .int .i64 4, .int .i64 14, .int .i64 16, .int .i64 C] 29)).alloc (.cells #[.int .i64 0, .int .i64 0, .int .i64 0, .int .i64 0] 43) = wn
  have hLn : Cl wn w.heap.size 29 #[.int .i64 lL, .int .i64 2, .int .i64 8, .int .i64 10, .int .i64 4, .int .i64 14, .int .i64 16, .int .i64 C] := by rw [← hwn]; exact (Cl.new _ _ _).alloc _
  have hZn : Cl wn (w.heap.size + 1) 43 #[.int .i64 0, .int .i64 0, .int .i64 0, .int .i64 0] := by rw [← hwn]; exact Cl.new_ _ _ _ _ (by simp)
  have hAn : Below w.heap.size w wn := by rw [← hwn]; (repeat (first | with_reducible exact Below.refl _ _ | with_reducible assumption | with_reducible refine below_drewN ?_ _ | with_reducible refine Below.drew ?_ | with_reducible refine Below.alloc ?_ (by first | omega | (simp; omega) | simp) _ | with_reducible refine Below.setCell ?_ (by first | omega | (simp; omega) | simp) _))
  clear hwn
  replace hp := hp.below hAn
  go_wp2_with fail
  refine (right_calls _ ln gn p hp HP.out l0 l1 g0 g1).mono ?_
  rintro e w1 ⟨rfl, hb1⟩
  replace hLn := hLn.below hb1 hLn.lt
  replace hZn := hZn.below hb1 hZn.lt
  replace hp := hp.below hb1
  replace hAn := hAn.trans (hb1.mono hAn.size)
  clear hb1
  have hln' := hLn.lt
  obtain ⟨y0, y1, y2, y3, y4, y5, y6, y7⟩ := hLn.cells8
  go_upto_region 3 with (fail)
  have yn : ¬ w.heap.size = w1.heap.size := by omega
  have yn' : ¬ w1.heap.size = w.heap.size := by omega
  go_cut [8, 9] (fun s t wx => ∃ g, s = .pointer (some ⟨g, 0, none⟩) ∧ t = .int .i64 er ∧ w1.heap.size ≤ g ∧ Cl wx g 43 #[.int .i64 bl, .int .i64 bc, .int .i64 bk, .int .i64 bg] ∧ Below w1.heap.size w1 wx)
  case first =>
    go_region_held3 (fun w' => w'.cell? ⟨w.heap.size, 0, none⟩ = some (.int .i64 lL) ∧ w'.cell? ⟨w.heap.size, 1, none⟩ = some (.int .i64 2) ∧ w'.cell? ⟨w.heap.size, 2, none⟩ = some (.int .i64 8) ∧ w'.cell? ⟨w.heap.size, 3, none⟩ = some (.int .i64 10) ∧ w'.cell? ⟨w.heap.size, 4, none⟩ = some (.int .i64 4) ∧ w'.cell? ⟨w.heap.size, 5, none⟩ = some (.int .i64 14) ∧ w'.cell? ⟨w.heap.size, 6, none⟩ = some (.int .i64 16) ∧ w'.cell? ⟨w.heap.size, 7, none⟩ = some (.int .i64 C)) (go_keep)
      (first
        | (go_at_call 38; refine (ptrLine_calls _ ln gn p (hp.below (by (repeat (first | with_reducible exact Below.refl _ _ | with_reducible assumption | with_reducible refine below_drewN ?_ _ | with_reducible refine Below.drew ?_ | with_reducible refine Below.alloc ?_ (by first | omega | (simp; omega) | simp) _ | with_reducible refine Below.setCell ?_ (by first | omega | (simp; omega) | simp) _)))) HP.out l0 l1 g0 g1).mono ?_; rintro e wa ⟨rfl, ba0⟩; (have ba : Below w1.heap.size w1 wa := Below.trans (by (repeat (first | with_reducible exact Below.refl _ _ | with_reducible assumption | with_reducible refine below_drewN ?_ _ | with_reducible refine Below.drew ?_ | with_reducible refine Below.alloc ?_ (by first | omega | (simp; omega) | simp) _ | with_reducible refine Below.setCell ?_ (by first | omega | (simp; omega) | simp) _))) (ba0.mono (by simp))); (have qa := Cl.cells8 (hLn.below ba hLn.lt)); unfold Cells8 at qa; (have la := (hLn.below ba hLn.lt).lt); (have sa := ba.size); (have z1 : ¬ w.heap.size = wa.heap.size := (by omega)); (have z2 : ¬ wa.heap.size = w.heap.size := (by omega)); (first | (have g1 := (Cl.new w1 43 #[.int .i64 0, .int .i64 0, .int .i64 0, .int .i64 0]).drew.below ba0 (by simp); obtain ⟨⟨k0, k1, k2, k3⟩, ⟨k4, k5, k6, k7⟩⟩ := g1.has4; (have gl := g1.lt)) | skip))
        | (go_at_call 37; refine (HB.out _ (hAn.trans (Below.mono (Below.trans ba (Below.mono (by (repeat (first | with_reducible exact Below.refl _ _ | with_reducible assumption | with_reducible refine below_drewN ?_ _ | with_reducible refine Below.drew ?_ | with_reducible refine Below.alloc ?_ (by first | omega | (simp; omega) | simp) _ | with_reducible refine Below.setCell ?_ (by first | omega | (simp; omega) | simp) _))) ba.size)) hAn.size))).mono ?_; rintro e wb ⟨rfl, bb0⟩; (have bb : Below w1.heap.size w1 wb := Below.trans ba (Below.trans (Below.mono (by (repeat (first | with_reducible exact Below.refl _ _ | with_reducible assumption | with_reducible refine below_drewN ?_ _ | with_reducible refine Below.drew ?_ | with_reducible refine Below.alloc ?_ (by first | omega | (simp; omega) | simp) _ | with_reducible refine Below.setCell ?_ (by first | omega | (simp; omega) | simp) _))) ba.size) (bb0.mono (by first | omega | (simp; omega))))); (have qb := Cl.cells8 (hLn.below bb hLn.lt)); unfold Cells8 at qb; (have lb := (hLn.below bb hLn.lt).lt); (have sb := bb.size); (first | (have g2 := g1.below bb0 (by first | exact g1.lt | (simp; omega)); obtain ⟨⟨k0, k1, k2, k3⟩, ⟨k4, k5, k6, k7⟩⟩ := g2.has4; (have gl2 := g2.lt)) | (have g2 := (Cl.new wa 43 #[.int .i64 0, .int .i64 0, .int .i64 0, .int .i64 0]).below bb0 (by simp); obtain ⟨⟨k0, k1, k2, k3⟩, ⟨k4, k5, k6, k7⟩⟩ := g2.has4; (have gl2 := g2.lt)) | skip)))
    all_goals (go_wp2_with fail; go_meet)
    all_goals first
      | (refine ⟨wb.heap.size, ?_, ?_⟩; (· with_reducible rfl); refine ⟨rfl, by omega, Cl.new _ _ _, ?_⟩; (repeat (first | with_reducible exact Below.refl _ _ | with_reducible assumption | with_reducible refine below_drewN ?_ _ | with_reducible refine Below.drew ?_ | with_reducible refine Below.alloc ?_ (by first | omega | (simp; omega) | simp) _ | with_reducible refine Below.setCell ?_ (by first | omega | (simp; omega) | simp) _)))
      | (refine ⟨wa.heap.size, ?_, ?_⟩; (· with_reducible rfl); refine ⟨rfl, by omega, g2.set4 _ _ _ _, ?_⟩; (repeat (first | with_reducible exact Below.refl _ _ | with_reducible assumption | with_reducible refine below_drewN ?_ _ | with_reducible refine Below.drew ?_ | with_reducible refine Below.alloc ?_ (by first | omega | (simp; omega) | simp) _ | with_reducible refine Below.setCell ?_ (by first | omega | (simp; omega) | simp) _)))
      | (refine ⟨w1.heap.size, ?_, ?_⟩; (· with_reducible rfl); refine ⟨rfl, by omega, g2.set4 _ _ _ _, ?_⟩; (repeat (first | with_reducible exact Below.refl _ _ | with_reducible assumption | with_reducible refine below_drewN ?_ _ | with_reducible refine Below.drew ?_ | with_reducible refine Below.alloc ?_ (by first | omega | (simp; omega) | simp) _ | with_reducible refine Below.setCell ?_ (by first | omega | (simp; omega) | simp) _)))
  case rest =>
    obtain ⟨g, rfl, rfl, hg, hG, hbx⟩ := hcut
    obtain ⟨w2, hw2⟩ : ∃ x : World, x = wc := ⟨_, rfl⟩
    subst hw2
    have hB := hAn.trans (hbx.mono hAn.size)
    have hZ2 := hZn.below hbx hZn.lt
    have hp2 := hp.below hbx
    have hzg : w.heap.size + 1 < w1.heap.size := hZn.lt
    have ngz : ¬ g = w.heap.size + 1 := by omega
    have ngz' : ¬ w.heap.size + 1 = g := by omega
    clear hLn hZn hp hAn hln' y0 y1 y2 y3 y4 y5 y6 y7 yn yn' hbx HB
    have lg := hG.lt
    obtain ⟨⟨k0, k1, k2, k3⟩, ⟨k4, k5, k6, k7⟩⟩ := hG.has4
    obtain ⟨⟨z0, z1, z2, z3⟩, ⟨z4, z5, z6, z7⟩⟩ := hZ2.has4
    have lz := hZ2.lt
    go_upto_region 4 with (fail)
    by_cases he : er = 0
    · subst he
      by_cases hk : bk = 0
      · have bkb : (bk == 0) = true := by simp [hk]
        have HZ : Hid (folZ ((bl, bc, bk, bg), 0) gn = ((0, 0, 0, 0), 70)) := by show folZ _ _ = _; unfold folZ; rw [if_pos rfl, if_pos (.inl hk)]
        clear hk
        go_quiet (fail)
        go_wp2_with fail
        refine bodyPost_ret (v := .tuple #[.agg #[.int .i64 (Bk.line (folZ ((bl, bc, bk, bg), 0) gn).1), .int .i64 (Bk.cls (folZ ((bl, bc, bk, bg), 0) gn).1), .int .i64 (Bk.kind (folZ ((bl, bc, bk, bg), 0) gn).1), .int .i64 (Bk.gen (folZ ((bl, bc, bk, bg), 0) gn).1)], .int .i64 (folZ ((bl, bc, bk, bg), 0) gn).2]) ?_ rfl ⟨rfl, by (repeat (first | with_reducible exact Below.refl _ _ | with_reducible assumption | with_reducible refine below_drewN ?_ _ | with_reducible refine Below.drew ?_ | with_reducible refine Below.alloc ?_ (by first | omega | (simp; omega) | simp) _ | with_reducible refine Below.setCell ?_ (by first | omega | (simp; omega) | simp) _))⟩
        rw [HZ.out]
        simp [results, Tryz.results7, go_sem, Bk.line, Bk.cls, Bk.kind, Bk.gen, *]
      · have bkb : (bk == 0) = false := by simp [hk]
        have HK := Lib.hid hk
        clear hk
        go_cut [40] (fun t wx => t = .bool (bg != gn) ∧ Below w2.heap.size w2 wx)
        case first =>
          go_region_held3 (fun w' => w'.cell? ⟨g, 2, none⟩ = some (.int .i64 bk) ∧ w'.cell? ⟨g, 3, none⟩ = some (.int .i64 bg)) (go_keep)
            (first
              | (go_at_call 39; refine (ptrGen_calls _ ln gn p (hp2.below (by (repeat (first | with_reducible exact Below.refl _ _ | with_reducible assumption | with_reducible refine below_drewN ?_ _ | with_reducible refine Below.drew ?_ | with_reducible refine Below.alloc ?_ (by first | omega | (simp; omega) | simp) _ | with_reducible refine Below.setCell ?_ (by first | omega | (simp; omega) | simp) _)))) HP.out l0 l1 g0 g1).mono ?_; rintro e wa ⟨rfl, ba0⟩; (have ba : Below w2.heap.size w2 wa := (by first | exact below_of_drew ba0 | exact ba0)); (have e2 := (ba.cell (p := ⟨g, 2, none⟩) lg).trans k2); (have e3 := (ba.cell (p := ⟨g, 3, none⟩) lg).trans k3); (have ls := ba.size)))
          go_wp2_with fail
          go_meet
          exact ⟨rfl, ba⟩
        case rest =>
          obtain ⟨rfl, hbx⟩ := hcut
          obtain ⟨w3, hw3⟩ : ∃ x : World, x = wc := ⟨_, rfl⟩
          subst hw3
          have hB3 := hB.trans (hbx.mono hB.size)
          have hZ3 := hZ2.below hbx hZ2.lt
          have hG3 := hG.below hbx hG.lt
          clear k0 k1 k2 k3 k4 k5 k6 k7 lg hG hZ2 hB hbx hp2 z0 z1 z2 z3 z4 z5 z6 z7 lz
          obtain ⟨⟨k0, k1, k2, k3⟩, ⟨k4, k5, k6, k7⟩⟩ := hG3.has4
          obtain ⟨⟨z0, z1, z2, z3⟩, ⟨z4, z5, z6, z7⟩⟩ := hZ3.has4
          have lg := hG3.lt
          have lz := hZ3.lt
          by_cases hgn : bg = gn
          · have HZ : Hid (folZ ((bl, bc, bk, bg), 0) gn = ((bl, bc, bk, bg), 0)) := by show folZ _ _ = _; unfold folZ; rw [if_pos rfl, if_neg (by rintro (h | h); exact HK.out h; exact h hgn)]
            have bgn : (bg != gn) = false := by simp [hgn]
            clear hgn
            rw [bgn]
            go_wp2_with fail
            refine bodyPost_ret (v := .tuple #[.agg #[.int .i64 (Bk.line (folZ ((bl, bc, bk, bg), 0) gn).1), .int .i64 (Bk.cls (folZ ((bl, bc, bk, bg), 0) gn).1), .int .i64 (Bk.kind (folZ ((bl, bc, bk, bg), 0) gn).1), .int .i64 (Bk.gen (folZ ((bl, bc, bk, bg), 0) gn).1)], .int .i64 (folZ ((bl, bc, bk, bg), 0) gn).2]) ?_ rfl ⟨rfl, by (repeat (first | with_reducible exact Below.refl _ _ | with_reducible assumption | with_reducible refine below_drewN ?_ _ | with_reducible refine Below.drew ?_ | with_reducible refine Below.alloc ?_ (by first | omega | (simp; omega) | simp) _ | with_reducible refine Below.setCell ?_ (by first | omega | (simp; omega) | simp) _))⟩
            rw [HZ.out]
            simp [results, Tryz.results7, go_sem, Bk.line, Bk.cls, Bk.kind, Bk.gen, *]
          · have HZ : Hid (folZ ((bl, bc, bk, bg), 0) gn = ((0, 0, 0, 0), 70)) := by show folZ _ _ = _; unfold folZ; rw [if_pos rfl, if_pos (.inr hgn)]
            have bgn : (bg != gn) = true := by simp [hgn]
            clear hgn
            rw [bgn]
            go_wp2_with fail
            refine bodyPost_ret (v := .tuple #[.agg #[.int .i64 (Bk.line (folZ ((bl, bc, bk, bg), 0) gn).1), .int .i64 (Bk.cls (folZ ((bl, bc, bk, bg), 0) gn).1), .int .i64 (Bk.kind (folZ ((bl, bc, bk, bg), 0) gn).1), .int .i64 (Bk.gen (folZ ((bl, bc, bk, bg), 0) gn).1)], .int .i64 (folZ ((bl, bc, bk, bg), 0) gn).2]) ?_ rfl ⟨rfl, by (repeat (first | with_reducible exact Below.refl _ _ | with_reducible assumption | with_reducible refine below_drewN ?_ _ | with_reducible refine Below.drew ?_ | with_reducible refine Below.alloc ?_ (by first | omega | (simp; omega) | simp) _ | with_reducible refine Below.setCell ?_ (by first | omega | (simp; omega) | simp) _))⟩
            rw [HZ.out]
            simp [results, Tryz.results7, go_sem, Bk.line, Bk.cls, Bk.kind, Bk.gen, *]
    · have HZ : Hid (folZ ((bl, bc, bk, bg), er) gn = ((0, 0, 0, 0), er)) := by show folZ _ _ = _; unfold folZ; rw [if_neg he]
      have be : (er == 0) = false := by simp [he]
      have be2 : (er != 0) = true := by simp [he]
      clear he
      go_quiet (fail)
      go_wp2_with fail
      refine bodyPost_ret (v := .tuple #[.agg #[.int .i64 (Bk.line (folZ ((bl, bc, bk, bg), er) gn).1), .int .i64 (Bk.cls (folZ ((bl, bc, bk, bg), er) gn).1), .int .i64 (Bk.kind (folZ ((bl, bc, bk, bg), er) gn).1), .int .i64 (Bk.gen (folZ ((bl, bc, bk, bg), er) gn).1)], .int .i64 (folZ ((bl, bc, bk, bg), er) gn).2]) ?_ rfl ⟨rfl, by (repeat (first | with_reducible exact Below.refl _ _ | with_reducible assumption | with_reducible refine below_drewN ?_ _ | with_reducible refine Below.drew ?_ | with_reducible refine Below.alloc ?_ (by first | omega | (simp; omega) | simp) _ | with_reducible refine Below.setCell ?_ (by first | omega | (simp; omega) | simp) _))⟩
      rw [HZ.out]
      simp [results, Tryz.results7, go_sem, Bk.line, Bk.cls, Bk.kind, Bk.gen, *]

theorem follow_calls (w : World) (gv : Nat) (lL C ln gn p : Int) (r : Bk × Int) (hpp : p = ptrZ ln gn) (l0 : 1 ≤ ln) (l1 : ln ≤ 4095) (g0 : 1 ≤ gn) (g1 : gn ≤ 1048575) (hp : Pt w)
    (hB : ∀ w', Below w.heap.size w w' → Calls Tryz.prog 37 #[.func (.func 36) #[.pointer (some ⟨gv, 0, none⟩)] #[], .agg #[.int .i64 lL, .int .i64 2, .int .i64 8, .int .i64 10, .int .i64 4, .int .i64 14, .int .i64 16, .int .i64 C], .int .i64 ln] w'
      fun en w'' => en = .returned (.tuple #[.agg #[.int .i64 (Bk.line r.1), .int .i64 (Bk.cls r.1), .int .i64 (Bk.kind r.1), .int .i64 (Bk.gen r.1)], .int .i64 r.2]) ∧ Below w'.heap.size w' w'') :
    Calls Tryz.prog 7 #[.pointer (some ⟨gv, 0, none⟩), .agg #[.int .i64 lL, .int .i64 2, .int .i64 8, .int .i64 10, .int .i64 4, .int .i64 14, .int .i64 16, .int .i64 C], .int .i64 p] w
      fun e w' => e = .returned (.tuple #[.agg #[.int .i64 (Bk.line (folZ r gn).1), .int .i64 (Bk.cls (folZ r gn).1), .int .i64 (Bk.kind (folZ r gn).1), .int .i64 (Bk.gen (folZ r gn).1)], .int .i64 (folZ r gn).2]) ∧ Below w.heap.size w w' :=
  follow_in w gv lL C ln gn p r.1.1 r.1.2.1 r.1.2.2.1 r.1.2.2.2 r.2 hpp l0 l1 g0 g1 hp hB
end Go.Proofs.YtckamjbdogpacaaGreatDoor

namespace Go.Proofs.YtckamjbdogpacaaGreatDoor
open Go.RowKit
set_option linter.unusedSimpArgs false
set_option linter.unusedVariables false

/-- What a memory answers: a word, or the error of rot. -/
def OkR (r : Int × Int) : Prop := (r.2 = 0 ∧ 0 ≤ r.1 ∧ r.1 ≤ 1099511627775) ∨ (r.2 = 9 ∧ r.1 = 0)
/-- The memory's answers at all addresses. -/
def AllR (w : World) (gm : Nat) (L : Nat) (R : Int → Int × Int) : Prop := ∀ a, 0 ≤ a → a < 8 * (L : Int) → LdG w gm a (R a).1 (R a).2 ∧ OkR (R a)
theorem AllR.below {w w' : World} {gm L : Nat} {R : Int → Int × Int} (h : AllR w gm L R) (hb : Below w.heap.size w w') : AllR w' gm L R := fun a h0 h1 => ⟨(h a h0 h1).1.below hb, (h a h0 h1).2⟩
theorem AllR.of {base : Nat} {F : Nat → Prop} {w : World} {gm L E : Nat} {T : Nat → Int} (hM : MemW base F w gm L E) (hE : E ≤ 1000) (hT : Tb w T) (hdb : Db w) : ∃ R, AllR w gm L R := by
  obtain ⟨D, C, P, hM⟩ := hM
  have h : ∀ a : Int, ∃ r : Int × Int, 0 ≤ a → a < 8 * (L : Int) → LdG w gm a r.1 r.2 ∧ OkR r := fun a => by
    by_cases h : 0 ≤ a ∧ a < 8 * (L : Int)
    · obtain ⟨x, e, hl, ho⟩ := LdG.some hM hE hT hdb a h.1 h.2
      exact ⟨(x, e), fun _ _ => ⟨hl, ho⟩⟩
    · exact ⟨(0, 0), fun h0 h1 => absurd ⟨h0, h1⟩ h⟩
  exact ⟨fun a => (h a).choose, fun a => (h a).choose_spec⟩

/-- A line at which a block of the class c begins, in a chunk that is assigned to it. -/
def AtR (R : Int → Int × Int) (C : Nat) (ln c : Int) : Prop := 16 ≤ ln ∧ ln < 16 + 16 * (C : Int) ∧ 0 ≤ c ∧ c ≤ 4 ∧ (ln - 16) % 2 ^ c.toNat = 0 ∧ R (112 + (ln - 16) / 16) = (c + 1, 0)
/-- What block answers at a line. -/
def blkR (R : Int → Int × Int) (ln c : Int) : Bk × Int := blkZ ln c (R (8 * ln)).1 (R (8 * ln)).2
def GoodB (R : Int → Int × Int) (C : Nat) (b : Bk) : Prop := AtR R C b.line b.cls ∧ blkR R b.line b.cls = (b, 0)
def BadL (R : Int → Int × Int) (C : Nat) (ln : Int) : Prop := ∃ c, AtR R C ln c ∧ (blkR R ln c).2 ≠ 0

/-- What is known of a block that Scan found. -/
theorem GoodB.parts {R : Int → Int × Int} {C : Nat} {b : Bk} (h : GoodB R C b) (hok : OkR (R (8 * b.line))) : 16 ≤ b.line ∧ b.line < 16 + 16 * (C : Int) ∧ 0 ≤ b.gen ∧ b.gen ≤ 1048575 ∧ (b.kind ≠ 0 → 1 ≤ b.gen) := by
  obtain ⟨⟨h1, h2, h3, h4, -, -⟩, h5⟩ := h
  refine ⟨h1, h2, ?_⟩
  unfold blkR blkZ at h5
  split at h5
  · split at h5
    · rename_i he hp
      have h0 : 0 ≤ (R (8 * b.line)).1 := by rcases hok with h | h <;> omega
      obtain ⟨p1, p2, p3⟩ := properZ_parts hp h0 h3 h4
      have hb := congrArg Prod.fst h5
      have hk : b.kind = (R (8 * b.line)).1 % 16 := (congrArg (fun x : Bk => x.2.2.1) hb).symm
      have hg : b.gen = (R (8 * b.line)).1 / 128 % 1048576 := (congrArg (fun x : Bk => x.2.2.2) hb).symm
      rw [hk, hg]
      omega
    · injection h5 with _ h5
      exact absurd h5 (by decide)
  · rename_i he
    injection h5 with _ h5
    exact absurd h5 he
theorem BadL.err {R : Int → Int × Int} {ln c : Int} (hok : OkR (R (8 * ln))) (h : (blkR R ln c).2 ≠ 0) : (blkR R ln c).2 = 3 ∨ (blkR R ln c).2 = 9 := by
  unfold blkR blkZ at h ⊢
  split at h
  · rename_i he
    rw [if_pos he]
    split at h
    · exact absurd rfl h
    · rename_i hp
      rw [if_neg hp]
      exact .inl rfl
  · rename_i he
    rw [if_neg he]
    rcases hok with h1 | h1
    · exact absurd h1.1 he
    · exact .inr h1.1

theorem own_grown {w w' : World} {r : Option Nat} {base : Nat} {t : TypeId} {size n : Nat} {v : Value} {ys : List Value} (ho : w.ownsRow base t size v n ys) (hgr : w.grownBy w' r) (hne : ∀ b, v.ownBlock = some b → r ≠ some b) : w'.ownsRow base t size v n ys := by
  refine ⟨ho.1, ?_⟩
  rcases ho.2 with hn | ⟨g, cap, cu, rfl, hbg, hg, rest⟩
  · exact .inl hn
  · exact .inr ⟨g, cap, cu, rfl, hbg, (hgr.block g (lt_of_heap hg) (fun h => hne g (by simp [Value.ownBlock]) h.symm)).trans hg, rest⟩
theorem own_parted {w : World} {base base' : Nat} {t t' : TypeId} {size n size' n' : Nat} {v v' : Value} {ys ys' : List Value} (h : w.ownsRow base t size v n ys) (h' : w.ownsRow base' t' size' v' n' ys') (hne : t ≠ t') : ∀ b, v.ownBlock = some b → v'.ownBlock ≠ some b := by
  intro b hb hb'
  rcases h.2 with ⟨rfl, _⟩ | ⟨g, cap, cu, rfl, hbg, hg, rest⟩
  · simp [Value.ownBlock] at hb
  · rcases h'.2 with ⟨rfl, _⟩ | ⟨g', cap', cu', rfl, hbg', hg', rest'⟩
    · simp [Value.ownBlock] at hb'
    · simp only [Value.ownBlock, Option.some.injEq] at hb hb'
      subst hb
      subst hb'
      rw [hg] at hg'
      injection hg' with hg'
      injection hg' with _ ht
      exact hne ht

/-- What Scan has made so far. -/
def ScG (w wr : World) (lL C : Int) (va vb ve : Value) (cs : List Int) (bs : List Bk) (bd : List Int) : Prop :=
  Cl wr w.heap.size 29 #[.int .i64 lL, .int .i64 2, .int .i64 8, .int .i64 10, .int .i64 4, .int .i64 14, .int .i64 16, .int .i64 C] ∧ Cl wr (w.heap.size + 1) 40 #[.slice none 0 0, .slice none 0 0, .slice none 0 0] ∧ Cl wr (w.heap.size + 1 + 1) 40 #[va, vb, ve] ∧
  wr.ownsRow w.heap.size 3 1 va cs.length (cs.map (Value.int .i64)) ∧ wr.ownsRow w.heap.size 43 4 vb bs.length (bksCells bs) ∧ wr.ownsRow w.heap.size 3 1 ve bd.length (bd.map (Value.int .i64)) ∧
  (∀ b, va.ownBlock = some b → ve.ownBlock ≠ some b) ∧ Below w.heap.size w wr
section
variable {w wr wq : World} {lL C : Int} {va vb ve : Value} {cs : List Int} {bs : List Bk} {bd : List Int}
theorem ScG.below (h : ScG w wr lL C va vb ve cs bs bd) (hb : Below wr.heap.size wr wq) : ScG w wq lL C va vb ve cs bs bd := by
  obtain ⟨h1, h2, h3, h4, h5, h6, h7, h8⟩ := h
  exact ⟨h1.below hb h1.lt, h2.below hb h2.lt, h3.below hb h3.lt, own_below h4 hb, own_below h5 hb, own_below h6 hb, h7, h8.trans (hb.mono h8.size)⟩
/-- A chunk more. -/
theorem ScG.chunk (h : ScG w wr lL C va vb ve cs bs bd) (x : Int) {gg c2 : Nat} (ho : wq.ownsRow w.heap.size 3 1 (.slice (some ⟨gg, 0, none⟩) (cs.length + 1) c2) (cs.length + 1) (cs.map (Value.int .i64) ++ [.int .i64 x])) (hg : wr.grownBy wq va.ownBlock)
    (hat : va.ownBlock = some gg ∨ gg = wr.heap.size) :
    ScG w (wq.setCell ⟨w.heap.size + 1 + 1, 0, none⟩ (.slice (some ⟨gg, 0, none⟩) (cs.length + 1) c2)) lL C (.slice (some ⟨gg, 0, none⟩) (cs.length + 1) c2) vb ve (cs ++ [x]) bs bd := by
  obtain ⟨h1, h2, h3, h4, h5, h6, h7, h8⟩ := h
  have a1 := own_ne h4 h1 (by decide)
  have a2 := own_ne h4 h2 (by decide)
  have a3 := own_ne h4 h3 (by decide)
  have k3 := h3.grown hg a3
  have hs := h8.size
  have l4 := h4.lt
  have l6 := h6.lt
  refine ⟨(h1.grown hg a1).far (by simp; omega) _, (h2.grown hg a2).far (by simp) _, k3.set_ 0 _, ?_, own_far (own_grown h5 hg (fun b hb => own_parted h5 h4 (by decide) b hb)) k3 (by decide) _ _, own_far (own_grown h6 hg (fun b hb hb' => h7 b hb' hb)) k3 (by decide) _ _, ?_, Below.setCell (h8.grown hg hs (fun q hq => (l4 q hq).1)) (by simp; omega) _⟩
  · rw [List.length_append, List.map_append]; exact own_far ho k3 (by decide) _ _
  · intro b hb hb'
    simp only [Value.ownBlock, Option.some.injEq] at hb
    subst hb
    rcases hat with hh | hh
    · exact h7 _ hh hb'
    · have := (l6 _ hb').2
      omega
/-- A block more. -/
theorem ScG.block (h : ScG w wr lL C va vb ve cs bs bd) (x : Bk) {gg c2 : Nat} (ho : wq.ownsRow w.heap.size 43 4 (.slice (some ⟨gg, 0, none⟩) (bs.length + 1) c2) (bs.length + 1) (bksCells bs ++ bkCells x)) (hg : wr.grownBy wq vb.ownBlock) :
    ScG w (wq.setCell ⟨w.heap.size + 1 + 1, 1, none⟩ (.slice (some ⟨gg, 0, none⟩) (bs.length + 1) c2)) lL C va (.slice (some ⟨gg, 0, none⟩) (bs.length + 1) c2) ve cs (bs ++ [x]) bd := by
  obtain ⟨h1, h2, h3, h4, h5, h6, h7, h8⟩ := h
  have a1 := own_ne h5 h1 (by decide)
  have a2 := own_ne h5 h2 (by decide)
  have a3 := own_ne h5 h3 (by decide)
  have k3 := h3.grown hg a3
  have hs := h8.size
  have l5 := h5.lt
  refine ⟨(h1.grown hg a1).far (by simp; omega) _, (h2.grown hg a2).far (by simp) _, k3.set_ 1 _, own_far (own_grown h4 hg (fun b hb => own_parted h4 h5 (by decide) b hb)) k3 (by decide) _ _, ?_, own_far (own_grown h6 hg (fun b hb => own_parted h6 h5 (by decide) b hb)) k3 (by decide) _ _, h7, Below.setCell (h8.grown hg hs (fun q hq => (l5 q hq).1)) (by simp; omega) _⟩
  rw [List.length_append, show bksCells (bs ++ [x]) = bksCells bs ++ bkCells x by simp [bksCells]]; exact own_far ho k3 (by decide) _ _
/-- A bad line more. -/
theorem ScG.bad (h : ScG w wr lL C va vb ve cs bs bd) (x : Int) {gg c2 : Nat} (ho : wq.ownsRow w.heap.size 3 1 (.slice (some ⟨gg, 0, none⟩) (bd.length + 1) c2) (bd.length + 1) (bd.map (Value.int .i64) ++ [.int .i64 x])) (hg : wr.grownBy wq ve.ownBlock)
    (hat : ve.ownBlock = some gg ∨ gg = wr.heap.size) :
    ScG w (wq.setCell ⟨w.heap.size + 1 + 1, 2, none⟩ (.slice (some ⟨gg, 0, none⟩) (bd.length + 1) c2)) lL C va vb (.slice (some ⟨gg, 0, none⟩) (bd.length + 1) c2) cs bs (bd ++ [x]) := by
  obtain ⟨h1, h2, h3, h4, h5, h6, h7, h8⟩ := h
  have a1 := own_ne h6 h1 (by decide)
  have a2 := own_ne h6 h2 (by decide)
  have a3 := own_ne h6 h3 (by decide)
  have k3 := h3.grown hg a3
  have hs := h8.size
  have l4 := h4.lt
  have l6 := h6.lt
  refine ⟨(h1.grown hg a1).far (by simp; omega) _, (h2.grown hg a2).far (by simp) _, k3.set_ 2 _, own_far (own_grown h4 hg (fun b hb => h7 b hb)) k3 (by decide) _ _, own_far (own_grown h5 hg (fun b hb => own_parted h5 h6 (by decide) b hb)) k3 (by decide) _ _, ?_, ?_, Below.setCell (h8.grown hg hs (fun q hq => (l6 q hq).1)) (by simp; omega) _⟩
  · rw [List.length_append, List.map_append]; exact own_far ho k3 (by decide) _ _
  · intro b hb hb'
    simp only [Value.ownBlock, Option.some.injEq] at hb'
    subst hb'
    rcases hat with hh | hh
    · exact h7 _ hb hh
    · have := (l4 _ hb).2
      omega
end
/-- A row that lies beside: the first lines of a chunk. -/
def RowL (wr : World) (vl ve : Value) (ls : List Int) : Prop := wr.ownsRow 0 3 1 vl ls.length (ls.map (Value.int .i64)) ∧ ∀ b, vl.ownBlock = some b → ve.ownBlock ≠ some b
section
variable {w wr wq : World} {lL C : Int} {va vb ve vl : Value} {cs : List Int} {bs : List Bk} {bd ls : List Int}
theorem RowL.below (h : RowL wr vl ve ls) (hb : Below wr.heap.size wr wq) : RowL wq vl ve ls := ⟨own_below h.1 hb, h.2⟩
theorem RowL.block (h : RowL wr vl ve ls) (hs : ScG w wr lL C va vb ve cs bs bd) (hg : wr.grownBy wq vb.ownBlock) (u : Value) : RowL (wq.setCell ⟨w.heap.size + 1 + 1, 1, none⟩ u) vl ve ls := by
  obtain ⟨h1, h2, h3, h4, h5, h6, h7, h8⟩ := hs
  exact ⟨own_far (own_grown h.1 hg (fun b hb => own_parted h.1 h5 (by decide) b hb)) (h3.grown hg (own_ne h5 h3 (by decide))) (by decide) _ _, h.2⟩
theorem RowL.bad (h : RowL wr vl ve ls) (hs : ScG w wr lL C va vb ve cs bs bd) (hg : wr.grownBy wq ve.ownBlock) {gg c2 m : Nat} (hat : ve.ownBlock = some gg ∨ gg = wr.heap.size) (u : Value) : RowL (wq.setCell ⟨w.heap.size + 1 + 1, 2, none⟩ u) vl (.slice (some ⟨gg, 0, none⟩) m c2) ls := by
  obtain ⟨h1, h2, h3, h4, h5, h6, h7, h8⟩ := hs
  refine ⟨own_far (own_grown h.1 hg (fun b hb => h.2 b hb)) (h3.grown hg (own_ne h6 h3 (by decide))) (by decide) _ _, ?_⟩
  intro b hb hb'
  simp only [Value.ownBlock, Option.some.injEq] at hb'
  subst hb'
  rcases hat with hh | hh
  · exact h.2 _ hb hh
  · have := (h.1.lt _ hb).2
    omega
/-- The row's elements, as a walk asks for them. -/
theorem RowL.at {A : Option Addr} {n c : Nat} (h : RowL wr (.slice A n c) ve ls) {j : Nat} {x : Int} (hj : ls[j]? = some x) : ∃ g, A = some ⟨g, 0, none⟩ ∧ g < wr.heap.size ∧ wr.cell? ⟨g, j, none⟩ = some (.int .i64 x) := by
  rcases h.1.2 with ⟨_, h0⟩ | ⟨g, cap, cu, hv, _, hg, _, _, _, htk⟩
  · rw [List.length_eq_zero_iff] at h0
    rw [h0] at hj
    simp at hj
  · injection hv with hA _ _
    refine ⟨g, hA, lt_of_heap hg, ?_⟩
    have hlt : j < ls.length := (List.getElem?_eq_some_iff.1 hj).1
    have e : (ls.map (Value.int .i64))[j]? = some (.int .i64 x) := by rw [List.getElem?_map, hj]; rfl
    rw [← htk, List.getElem?_take, if_pos (by omega)] at e
    have hc : Cl wr g 3 cu := hg
    rw [hc.cell j]
    simpa using e
end
end Go.Proofs.YtckamjbdogpacaaGreatDoor
