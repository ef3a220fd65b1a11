/-
  Load and State of a memory of any content: Load answers what hangs on the memory alone.
  note, put, Store and Publish over a memory of any content.
-/
import Derived.Test.YtckamjbdogpacaaGreatDoorGMemA
namespace Go.Proofs.YtckamjbdogpacaaGreatDoor
open Go.RowKit
set_option linter.unusedSimpArgs false
set_option linter.unusedVariables false

theorem MemG.line {base : Nat} {F : Nat → Prop} {w : World} {gm L : Nat} {D : Nat → Nat → Int} {C : Nat → Int} {P : Nat → List (Nat × Int)} {E : Nat} (hM : MemG base F w gm L D C P E) {n : Nat} (hn : n < L) :
    ∃ gl A c, LineG w gl n (D n) (C n) (.slice A (P n).length c) ∧ Rd w 137 2 (.slice A (P n).length c) (P n).length (stCells (P n)) ∧ (P n).length ≤ E ∧ StIn (P n) ∧ WIn (D n) ∧ w.cell? ⟨gm, 0, none⟩ = some (.slice (some ⟨gl, 0, none⟩) L L) ∧ L ≤ 200 := by
  obtain ⟨gl, gb, cur, sp, Ae, ne, ce, xs, es, ck, _, _, _, hL200, hG, hLn, hZ, hP, -, -, -, -⟩ := hM
  obtain ⟨v, m, hv, _, _, ho, hl, hs⟩ := hP n hn
  obtain ⟨A, c, rfl⟩ := (Rd.own ho).form
  have m0 := hG.cell 0
  simp only [List.getElem?_toArray, List.getElem?_cons_zero] at m0
  exact ⟨gl, A, c, LineG.of hLn hZ hn hv, Rd.own ho, hl, hs, (hZ.2 n hn).1, m0, hL200⟩

/-- What Load answers. -/
def ldX (f' : Nat → Int) (e : Int) (ps : List (Nat × Int)) (r : Nat) : Int := if e = 0 then shB f' ps r else 0
def ldE (e : Int) : Int := if e = 0 then 0 else 9

set_option maxRecDepth 100000 in
set_option maxHeartbeats 2000000 in
theorem loadG_calls (base : Nat) (F : Nat → Prop) (w : World) (gm L n r : Nat) (at' : Int) (T f' : Nat → Int) (er : Int) (D : Nat → Nat → Int) (C : Nat → Int) (P : Nat → List (Nat × Int)) (E : Nat) (hM : MemG base F w gm L D C P E) (hE : E ≤ 1000) (hT : Tb w T) (hdb : Db w) (hn : n < L) (h0 : 0 ≤ at') (h1 : at' ≤ 100000) (h8 : at' / 8 = (n : Int)) (hr : at' % 8 = (r : Int))
    (hF : FixTo T (D n) (C n) f' er) :
    Calls Tryz.prog 42 #[.pointer (some ⟨gm, 0, none⟩), .int .i64 at'] w fun e w' => e = .returned (.tuple #[.int .i64 (ldX f' er (P n) r), .int .i64 (ldE er)]) ∧ Below w.heap.size w w' := by
  obtain ⟨gl, A, c, hL, hR, hl, hs, hWn, m0, hL200⟩ := hM.line hn
  have hr8 : r < 8 := by omega
  have l9 := hL.2
  have HS := Lib.hid (fun w' (hb : Below w.heap.size w w') => shows_any w' T (D n) f' (C n) er gl n A c (P n) (P n).length hF (hT.below hb) (hdb.below hb) (hL.below hb) (hR.below hb) (Nat.le_refl _) (by omega) hs)
  rw [List.take_length] at HS
  have hhas : hasB (n : Int) L = true := by simp [hasB]; omega
  clear hF hM
  go_enter Tryz.func42, Tryz.ntmps42
  go_wp2_with fail
  refine (has_calls _ gm L (n : Int) _ _ m0 hL200).mono ?_
  rintro e w1 ⟨rfl, rfl⟩
  rw [hhas]
  go_wp2_with fail
  refine (HS.out _ (by (repeat (first | with_reducible exact Below.refl _ _ | with_reducible assumption | with_reducible refine below_drewN ?_ _ | with_reducible refine Below.drew ?_ | with_reducible refine Below.alloc ?_ (by first | omega | (simp; omega) | simp) _ | with_reducible refine Below.setCell ?_ (by first | omega | (simp; omega) | simp) _)))).mono ?_
  rintro e w2 ⟨rfl, hb2⟩
  have hs2 := hb2.size
  have gw := ((Cl.new w2 67 #[.int .i64 ((shF f' er (P n)) 0), .int .i64 ((shF f' er (P n)) 1), .int .i64 ((shF f' er (P n)) 2), .int .i64 ((shF f' er (P n)) 3), .int .i64 ((shF f' er (P n)) 4), .int .i64 ((shF f' er (P n)) 5), .int .i64 ((shF f' er (P n)) 6), .int .i64 ((shF f' er (P n)) 7)]).cell r).trans (w8_get _ _ hr8)
  by_cases her : er = 0
  · subst her
    have HX : Hid (ldX f' 0 (P n) r = shF f' 0 (P n) r) := by show _ = _; simp [ldX, shF]
    have HE : Hid (ldE 0 = 0) := rfl
    generalize shF f' 0 (P n) = g at *
    go_wp2_with fail
    go_ret2
    exact ⟨by rw [HX.out, HE.out]; rfl, by (repeat (first | with_reducible exact Below.refl _ _ | with_reducible assumption | with_reducible refine below_drewN ?_ _ | with_reducible refine Below.drew ?_ | with_reducible refine Below.alloc ?_ (by first | omega | (simp; omega) | simp) _ | with_reducible refine Below.setCell ?_ (by first | omega | (simp; omega) | simp) _))⟩
  · have HX : Hid (ldX f' er (P n) r = 0) := by show _ = _; simp [ldX, her]
    have HE : Hid (ldE er = 9) := by show _ = _; simp [ldE, her]
    have ber : (er != 0) = true := by simp [her]
    clear her
    generalize shF f' er (P n) = g at *
    go_wp2_with fail
    go_ret2
    exact ⟨by rw [HX.out, HE.out]; rfl, by (repeat (first | with_reducible exact Below.refl _ _ | with_reducible assumption | with_reducible refine below_drewN ?_ _ | with_reducible refine Below.drew ?_ | with_reducible refine Below.alloc ?_ (by first | omega | (simp; omega) | simp) _ | with_reducible refine Below.setCell ?_ (by first | omega | (simp; omega) | simp) _))⟩

set_option maxRecDepth 100000 in
set_option maxHeartbeats 2000000 in
theorem stateG_calls (base : Nat) (F : Nat → Prop) (w : World) (gm L n : Nat) (T : Nat → Int) (D : Nat → Nat → Int) (C : Nat → Int) (P : Nat → List (Nat × Int)) (E : Nat) (hM : MemG base F w gm L D C P E) (hT : Tb w T) (hdb : Db w) (hn : n < L) :
    Calls Tryz.prog 50 #[.pointer (some ⟨gm, 0, none⟩), .int .i64 (n : Int)] w fun e w' => (∃ st, e = .returned (.int .i64 st)) ∧ Below w.heap.size w w' := by
  obtain ⟨gl, A, c, hL, hR, hl, hs, hWn, m0, hL200⟩ := hM.line hn
  obtain ⟨st, wd, bt, hck, -⟩ := check_det T (D n) (C n) hWn
  have HCK := Lib.hid hck
  have hhas : hasB (n : Int) L = true := by simp [hasB]; omega
  obtain ⟨⟨l0, l1, l2, l3, l4, l5, l6, l7, l8⟩, -⟩ := hL
  have hgl : gl < w.heap.size := World.block_lt_of_cell? w _ l0
  have hgm : gm < w.heap.size := World.block_lt_of_cell? w _ m0
  have hnn : n < L := hn
  generalize D n = f at *
  generalize C n = cd at *
  have HT := Lib.hid hT
  have HDB := Lib.hid hdb
  clear hM hck hR hs hWn hT hdb
  go_enter Tryz.func50, Tryz.ntmps50
  go_wp2_with fail
  refine (has_calls _ gm L (n : Int) _ _ m0 hL200).mono ?_
  rintro e w1 ⟨rfl, rfl⟩
  rw [hhas]
  go_wp2_with fail
  go_region_held3 (fun w' => w'.cell? ⟨gm, 0, none⟩ = some (.slice (some ⟨gl, 0, none⟩) L L) ∧ w'.cell? ⟨gl, n * 11, none⟩ = some (.int .i64 (f 0)) ∧ w'.cell? ⟨gl, n * 11 + 1, none⟩ = some (.int .i64 (f 1)) ∧ w'.cell? ⟨gl, n * 11 + 2, none⟩ = some (.int .i64 (f 2)) ∧ w'.cell? ⟨gl, n * 11 + 3, none⟩ = some (.int .i64 (f 3)) ∧ w'.cell? ⟨gl, n * 11 + 4, none⟩ = some (.int .i64 (f 4)) ∧ w'.cell? ⟨gl, n * 11 + 5, none⟩ = some (.int .i64 (f 5)) ∧ w'.cell? ⟨gl, n * 11 + 6, none⟩ = some (.int .i64 (f 6)) ∧ w'.cell? ⟨gl, n * 11 + 7, none⟩ = some (.int .i64 (f 7)) ∧ w'.cell? ⟨gl, n * 11 + 8, none⟩ = some (.int .i64 cd)) (go_keep)
    (first | (go_at_call 81; refine (HCK.out _ (HT.out.below (by (repeat (first | with_reducible exact Below.refl _ _ | with_reducible assumption | with_reducible refine below_drewN ?_ _ | with_reducible refine Below.drew ?_ | with_reducible refine Below.alloc ?_ (by first | omega | (simp; omega) | simp) _ | with_reducible refine Below.setCell ?_ (by first | omega | (simp; omega) | simp) _)))) (HDB.out.below (by (repeat (first | with_reducible exact Below.refl _ _ | with_reducible assumption | with_reducible refine below_drewN ?_ _ | with_reducible refine Below.drew ?_ | with_reducible refine Below.alloc ?_ (by first | omega | (simp; omega) | simp) _ | with_reducible refine Below.setCell ?_ (by first | omega | (simp; omega) | simp) _))))).mono ?_; rintro e wa ⟨rfl, ba0⟩; (have ba : Below w.heap.size w wa := (by first | exact below_of_drew ba0 | exact ba0)); (have em := (ba.cell (p := ⟨gm, 0, none⟩) hgm).trans m0); (have e0 := (ba.cell (p := ⟨gl, n * 11, none⟩) hgl).trans l0); (have e1 := (ba.cell (p := ⟨gl, n * 11 + 1, none⟩) hgl).trans l1); (have e2 := (ba.cell (p := ⟨gl, n * 11 + 2, none⟩) hgl).trans l2); (have e3 := (ba.cell (p := ⟨gl, n * 11 + 3, none⟩) hgl).trans l3); (have e4 := (ba.cell (p := ⟨gl, n * 11 + 4, none⟩) hgl).trans l4); (have e5 := (ba.cell (p := ⟨gl, n * 11 + 5, none⟩) hgl).trans l5); (have e6 := (ba.cell (p := ⟨gl, n * 11 + 6, none⟩) hgl).trans l6); (have e7 := (ba.cell (p := ⟨gl, n * 11 + 7, none⟩) hgl).trans l7); (have e8 := (ba.cell (p := ⟨gl, n * 11 + 8, none⟩) hgl).trans l8); (have sa := ba.size)))
  go_wp2_with fail
  go_ret
  exact ⟨⟨st, rfl⟩, ba⟩

/-- The memory's loader answers x and e at an address, in every world that has only grown. -/
def LdG (w : World) (g : Nat) (a x e : Int) : Prop := ∀ w', Below w.heap.size w w' → Calls Tryz.prog 42 #[.pointer (some ⟨g, 0, none⟩), .int .i64 a] w' fun en w'' => en = .returned (.tuple #[.int .i64 x, .int .i64 e]) ∧ Below w'.heap.size w' w''
theorem LdG.below {w w' : World} {g : Nat} {a x e : Int} (h : LdG w g a x e) (hb : Below w.heap.size w w') : LdG w' g a x e := fun w'' h' => h w'' (hb.trans (h'.mono hb.size))
/-- Every address of a memory has an answer: a word, or the error of rot. -/
theorem LdG.some {base : Nat} {F : Nat → Prop} {w : World} {gm L : Nat} {T : Nat → Int} {D : Nat → Nat → Int} {C : Nat → Int} {P : Nat → List (Nat × Int)} {E : Nat} (hM : MemG base F w gm L D C P E) (hE : E ≤ 1000) (hT : Tb w T) (hdb : Db w) (a : Int) (h0 : 0 ≤ a) (h1 : a < 8 * L) :
    ∃ x e, LdG w gm a x e ∧ ((e = 0 ∧ 0 ≤ x ∧ x ≤ 1099511627775) ∨ (e = 9 ∧ x = 0)) := by
  obtain ⟨n, hn⟩ : ∃ n : Nat, a / 8 = n := ⟨(a / 8).toNat, by omega⟩
  obtain ⟨r, hr⟩ : ∃ r : Nat, a % 8 = r := ⟨(a % 8).toNat, by omega⟩
  have hnL : n < L := by omega
  obtain ⟨gl, A, c, hL, hR, hl, hs, hWn, m0, hL200⟩ := hM.line hnL
  obtain ⟨f', er, -, hF⟩ := fix_det T (D n) (C n) hWn
  refine ⟨_, _, fun w' hb => loadG_calls base F w' gm L n r a T f' er D C P E (hM.below hb) hE (hT.below hb) (hdb.below hb) hnL h0 (by omega) hn hr hF, ?_⟩
  by_cases her : er = 0
  · have := (hF.1.shB hs) r (by omega)
    exact .inl ⟨by simp [ldE, her], by simp only [ldX, if_pos her]; exact this.1, by simp only [ldX, if_pos her]; exact this.2⟩
  · exact .inr ⟨by simp [ldE, her], by simp [ldX, her]⟩
end Go.Proofs.YtckamjbdogpacaaGreatDoor

namespace Go.Proofs.YtckamjbdogpacaaGreatDoor
open Go.RowKit
set_option linter.unusedSimpArgs false
set_option linter.unusedVariables false

def NoteG (base : Nat) (F : Nat → Prop) (w : World) (gm L : Nat) (D : Nat → Nat → Int) (C : Nat → Int) (P : Nat → List (Nat × Int)) (E : Nat) (w' : World) : Prop := MemG base F w' gm L D C P (E + 1) ∧ GrewF base F w w'
def StoreG (base : Nat) (F : Nat → Prop) (w : World) (gm L : Nat) (D : Nat → Nat → Int) (C : Nat → Int) (P : Nat → List (Nat × Int)) (E : Nat) (w' : World) : Prop := MemG base F w' gm L D C P E ∧ GrewF base F w w'
/-- A store behind the words and the code. -/
theorem LnG.set9 {cur : Array Value} {L : Nat} {D : Nat → Nat → Int} {C : Nat → Int} {k : Nat} (h : LnG cur L D C) (u : Value) (hk : ∀ i, i < L → k ≠ i * 11 + 8 ∧ ∀ j, j < 8 → k ≠ i * 11 + j) : LnG (cur.setIfInBounds k u) L D C := by
  refine ⟨by simpa using h.1, fun i hi => ?_⟩
  obtain ⟨h1, h2, h3⟩ := h.2 i hi
  refine ⟨h1, fun j hj => ?_, ?_⟩
  · rw [Array.getElem?_setIfInBounds_ne ((hk i hi).2 j hj)]; exact h2 j hj
  · rw [Array.getElem?_setIfInBounds_ne (hk i hi).1]; exact h3

theorem notedG {base : Nat} {F : Nat → Prop} {w wn w1 : World} {gm L : Nat} {D : Nat → Nat → Int} {C : Nat → Int} {P : Nat → List (Nat × Int)} {sp : Int} {E gl gb gg cap : Nat} {cur : Array Value} {Ae : Option Addr} {ne ce : Nat} {ys : List Value} {es : Array MapEntry} {ck : Nat}
    (g1 : base ≤ gm) (g2 : base ≤ gl) (g3 : base ≤ gb) (hL : L ≤ 200) (hG : Cl w gm 92 #[.slice (some ⟨gl, 0, none⟩) L L, .map (some gb), .int .i64 sp, .slice Ae ne ce]) (hLn : Cl w gl 88 cur)
    (hZ : LnG cur L D C) (hP : PeG w base cur L P E) (hA : ApartP cur L ∧ OwnF F gm gl gb (.slice Ae ne ce) cur L) (hne : ne ≤ E) (hB : w.heap[gb]? = some (.map es ck)) (hK : KeysG es ck L) (hbel : Below w.heap.size w wn) {xs : List Value} (hEvn : wn.ownsRow base 111 12 (.slice Ae ne ce) ne xs) (hgrow : wn.grownBy w1 (Value.slice Ae ne ce).ownBlock) (hfg : F gg)
    (hown : w1.ownsRow base 111 12 (.slice (some ⟨gg, 0, none⟩) (ne + 1) cap) (ne + 1) ys) :
    NoteG base F w gm L D C P E (w1.setCell ⟨gm, 3, none⟩ (.slice (some ⟨gg, 0, none⟩) (ne + 1) cap)) := by
  have hgr := Grew.of_grown hEvn hgrow
  have hG1 := hgr.cl (hG.below hbel hG.lt) (.inl (by decide))
  have hL1 := hgr.cl (hLn.below hbel hLn.lt) (.inl (by decide))
  have hB1 := hgr.map ((hbel.block gb (lt_of_heap hB)).trans hB)
  refine ⟨⟨gl, gb, cur, sp, some ⟨gg, 0, none⟩, ne + 1, cap, ys, es, ck, g1, g2, g3, hL, hG1.set_ 3 _, hL1.far (Cl.apart hL1 hG1 (by decide)) _, hZ, fun i hi => ?_, ⟨hA.1, hA.2.ev hfg⟩, own_far hown hG1 (by decide) _ _, by omega, map_far hB1 hG1 _, hK⟩, ?_⟩
  · obtain ⟨v, m, a, b, c, d, e1, e2⟩ := hP i hi
    exact ⟨v, m, a, b, c, own_far (hgr.own (own_below d hbel) (by decide)) hG1 (by decide) _ _, by omega, e2⟩
  · exact ((GrewF.of_below hbel).trans (GrewF.of_grown hEvn hgrow (by decide) hA.2.2.2.2.1)).trans (GrewF.set hG1 g1 hA.2.1 (by decide) _ _)

set_option maxRecDepth 100000 in
set_option maxHeartbeats 2000000 in
theorem noteG_calls (base : Nat) (F : Nat → Prop) (w : World) (gm L : Nat) (D : Nat → Nat → Int) (C : Nat → Int) (P : Nat → List (Nat × Int)) (E : Nat) (hM : MemG base F w gm L D C P E) (hE : E ≤ 10000) (hU : Up F w.heap.size) (e0 e1 e2 e3 : Int) (f : Nat → Int) :
    Calls Tryz.prog 45 #[.pointer (some ⟨gm, 0, none⟩), .agg #[.int .i64 e0, .int .i64 e1, .int .i64 e2, .int .i64 e3, .int .i64 (f 0), .int .i64 (f 1), .int .i64 (f 2), .int .i64 (f 3), .int .i64 (f 4), .int .i64 (f 5), .int .i64 (f 6), .int .i64 (f 7)]] w fun e w' => e = .returned (.tuple #[]) ∧ NoteG base F w gm L D C P E w' := by
  obtain ⟨i0, hi0, hz0, hz1, hz2⟩ := info_parts ev_info
  obtain ⟨gl, gb, cur, sp, Ae, ne, ce, xs, es, ck, g1, g2, g3, hL200, hG, hLn, hZ, hP, hA, hEv, hne, hB, hK⟩ := hM
  have m3 := hG.cell 3
  have f3 := hG.free 3
  simp only [List.getElem?_toArray, List.getElem?_cons_succ, List.getElem?_cons_zero] at m3
  have hgm := hG.lt
  go_enter Tryz.func45, Tryz.ntmps45
  go_wp2_with fail
  generalize hwn : w.alloc (.cells #[.int .i64 e0, .int .i64 e1, .int .i64 e2, .int .i64 e3, .int .i64 (f 0), .int .i64 (f 1), .int .i64 (f 2), .int .i64 (f 3), .int .i64 (f 4), .int .i64 (f 5), .int .i64 (f 6), .int .i64 (f 7)] 111) = wn
  have hEb : Cl wn w.heap.size 111 #[.int .i64 e0, .int .i64 e1, .int .i64 e2, .int .i64 e3, .int .i64 (f 0), .int .i64 (f 1), .int .i64 (f 2), .int .i64 (f 3), .int .i64 (f 4), .int .i64 (f 5), .int .i64 (f 6), .int .i64 (f 7)] := by rw [← hwn]; exact Cl.new _ _ _
  have hAn : Below w.heap.size w wn := by rw [← hwn]; (repeat (first | with_reducible exact Below.refl _ _ | with_reducible assumption | with_reducible refine below_drewN ?_ _ | with_reducible refine Below.drew ?_ | with_reducible refine Below.alloc ?_ (by first | omega | (simp; omega) | simp) _ | with_reducible refine Below.setCell ?_ (by first | omega | (simp; omega) | simp) _))
  clear hwn
  have hGn := hG.below hAn hG.lt
  have hLnn := hLn.below hAn hLn.lt
  have hEvn := own_below hEv hAn
  have m3n := hGn.cell 3
  have f3n := hGn.free 3
  have v0 := hEb.cell 0
  have v1 := hEb.cell 1
  have v2 := hEb.cell 2
  have v3 := hEb.cell 3
  have v4 := hEb.cell 4
  have v5 := hEb.cell 5
  have v6 := hEb.cell 6
  have v7 := hEb.cell 7
  have v8 := hEb.cell 8
  have v9 := hEb.cell 9
  have v10 := hEb.cell 10
  have v11 := hEb.cell 11
  simp only [List.getElem?_toArray, List.getElem?_cons_succ, List.getElem?_cons_zero] at m3n v0 v1 v2 v3 v4 v5 v6 v7 v8 v9 v10 v11
  have hgn := hGn.lt
  have hen := hEb.lt
  have ag : some gm ≠ (Value.slice Ae ne ce).ownBlock := own_ne hEv hG (by decide)
  have ae : some w.heap.size ≠ (Value.slice Ae ne ce).ownBlock := fun h => by have := (hEv.lt _ h.symm).2; omega
  have hbs : base ≤ w.heap.size := by omega
  clear m3 f3
  go_region_law
    ((refine step_append_lies _ (by rfl) _ _ _ (by rfl) base 111 i0 _ 12 96 Tryz.underlying90 hi0 hz0 hz1 hz2 rfl (by omega) (.slice Ae ne ce) ne xs (by rfl) ((hEvn.alloc _).drew)
        ⟨wn.heap.size, 0, none⟩ 1 1 #[.int .i64 e0, .int .i64 e1, .int .i64 e2, .int .i64 e3, .int .i64 (f 0), .int .i64 (f 1), .int .i64 (f 2), .int .i64 (f 3), .int .i64 (f 4), .int .i64 (f 5), .int .i64 (f 6), .int .i64 (f 7)].toList (by rfl) (by rfl) (World.news_of_block (cs := #[.int .i64 e0, .int .i64 e1, .int .i64 e2, .int .i64 e3, .int .i64 (f 0), .int .i64 (f 1), .int .i64 (f 2), .int .i64 (f 3), .int .i64 (f 4), .int .i64 (f 5), .int .i64 (f 6), .int .i64 (f 7)]) (t := 111) (fr := (0, 0)) (heap_alloc_new wn _)) (by simp [Value.oneCell'])
        (by omega) (by unfold maxLen; omega) (by omega) (by simp; omega) (wn.heap.size + 1) (by simp) ?_; intro gg cap w1 hown1 hgrow hat hlt; (have hGw := Cl.grown ((hGn.alloc _).drew) hgrow ag); (have c3w : w1.cell? ⟨gm, 3, none⟩ = some (.slice Ae ne ce) := hGw.cell 3); (have f3w := hGw.free 3); (have lgw := hGw.lt)))
  all_goals
    go_wp2_with fail
    go_end0
    have hsz := hAn.size
    exact ⟨rfl, notedG g1 g2 g3 hL200 hG hLn hZ hP hA hne hB hK (by (repeat (first | with_reducible exact Below.refl _ _ | with_reducible assumption | with_reducible refine below_drewN ?_ _ | with_reducible refine Below.drew ?_ | with_reducible refine Below.alloc ?_ (by first | omega | (simp; omega) | simp) _ | with_reducible refine Below.setCell ?_ (by first | omega | (simp; omega) | simp) _))) ((hEvn.alloc _).drew) hgrow (by rcases hat with h | h; exact hA.2.2.2.2.1 gg h; exact hU gg (by omega)) hown1⟩


def wordB (v : Int) : Bool := decide (0 ≤ v ∧ v ≤ 1099511627775)
set_option maxHeartbeats 400000 in
theorem mword_calls (w : World) (v : Int) : Calls Tryz.prog 79 #[.int .i64 v] w fun e w' => e = .returned (.bool (wordB v)) ∧ w = w' := by
  by_cases h0 : 0 ≤ v
  · by_cases h1 : v ≤ 1099511627775
    · have HR : Hid (wordB v = true) := decide_eq_true ⟨h0, h1⟩
      have b1 : decide (v ≤ 1099511627775) = true := decide_eq_true h1
      go_enter Tryz.func79, Tryz.ntmps79
      go_wp2
      go_ret
      exact ⟨by rw [HR.out, ← b1]; rfl, rfl⟩
    · have HR : Hid (wordB v = false) := decide_eq_false (by omega)
      have b1 : decide (v ≤ 1099511627775) = false := decide_eq_false h1
      go_enter Tryz.func79, Tryz.ntmps79
      go_wp2
      go_ret
      exact ⟨by rw [HR.out, ← b1]; rfl, rfl⟩
  · have HR : Hid (wordB v = false) := decide_eq_false (by omega)
    go_enter Tryz.func79, Tryz.ntmps79
    go_wp2
    go_ret
    exact ⟨by rw [HR.out]; rfl, rfl⟩

theorem KeysG.keys {es : Array MapEntry} {ck L : Nat} (h : KeysG es ck L) : ∀ x ∈ es.toList, MapKept.IsKey (.int .i64) x.key := fun x hx => by
  obtain ⟨n, _, hn⟩ := h.1 x hx
  rw [hn]
  simp [MapKept.IsKey]
/-- The entries that are left, by their births, are fewer or the same. -/
def Fewer (es es' : Array MapEntry) : Prop := (es'.toList.map (·.born)).Sublist (es.toList.map (·.born))
theorem modify_born (es : Array MapEntry) (i : Nat) (f : MapEntry → MapEntry) (hb : ∀ e, (f e).born = e.born) : (es.modify i f).toList.map (·.born) = es.toList.map (·.born) := by
  apply List.ext_getElem?
  intro j
  simp only [List.getElem?_map, Array.getElem?_toList, Array.getElem?_modify]
  by_cases hij : i = j
  · subst hij
    cases he : es[i]? with
    | none => simp
    | some e => simp [hb e]
  · simp [hij]
/-- The busy lines: one more is noted. -/
theorem run_busyG {w : World} {gb L : Nat} {es : Array MapEntry} {ck : Nat} (n : Nat) (hn : n < L) (hb : w.heap[gb]? = some (.map es ck)) (hK : KeysG es ck L) :
    ∃ es' ck' w', (Instr.mapUpdate 89 (.map (some gb)) (.int .i64 (n : Int)) (.bool true)).run Tryz.prog w = .ok () w' ∧ w'.heap[gb]? = some (.map es' ck') ∧ KeysG es' ck' L ∧
      w'.os = w.os ∧ w'.tape = w.tape ∧ w'.output = w.output ∧ w'.heap.size = w.heap.size ∧ (∀ g, g ≠ gb → w'.heap[g]? = w.heap[g]?) ∧ ((∀ x ∈ es.toList, x.key ≠ .int .i64 (n : Int)) ∨ (ck' = ck ∧ Fewer es es')) := by
  have hks := hK.keys
  have hk : MapKept.IsKey (.int .i64) (.int .i64 (n : Int)) := by simp [MapKept.IsKey]
  rcases MapKept.findNow_spec hk es.toList 0 hks with ⟨h1, hno⟩ | ⟨j, e, h1, h2, h3⟩
  · refine ⟨es.push { key := .int .i64 (n : Int), val := .bool true, born := ck }, ck + 1, { w with heap := w.heap.setIfInBounds gb (.map (es.push { key := .int .i64 (n : Int), val := .bool true, born := ck }) (ck + 1)) }, ?_, (MapKept.heap_set hb).1, ⟨?_, MapKept.stamped_push hK.2 hno⟩, rfl, rfl, rfl, by simp, fun g hg => (MapKept.heap_set hb).2 g hg, .inl hno⟩
    · simp [Instr.mapUpdate, run_underlying Tryz.underlying89, MapKept.run_getObj_map hb, MapKept.run_checkKey Tryz.underlying3 hk, MapKept.run_findKey Tryz.underlying3 h1, MapKept.run_setObj_map _ hb, Result.andThen]
    · intro x hx
      simp only [Array.toList_push, List.mem_append, List.mem_singleton] at hx
      rcases hx with hx | rfl
      · exact hK.1 x hx
      · exact ⟨n, hn, rfl⟩
  · have hj : es[j]? = some e := by simpa using h2
    refine ⟨es.modify j fun e => { e with key := .int .i64 (n : Int), val := .bool true }, ck, { w with heap := w.heap.setIfInBounds gb (.map (es.modify j fun e => { e with key := .int .i64 (n : Int), val := .bool true }) ck) }, ?_, (MapKept.heap_set hb).1, ⟨?_, MapKept.stamped_modify hK.2 _ _ (fun _ _ => rfl) (fun e' _ he' => ?_)⟩, rfl, rfl, rfl, by simp, fun g hg => (MapKept.heap_set hb).2 g hg, .inr ⟨rfl, by unfold Fewer; rw [modify_born es j (fun e => { e with key := .int .i64 (n : Int), val := .bool true }) (fun _ => rfl)]; exact List.Sublist.refl _⟩⟩
    · simp [Instr.mapUpdate, run_underlying Tryz.underlying89, MapKept.run_getObj_map hb, MapKept.run_checkKey Tryz.underlying3 hk, MapKept.run_findKey Tryz.underlying3 h1, hj, h3, MapKept.run_keyThatStays hk, MapKept.run_setObj_map _ hb, Result.andThen]
    · intro x hx
      obtain ⟨i, hi, rfl⟩ := List.mem_iff_getElem.1 hx
      have hi' : i < es.size := by simpa using hi
      simp only [Array.getElem_toList, Array.getElem_modify]
      split
      · exact ⟨n, hn, rfl⟩
      · exact hK.1 _ (by simp)
    · rw [hj] at he'
      injection he' with he'
      rw [← he', h3]

/-- The busy lines: one is struck out. -/
theorem run_dropG {w : World} {gb L : Nat} {es : Array MapEntry} {ck : Nat} (n : Nat) (hb : w.heap[gb]? = some (.map es ck)) (hK : KeysG es ck L) (ty : TypeId) :
    ∃ es' w', (Builtin.delete_ #[89, 3] ty #[.map (some gb), .int .i64 (n : Int)]).run Tryz.prog w = .ok (.tuple #[]) w' ∧ w'.heap[gb]? = some (.map es' ck) ∧ KeysG es' ck L ∧
      w'.os = w.os ∧ w'.tape = w.tape ∧ w'.output = w.output ∧ w'.heap.size = w.heap.size ∧ (∀ g, g ≠ gb → w'.heap[g]? = w.heap[g]?) ∧ Fewer es es' := by
  have hks := hK.keys
  have hk : MapKept.IsKey (.int .i64) (.int .i64 (n : Int)) := by simp [MapKept.IsKey]
  rcases MapKept.findNow_spec hk es.toList 0 hks with ⟨h1, hno⟩ | ⟨j, e, h1, h2, h3⟩
  · refine ⟨es, { w with heap := w.heap.setIfInBounds gb (.map es ck) }, ?_, (MapKept.heap_set hb).1, hK, rfl, rfl, rfl, by simp, fun g hg => (MapKept.heap_set hb).2 g hg, List.Sublist.refl _⟩
    simp [Builtin.delete_, run_underlying Tryz.underlying89, MapKept.run_getObj_map hb, MapKept.run_checkKey Tryz.underlying3 hk, MapKept.run_findKey Tryz.underlying3 h1, MapKept.run_setObj_map _ hb, Result.andThen]
  · have hsub : (es.eraseIdxIfInBounds j).toList.Sublist es.toList := by
      unfold Array.eraseIdxIfInBounds
      split
      · simp only [Array.toList_eraseIdx]; exact List.eraseIdx_sublist _ _
      · exact List.Sublist.refl _
    refine ⟨es.eraseIdxIfInBounds j, { w with heap := w.heap.setIfInBounds gb (.map (es.eraseIdxIfInBounds j) ck) }, ?_, (MapKept.heap_set hb).1, ⟨fun x hx => hK.1 x (hsub.subset hx), MapKept.stamped_erase hK.2 _⟩, rfl, rfl, rfl, by simp, fun g hg => (MapKept.heap_set hb).2 g hg, hsub.map _⟩
    simp [Builtin.delete_, run_underlying Tryz.underlying89, MapKept.run_getObj_map hb, MapKept.run_checkKey Tryz.underlying3 hk, MapKept.run_findKey Tryz.underlying3 h1, MapKept.run_setObj_map _ hb, Result.andThen]

theorem storedG {base : Nat} {F : Nat → Prop} {w wn w1 : World} {gm L n : Nat} {D : Nat → Nat → Int} {C : Nat → Int} {P : Nat → List (Nat × Int)} {sp : Int} {E gl gb gg cap : Nat} {cur : Array Value} {Ae : Option Addr} {ne ce : Nat} {xs : List Value} {es : Array MapEntry} {ck : Nat} {x : Nat × Int} {v : Value} {m : Nat}
    (g1 : base ≤ gm) (g2 : base ≤ gl) (g3 : base ≤ gb) (hL : L ≤ 200) (hG : Cl w gm 92 #[.slice (some ⟨gl, 0, none⟩) L L, .map (some gb), .int .i64 sp, .slice Ae ne ce]) (hLn : Cl w gl 88 cur)
    (hZ : LnG cur L D C) (hP : PeG w base cur L P E) (hA : ApartP cur L ∧ OwnF F gm gl gb (.slice Ae ne ce) cur L) (hEv : w.ownsRow base 111 12 (.slice Ae ne ce) ne xs) (hne : ne ≤ E) (hB : w.heap[gb]? = some (.map es ck)) (hK : KeysG es ck L)
    (hn : n < L) (hv : cur[n * 11 + 9]? = some v) (hmk : cur[n * 11 + 10]? = some (.int .i64 (m : Int))) (hmm : m ≤ (P n).length) (hxs : StIn (P n)) (hx1 : x.1 < 8) (hx2 : 0 ≤ x.2) (hx3 : x.2 ≤ 1099511627775) (hrow : w.ownsRow base 137 2 v (P n).length (stCells (P n))) (hlen : (P n).length ≤ E)
    (hbel : Below w.heap.size w wn) (hgr : wn.grownBy w1 v.ownBlock) (hown : w1.ownsRow base 137 2 (.slice (some ⟨gg, 0, none⟩) ((P n).length + 1) cap) ((P n).length + 1) (stCells (P n) ++ [.int .i64 (x.1 : Int), .int .i64 x.2]))
    (hat : v.ownBlock = some gg ∨ w.heap.size ≤ gg) (hU : Up F w.heap.size) :
    StoreG base F w gm L D C (upd P n x) (E + 1) (w1.setCell ⟨gl, n * 11 + 9, none⟩ (.slice (some ⟨gg, 0, none⟩) ((P n).length + 1) cap)) := by
  have hrown := own_below hrow hbel
  have hfg : F gg := by
    rcases hat with h | h
    · exact hA.2.2.2.2.2 n hn v hv gg h
    · exact hU gg h
  have hgw := Grew.of_grown hrown hgr
  have hG1 := hgw.cl (hG.below hbel hG.lt) (.inl (by decide))
  have hL1 := hgw.cl (hLn.below hbel hLn.lt) (.inl (by decide))
  have hB1 := hgw.map ((hbel.block gb (lt_of_heap hB)).trans hB)
  have hE1 := hgw.own (own_below hEv hbel) (by decide)
  have hsz : n * 11 + 9 < cur.size := by rw [hZ.1]; omega
  refine ⟨⟨gl, gb, _, sp, Ae, ne, ce, xs, es, ck, g1, g2, g3, hL, hG1.far (Cl.apart hG1 hL1 (by decide)) _, hL1.set_ _ _, hZ.set9 _ (fun i hi => ?_), fun i hi => ?_, ⟨?_, hA.2.set _ _ (.inr (fun b hb => by simp only [Value.ownBlock, Option.some.injEq] at hb; exact hb ▸ hfg))⟩, own_far hE1 hL1 (by decide) _ _, by omega, map_far hB1 hL1 _, hK⟩, ?_⟩
  · exact ⟨by omega, fun j hj => by omega⟩
  · by_cases hin : i = n
    · subst hin
      refine ⟨_, m, Array.getElem?_setIfInBounds_self_of_lt hsz, ?_, ?_, ?_, ?_, ?_⟩
      · rw [Array.getElem?_setIfInBounds_ne (by omega)]; exact hmk
      · rw [upd_self, List.length_append]; omega
      · rw [upd_self, stCells_snoc, List.length_append]
        exact own_far hown hL1 (by decide) _ _
      · rw [upd_self, List.length_append]; simp; exact hlen
      · rw [upd_self]
        intro p hp
        rcases List.mem_append.1 hp with hp | hp
        · exact hxs p hp
        · rw [List.mem_singleton] at hp
          rw [hp]
          exact ⟨hx1, hx2, hx3⟩
    · obtain ⟨v', m', a, b, bm, c, d, d2⟩ := hP i hi
      refine ⟨v', m', ?_, ?_, ?_, ?_, ?_, ?_⟩
      · rw [Array.getElem?_setIfInBounds_ne (by omega)]; exact a
      · rw [Array.getElem?_setIfInBounds_ne (by omega)]; exact b
      · rw [upd_ne x hin]; exact bm
      · rw [upd_ne x hin]
        exact own_far (own_apart (own_below c hbel) hgr (fun bb hbb hvb => hA.1 i n hi hn hin v' v a hv bb hbb hvb)) hL1 (by decide) _ _
      · rw [upd_ne x hin]; omega
      · rw [upd_ne x hin]; exact d2
  · have hgg : ∀ i v', i < L → i ≠ n → cur[i * 11 + 9]? = some v' → v'.ownBlock ≠ some gg := by
      intro i v' hi hin hv' hbb
      rcases hat with h | h
      · exact hA.1 i n hi hn hin v' v hv' hv gg hbb h
      · obtain ⟨v2, m2, a, _, _, c, _, _⟩ := hP i hi
        rw [a] at hv'
        injection hv' with hv'
        subst hv'
        have := (c.lt gg hbb).2
        omega
    intro i j hi hj hij v1 v2 h1 h2 b hb hb2
    by_cases hin : i = n
    · subst hin
      rw [Array.getElem?_setIfInBounds_self_of_lt hsz] at h1
      injection h1 with h1
      subst h1
      rw [Array.getElem?_setIfInBounds_ne (by omega)] at h2
      simp only [Value.ownBlock, Option.some.injEq] at hb
      subst hb
      exact hgg j v2 hj (Ne.symm hij) h2 hb2
    · rw [Array.getElem?_setIfInBounds_ne (by omega)] at h1
      by_cases hjn : j = n
      · subst hjn
        rw [Array.getElem?_setIfInBounds_self_of_lt hsz] at h2
        injection h2 with h2
        subst h2
        simp only [Value.ownBlock, Option.some.injEq] at hb2
        subst hb2
        exact hgg i v1 hi hin h1 hb
      · rw [Array.getElem?_setIfInBounds_ne (by omega)] at h2
        exact hA.1 i j hi hj hij v1 v2 h1 h2 b hb hb2
  · exact ((GrewF.of_below hbel).trans (GrewF.of_grown hrown hgr (by decide) (hA.2.2.2.2.2 n hn v hv))).trans (GrewF.set hL1 g2 hA.2.2.1 (by decide) _ _)

/-- One more busy line is noted. -/
theorem busiedG {base : Nat} {F : Nat → Prop} {w w' : World} {gm L : Nat} {D : Nat → Nat → Int} {C : Nat → Int} {P : Nat → List (Nat × Int)} {sp : Int} {E gl gb : Nat} {cur : Array Value} {Ae : Option Addr} {ne ce : Nat} {xs : List Value} {es es' : Array MapEntry} {ck ck' : Nat}
    (g1 : base ≤ gm) (g2 : base ≤ gl) (g3 : base ≤ gb) (hL : L ≤ 200) (hG : Cl w gm 92 #[.slice (some ⟨gl, 0, none⟩) L L, .map (some gb), .int .i64 sp, .slice Ae ne ce]) (hLn : Cl w gl 88 cur)
    (hZ : LnG cur L D C) (hP : PeG w base cur L P E) (hA : ApartP cur L ∧ OwnF F gm gl gb (.slice Ae ne ce) cur L) (hEv : w.ownsRow base 111 12 (.slice Ae ne ce) ne xs) (hne : ne ≤ E) (hB : w.heap[gb]? = some (.map es ck))
    (hB' : w'.heap[gb]? = some (.map es' ck')) (hK' : KeysG es' ck' L) (o1 : w'.os = w.os) (o2 : w'.tape = w.tape) (o3 : w'.output = w.output) (o4 : w'.heap.size = w.heap.size) (o5 : ∀ g, g ≠ gb → w'.heap[g]? = w.heap[g]?) :
    StoreG base F w gm L D C P E w' := by
  have cl : ∀ {g : Nat} {t : TypeId} {cs : Array Value}, Cl w g t cs → Cl w' g t cs := by
    intro g t cs h
    refine (o5 g ?_).trans h
    rintro rfl
    unfold Cl at h
    rw [hB] at h
    cases h
  have own : ∀ {e : TypeId} {size n : Nat} {v : Value} {ys : List Value}, w.ownsRow base e size v n ys → w'.ownsRow base e size v n ys := by
    intro e size n v ys h
    refine ⟨h.1, ?_⟩
    rcases h.2 with hn | ⟨g, cap, cu, rfl, hbg, hg, rest⟩
    · exact .inl hn
    · exact .inr ⟨g, cap, cu, rfl, hbg, cl (t := e) hg, rest⟩
  refine ⟨⟨gl, gb, cur, sp, Ae, ne, ce, xs, es', ck', g1, g2, g3, hL, cl hG, cl hLn, hZ, fun i hi => ?_, hA, own hEv, hne, hB', hK'⟩, ⟨o1, o2, o3, by omega, fun g hg => ?_⟩, fun g hg => ?_⟩
  · obtain ⟨v, m, a, b, c, d, e2⟩ := hP i hi
    exact ⟨v, m, a, b, c, own d, e2⟩
  · by_cases hgb : g = gb
    · subst hgb
      exact .inr ⟨g3, .inr ⟨es, ck, hB⟩⟩
    · exact .inl (o5 g hgb)
  · by_cases hgb : g = gb
    · subst hgb
      exact .inr hA.2.2.2.1
    · exact .inl (o5 g hgb)

/-- A memory of some content. -/
def MemW (base : Nat) (F : Nat → Prop) (w : World) (gm L E : Nat) : Prop := ∃ D C P, MemG base F w gm L D C P E
theorem MemW.below {base : Nat} {F : Nat → Prop} {w w' : World} {gm L E : Nat} (h : MemW base F w gm L E) (hb : Below w.heap.size w w') : MemW base F w' gm L E := by
  obtain ⟨D, C, P, h⟩ := h
  exact ⟨D, C, P, h.below hb⟩
theorem MemG.mono {base : Nat} {F : Nat → Prop} {w : World} {gm L : Nat} {D : Nat → Nat → Int} {C : Nat → Int} {P : Nat → List (Nat × Int)} {E E' : Nat} (h : MemG base F w gm L D C P E) (hE : E ≤ E') : MemG base F w gm L D C P E' := by
  obtain ⟨gl, gb, cur, sp, Ae, ne, ce, xs, es, ck, h1, h2, h3, h4, hM, hL, hZ, hP, hA, hEv, hn, hB, hK⟩ := h
  refine ⟨gl, gb, cur, sp, Ae, ne, ce, xs, es, ck, h1, h2, h3, h4, hM, hL, hZ, fun i hi => ?_, hA, hEv, by omega, hB, hK⟩
  obtain ⟨v, m, a, b, c, d, e1, e2⟩ := hP i hi
  exact ⟨v, m, a, b, c, d, by omega, e2⟩
theorem MemW.mono {base : Nat} {F : Nat → Prop} {w : World} {gm L E E' : Nat} (h : MemW base F w gm L E) (hE : E ≤ E') : MemW base F w gm L E' := by
  obtain ⟨D, C, P, h⟩ := h
  exact ⟨D, C, P, h.mono hE⟩
/-- The tables that are read, which lie below the memory. -/
def Gx (base : Nat) (w : World) (T : Nat → Int) : Prop := Tb w T ∧ Db w ∧ 1 < base ∧ 4 < base
theorem Gx.below {base : Nat} {w w' : World} {T : Nat → Int} (h : Gx base w T) (hb : Below w.heap.size w w') : Gx base w' T := ⟨h.1.below hb, h.2.1.below hb, h.2.2⟩
theorem GrewM.low {base : Nat} {w w' : World} (h : GrewM base w w') {g : Nat} (hg : g < base) (hw : g < w.heap.size) : w'.heap[g]? = w.heap[g]? := by
  rcases h.2.2.2.2 g hw with h1 | ⟨h1, _⟩
  · exact h1
  · omega
theorem cell_of_heap {w w' : World} {g : Nat} (h : w'.heap[g]? = w.heap[g]?) (o : Nat) : w'.cell? ⟨g, o, none⟩ = w.cell? ⟨g, o, none⟩ := by simp [World.cell?, h]
theorem Gx.grew {base : Nat} {F : Nat → Prop} {w w' : World} {T : Nat → Int} (h : Gx base w T) (hg : GrewF base F w w') : Gx base w' T := by
  obtain ⟨h1, h2, h3, h4⟩ := h
  exact ⟨fun k hk => (cell_of_heap (hg.1.low h3 h1.lt) k).trans (h1 k hk), fun k hk => (cell_of_heap (hg.1.low h4 h2.lt) k).trans (h2 k hk), h3, h4⟩

/-- A call on the memory has returned some error number; the memory is a memory still. -/
def CallW (base : Nat) (F : Nat → Prop) (w : World) (gm L E : Nat) (e : Ending) (w' : World) : Prop := (∃ r, e = .returned (.int .i64 r)) ∧ MemW base F w' gm L E ∧ GrewF base F w w'

end Go.Proofs.YtckamjbdogpacaaGreatDoor
