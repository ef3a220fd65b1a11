/-
  class.Scan over a memory of any content.
-/
import Derived.Test.YtckamjbdogpacaaGreatDoorGFol
import Derived.Test.YtckamjbdogpacaaGreatDoorGSt
import Derived.Test.YtckamjbdogpacaaGreatDoorGiven
namespace Go.Proofs.YtckamjbdogpacaaGreatDoor
open Go.RowKit
set_option linter.unusedSimpArgs false
set_option linter.unusedVariables false

/-- Scan, at the head of the outer loop. -/
def OutRel (w : World) (lL : Int) (C : Nat) (R : Int → Int × Int) (i : Value) (wr : World) : Prop := ∃ k : Nat, k ≤ C ∧ i = .int .i64 (k : Int) ∧ ∃ va vb ve cs bs bd, ScG w wr lL (C : Int) va vb ve cs bs bd ∧ cs.length = k ∧ bs.length + bd.length ≤ 16 * k ∧ (∀ b ∈ bs, GoodB R C b) ∧ ∀ l ∈ bd, BadL R C l
/-- Scan, at the head of the inner loop. -/
def InRel (w : World) (lL : Int) (C : Nat) (R : Int → Int × Int) (k : Nat) (ls : List Int) (va vl : Value) (cs : List Int) (i : Value) (wr : World) : Prop := ∃ j : Nat, j ≤ ls.length ∧ i = .int .i64 (j : Int) ∧ ∃ vb ve bs bd, ScG w wr lL (C : Int) va vb ve cs bs bd ∧ RowL wr vl ve ls ∧ bs.length + bd.length ≤ 16 * k + j ∧ (∀ b ∈ bs, GoodB R C b) ∧ ∀ l ∈ bd, BadL R C l
def ScanPost (w : World) (R : Int → Int × Int) (C : Nat) (e : Ending) (w' : World) : Prop := ∃ cs bs bd, PicOne w cs bs bd e w' ∧ bs.length ≤ 80 ∧ bd.length ≤ 80 ∧ (∀ b ∈ bs, GoodB R C b) ∧ ∀ l ∈ bd, BadL R C l
theorem snoc_all {α : Type} {P : α → Prop} {l : List α} {x : α} (h : ∀ b ∈ l, P b) (hx : P x) : ∀ b ∈ l ++ [x], P b := by
  intro b hb
  rcases List.mem_append.1 hb with h1 | h1
  · exact h b h1
  · rw [List.mem_singleton.1 h1]; exact hx
theorem ScG.forms {w wr : World} {lL C : Int} {va vb ve : Value} {cs : List Int} {bs : List Bk} {bd : List Int} (h : ScG w wr lL C va vb ve cs bs bd) : ∃ A ca B cb V cv, va = .slice A cs.length ca ∧ vb = .slice B bs.length cb ∧ ve = .slice V bd.length cv := by
  obtain ⟨-, -, -, h4, h5, h6, -, -⟩ := h
  obtain ⟨A, ca, e1⟩ := (Rd.own h4).form
  obtain ⟨B, cb, e2⟩ := (Rd.own h5).form
  obtain ⟨V, cv, e3⟩ := (Rd.own h6).form
  exact ⟨A, ca, B, cb, V, cv, e1, e2, e3⟩

/-- Behind an append, ahead of the store of the new slice: chunks, blocks, bad lines. -/
theorem ScG.chunk_at {w wr wa wq : World} {lL C : Int} {va vb ve : Value} {cs : List Int} {bs : List Bk} {bd : List Int} (h : ScG w wr lL C va vb ve cs bs bd) (x : Int) {gg c2 H : Nat} (hb : Below wr.heap.size wr wa) (ho : wq.ownsRow w.heap.size 3 1 (.slice (some ⟨gg, 0, none⟩) (cs.length + 1) c2) (cs.length + 1) (cs.map (Value.int .i64) ++ [.int .i64 x])) (hg : wa.grownBy wq va.ownBlock)
    (hat : va.ownBlock = some gg ∨ gg = H) (hH : wa.heap.size = H) :
    wq.cell? ⟨w.heap.size + 1 + 1, 0, none⟩ = some va ∧ wq.frozen? ⟨w.heap.size + 1 + 1, 0, none⟩ = false ∧ w.heap.size + 1 + 1 < wq.heap.size ∧ Hid (ScG w (wq.setCell ⟨w.heap.size + 1 + 1, 0, none⟩ (.slice (some ⟨gg, 0, none⟩) (cs.length + 1) c2)) lL C (.slice (some ⟨gg, 0, none⟩) (cs.length + 1) c2) vb ve (cs ++ [x]) bs bd) := by
  have h' := h.below hb
  have k := Cl.grown h'.2.2.1 hg (own_ne h'.2.2.2.1 h'.2.2.1 (by decide))
  exact ⟨k.cell 0, k.free 0, k.lt, ScG.chunk h' x ho hg (by rw [hH]; exact hat)⟩
theorem ScG.block_at {w wr wa wq : World} {lL C : Int} {va vb ve vl : Value} {cs ls : List Int} {bs : List Bk} {bd : List Int} (h : ScG w wr lL C va vb ve cs bs bd) (hr : RowL wr vl ve ls) (x : Bk) {gg c2 : Nat} (hb : Below wr.heap.size wr wa) (ho : wq.ownsRow w.heap.size 43 4 (.slice (some ⟨gg, 0, none⟩) (bs.length + 1) c2) (bs.length + 1) (bksCells bs ++ bkCells x)) (hg : wa.grownBy wq vb.ownBlock) :
    wq.cell? ⟨w.heap.size + 1 + 1, 1, none⟩ = some vb ∧ wq.frozen? ⟨w.heap.size + 1 + 1, 1, none⟩ = false ∧ w.heap.size + 1 + 1 < wq.heap.size ∧ Hid (ScG w (wq.setCell ⟨w.heap.size + 1 + 1, 1, none⟩ (.slice (some ⟨gg, 0, none⟩) (bs.length + 1) c2)) lL C va (.slice (some ⟨gg, 0, none⟩) (bs.length + 1) c2) ve cs (bs ++ [x]) bd ∧
      RowL (wq.setCell ⟨w.heap.size + 1 + 1, 1, none⟩ (.slice (some ⟨gg, 0, none⟩) (bs.length + 1) c2)) vl ve ls) := by
  have h' := h.below hb
  have k := Cl.grown h'.2.2.1 hg (own_ne h'.2.2.2.2.1 h'.2.2.1 (by decide))
  exact ⟨k.cell 1, k.free 1, k.lt, ScG.block h' x ho hg, RowL.block (hr.below hb) h' hg _⟩
theorem ScG.bad_at {w wr wa wq : World} {lL C : Int} {va vb ve vl : Value} {cs ls : List Int} {bs : List Bk} {bd : List Int} (h : ScG w wr lL C va vb ve cs bs bd) (hr : RowL wr vl ve ls) (x : Int) {gg c2 H : Nat} (hb : Below wr.heap.size wr wa) (ho : wq.ownsRow w.heap.size 3 1 (.slice (some ⟨gg, 0, none⟩) (bd.length + 1) c2) (bd.length + 1) (bd.map (Value.int .i64) ++ [.int .i64 x])) (hg : wa.grownBy wq ve.ownBlock)
    (hat : ve.ownBlock = some gg ∨ gg = H) (hH : wa.heap.size = H) :
    wq.cell? ⟨w.heap.size + 1 + 1, 2, none⟩ = some ve ∧ wq.frozen? ⟨w.heap.size + 1 + 1, 2, none⟩ = false ∧ w.heap.size + 1 + 1 < wq.heap.size ∧ Hid (ScG w (wq.setCell ⟨w.heap.size + 1 + 1, 2, none⟩ (.slice (some ⟨gg, 0, none⟩) (bd.length + 1) c2)) lL C va vb (.slice (some ⟨gg, 0, none⟩) (bd.length + 1) c2) cs bs (bd ++ [x]) ∧
      RowL (wq.setCell ⟨w.heap.size + 1 + 1, 2, none⟩ (.slice (some ⟨gg, 0, none⟩) (bd.length + 1) c2)) vl (.slice (some ⟨gg, 0, none⟩) (bd.length + 1) c2) ls) := by
  have h' := h.below hb
  have k := Cl.grown h'.2.2.1 hg (own_ne h'.2.2.2.2.2.1 h'.2.2.1 (by decide))
  exact ⟨k.cell 2, k.free 2, k.lt, ScG.bad h' x ho hg (by rw [hH]; exact hat), RowL.bad (hr.below hb) h' hg (by rw [hH]; exact hat) _⟩

set_option maxRecDepth 100000 in
set_option maxHeartbeats 8000000 in
theorem scanG_calls (w : World) (gm L C : Nat) (lL : Int) (R : Int → Int × Int) (hC : C ≤ 5) (hLC : 16 + 16 * C ≤ L) (hR : AllR w gm L R) (hd : Hd w) :
    Calls Tryz.prog 6 #[.pointer (some ⟨gm, 0, none⟩), .agg #[.int .i64 lL, .int .i64 2, .int .i64 8, .int .i64 10, .int .i64 4, .int .i64 14, .int .i64 16, .int .i64 (C : Int)]] w (ScanPost w R C) := by
  obtain ⟨j0, hj0, hy0, hy1, hy2⟩ := info_parts int_info
  obtain ⟨i0, hi0, hz0, hz1, hz2⟩ := info_parts blk_info
  have HR := Lib.hid hR
  have HD := Lib.hid hd
  clear hd hR
  have n5 : ¬ w.heap.size = w.heap.size + 1 + 1 := by omega
  have n6 : ¬ w.heap.size + 1 + 1 = w.heap.size := by omega
  go_enter Tryz.func6, Tryz.ntmps6
  go_upto_region 2 with (fail)
  generalize hwn : ((w.alloc (.cells #[.int .i64 lL, .int .i64 2, .int .i64 8, .int .i64 10, .int .i64 4, .int .i64 14, .int .i64 16, .int .i64 (C : Int)] 29)).alloc (.cells #[.slice none 0 0, .slice none 0 0, .slice none 0 0] 40)).alloc (.cells #[.slice none 0 0, .slice none 0 0, .slice none 0 0] 40) = w0
  have hs : ScG w w0 lL (C : Int) (.slice none 0 0) (.slice none 0 0) (.slice none 0 0) [] [] [] := by
    rw [← hwn]
    exact ⟨((Cl.new _ _ _).alloc _).alloc _, (Cl.new_ _ _ _ _ (by simp)).alloc _, Cl.new_ _ _ _ _ (by simp), World.ownsRow_nil _ _ _ _, World.ownsRow_nil _ _ _ _, World.ownsRow_nil _ _ _ _, fun b hb => by simp [Value.ownBlock] at hb, by (repeat (first | with_reducible exact Below.refl _ _ | with_reducible assumption | with_reducible refine below_drewN ?_ _ | with_reducible refine Below.drew ?_ | with_reducible refine Below.alloc ?_ (by first | omega | (simp; omega) | simp) _ | with_reducible refine Below.setCell ?_ (by first | omega | (simp; omega) | simp) _))⟩
  clear hwn
  obtain ⟨hL, hZ, hP, hO, hQ, hV, hX, hB⟩ := id hs
  obtain ⟨y0, y1, y2, y3, y4, y5, y6, y7⟩ := hL.cells8
  have p0 := hP.cell 0
  have p1 := hP.cell 1
  have p2 := hP.cell 2
  simp only [List.getElem?_toArray, List.getElem?_cons_succ, List.getElem?_cons_zero] at p0 p1 p2
  have ll := hL.lt
  have lp := hP.lt
  have lb := hB.size
  go_wp2_with fail
  go_loopw [6, 7, 8, 10, 11, 12, 16] (fun _ _ _ _ _ _ i wr => OutRel w lL C R i wr) (fun _ _ _ _ _ _ i _ => C - (intOf i).toNat)
  case atStart => exact ⟨0, Nat.zero_le _, rfl, _, _, _, _, _, _, hs, rfl, Nat.zero_le _, by simp, by simp⟩
  case round =>
    clear hs hL hZ hP hO hQ hV hX hB y0 y1 y2 y3 y4 y5 y6 y7 p0 p1 p2 ll lp lb
    obtain ⟨k, hk, rfl, va, vb, ve, cs, bs, bd, hs, hcs, hbd, hgb, hgl⟩ := hrel
    obtain ⟨A, ca, B, cb, V, cv, rfl, rfl, rfl⟩ := hs.forms
    have HGB := Lib.hid hgb
    have HGL := Lib.hid hgl
    have HBD := Lib.hid hbd
    have HCS := Lib.hid hcs
    have csl : cs.length ≤ 5 := by omega
    clear hgb hgl hbd hcs
    by_cases hlt : k < C
    · have ki0 : (0 : Int) ≤ (k : Int) := by omega
      have ki1 : (k : Int) < (C : Int) := by omega

      obtain ⟨hL, hZ, hP, hO, hQ, hV, hX, hB⟩ := id hs
      obtain ⟨y0, y1, y2, y3, y4, y5, y6, y7⟩ := hL.cells8
      have p0 := hP.cell 0
      have p1 := hP.cell 1
      have p2 := hP.cell 2
      simp only [List.getElem?_toArray, List.getElem?_cons_succ, List.getElem?_cons_zero] at p0 p1 p2
      have ll := hL.lt
      have lp := hP.lt
      have lb := hB.size
      go_wp2_with fail
      have hr := (HR.out.below hB) (112 + (k : Int)) (by omega) (by omega)
      obtain ⟨hr1, hr2⟩ := hr
      refine (AssignedG _ gm lL (C : Int) (k : Int) _ _ ki0 ki1 (by omega) hr1 (by rcases hr2 with h | h <;> omega) (by rcases hr2 with h | h <;> omega)).mono ?_
      rintro e w1 ⟨rfl, hb⟩
      have HASG : Hid (∀ cz : Int, 0 ≤ cz → asgZ (R (112 + (k : Int))).1 (R (112 + (k : Int))).2 = (cz, 0) → R (112 + (k : Int)) = (cz + 1, 0)) := by
        show _
        intro cz hcz h
        unfold asgZ at h
        by_cases h0 : (R (112 + (k : Int))).2 = 0
        · rw [if_pos h0] at h
          by_cases h5 : 5 < (R (112 + (k : Int))).1
          · rw [if_pos h5] at h
            injection h with _ h
            exact absurd h (by decide)
          · rw [if_neg h5] at h
            injection h with h _
            exact Prod.ext (by show (R (112 + (k : Int))).1 = cz + 1; omega) h0
        · rw [if_neg h0] at h
          injection h with _ h
          exact absurd h h0
      have hrange : (asgZ (R (112 + (k : Int))).1 (R (112 + (k : Int))).2).2 = 0 → -1 ≤ (asgZ (R (112 + (k : Int))).1 (R (112 + (k : Int))).2).1 ∧ (asgZ (R (112 + (k : Int))).1 (R (112 + (k : Int))).2).1 ≤ 4 := by
        intro h
        unfold asgZ at h ⊢
        split at h
        · split at h
          · exact absurd h (by decide)
          · rename_i h0 h5
            rw [if_pos h0, if_neg h5]
            rcases hr2 with hr2 | hr2 <;> simp <;> omega
        · rename_i h0
          exact absurd h h0
      clear hr1 hr2
      obtain ⟨r, hr⟩ : ∃ r, r = asgZ (R (112 + (k : Int))).1 (R (112 + (k : Int))).2 := ⟨_, rfl⟩
      rw [← hr] at HASG hrange ⊢
      clear hr
      obtain ⟨az, ae⟩ := r
      simp only at hrange
      have HRG := Lib.hid hrange
      replace hs := hs.below hb
      clear hrange
      clear hL hZ hP hO hQ hV hX hB y0 y1 y2 y3 y4 y5 y6 y7 p0 p1 p2 ll lp lb hb
      go_upto_if 27 with (fail)
      go_cut [7] (fun c wx => ∃ cz : Int, c = .int .i64 cz ∧ -2 ≤ cz ∧ cz ≤ 4 ∧ (0 ≤ cz → R (112 + (k : Int)) = (cz + 1, 0)) ∧ wx = w1)
      case first =>
        by_cases he : ae = 0
        · have hq := HRG.out he
          have be : (ae != 0) = false := by simp [he]
          have HE := Lib.hid he
          clear he
          go_wp2_with fail
          go_meet
          exact ⟨az, rfl, by omega, by omega, fun h => HASG.out az h (by rw [HE.out]), rfl⟩
        · have be : (ae != 0) = true := by simp [he]
          clear he
          go_wp2_with fail
          go_meet
          exact ⟨-2, rfl, by omega, by omega, fun h => absurd h (by omega), rfl⟩
      case rest =>
        obtain ⟨cz, rfl, hcz2, hz4, hzR, hw⟩ := hcut
        subst hw
        have HZR := Lib.hid hzR
        clear hzR HASG HRG

        obtain ⟨hL, hZ, hP, hO, hQ, hV, hX, hB⟩ := id hs
        obtain ⟨y0, y1, y2, y3, y4, y5, y6, y7⟩ := hL.cells8
        have p0 := hP.cell 0
        have p1 := hP.cell 1
        have p2 := hP.cell 2
        simp only [List.getElem?_toArray, List.getElem?_cons_succ, List.getElem?_cons_zero] at p0 p1 p2
        have ll := hL.lt
        have lp := hP.lt
        have lb := hB.size
        go_upto_region 9 with (at_builtin; refine wpList_append_lies _ rfl _ _ _ (by rfl) w.heap.size 3 j0 _ 1 8 Tryz.underlying37 hj0 hy0 hy1 hy2 rfl (by omega) (.slice A cs.length ca) cs.length (cs.map (Value.int .i64)) (by rfl) (hO.alloc _) ⟨wc.heap.size, 0, none⟩ 1 1 [.int .i64 cz] (by rfl) (by rfl) (World.news_of_block (cs := #[.int .i64 cz]) (t := 3) (fr := (0, 0)) (heap_alloc_new _ _)) (by simp [Value.oneCell']) (by omega) (by unfold maxLen; omega) (by omega) (by first | omega | (simp; omega) | simp) (wc.heap.size + 1) (by simp) ?_; intro gg c2 wq ownq grq hatq hltq; obtain ⟨k0, k1, k2, hq⟩ := ScG.chunk_at hs cz (Below.alloc (Below.refl _ _) (Nat.le_refl _) _) ownq grq hatq (by simp))
        clear ownq grq k0 k1 k2 hatq hltq hs
        have hs : ScG w _ lL (C : Int) _ _ _ (cs ++ [cz]) bs bd := hq.out
        clear hq
        obtain ⟨w3, hw3⟩ : ∃ x, x = wq.setCell ⟨w.heap.size + 1 + 1, 0, none⟩ (.slice (some ⟨gg, 0, none⟩) (cs.length + 1) c2) := ⟨_, rfl⟩
        rw [← hw3] at hs ⊢
        clear hw3
        clear hL hZ hP hO hQ hV hX hB y0 y1 y2 y3 y4 y5 y6 y7 p0 p1 p2 ll lp lb
        obtain ⟨hL, hZ, hP, hO, hQ, hV, hX, hB⟩ := id hs
        obtain ⟨y0, y1, y2, y3, y4, y5, y6, y7⟩ := hL.cells8
        have p0 := hP.cell 0
        have p1 := hP.cell 1
        have p2 := hP.cell 2
        simp only [List.getElem?_toArray, List.getElem?_cons_succ, List.getElem?_cons_zero] at p0 p1 p2
        have ll := hL.lt
        have lp := hP.lt
        have lb := hB.size
        go_wp2_with fail
        refine (ostarts_calls _ lL k C cz hlt hC hcz2 hz4).mono ?_
        rintro e w4 ⟨Ax, cx, rfl, hrow, hb⟩
        have hls16 := lsOf_length k cz hz4
        have HMEM := Lib.hid (fun ln (h : ln ∈ lsOf k cz) => lsOf_mem hz4 h)
        generalize lsOf k cz = ls at *
        have hrl : RowL w4 (.slice Ax ls.length cx) (.slice V bd.length cv) ls := ⟨own_base hrow (Nat.zero_le _), fun b hb2 hb3 => by
          have e1 := (hrow.lt b hb2).1
          have e2 := (hV.lt b hb3).2
          omega⟩
        replace hs := hs.below hb
        clear hrow
        clear hL hZ hP hO hQ hV hX hB y0 y1 y2 y3 y4 y5 y6 y7 p0 p1 p2 ll lp lb hb
        obtain ⟨va, hva⟩ : ∃ x, x = Value.slice (some ⟨gg, 0, none⟩) (cs.length + 1) c2 := ⟨_, rfl⟩
        rw [← hva] at hs
        clear hva
        have HIN : Hid (InRel w lL C R k ls va (.slice Ax ls.length cx) (cs ++ [cz]) (.int .i64 0) w4) := ⟨0, Nat.zero_le _, rfl, _, _, _, _, hs, hrl, HBD.out, HGB.out, HGL.out⟩
        clear hs hrl HGB HGL HBD
        go_wp2_with fail
        go_loopw [10, 11, 12, 39] (fun _ _ _ i wr => InRel w lL C R k ls va (.slice Ax ls.length cx) (cs ++ [cz]) i wr) (fun _ _ _ i _ => ls.length - (intOf i).toNat)
        case atStart => exact HIN.out
        case round =>
          clear HIN
          obtain ⟨j, hj, rfl, vb, ve, bs, bd, hs, hrl, hbd, hgb, hgl⟩ := hrel
          obtain ⟨A', ca', B, cb, V, cv, rfl, rfl, rfl⟩ := hs.forms
          have HGB := Lib.hid hgb
          have HGL := Lib.hid hgl
          have HBD := Lib.hid hbd
          have HRL := Lib.hid hrl
          have bsl : bs.length ≤ 100 := by omega
          have bdl : bd.length ≤ 100 := by omega
          clear hgb hgl hbd
          by_cases hjl : j < ls.length
          · obtain ⟨ln, hln⟩ : ∃ x, ls[j]? = some x := ⟨_, List.getElem?_eq_getElem hjl⟩
            obtain ⟨gx, rfl, hgx, hxc⟩ := hrl.at hln
            obtain ⟨m0, m1, m2, m3⟩ := HMEM.out ln (List.mem_of_getElem? hln)
            have hat : AtR R C ln cz := ⟨by omega, by omega, m0, hz4, m3, by rw [show (ln - 16) / 16 = (k : Int) by omega]; exact HZR.out m0⟩
            have HAT := Lib.hid hat
            have ji0 : (0 : Int) ≤ (j : Int) := by omega
            have ji1 : (j : Int) < (ls.length : Int) := by omega
            clear hrl hln hat

            obtain ⟨hL, hZ, hP, hO, hQ, hV, hX, hB⟩ := id hs
            obtain ⟨y0, y1, y2, y3, y4, y5, y6, y7⟩ := hL.cells8
            have p0 := hP.cell 0
            have p1 := hP.cell 1
            have p2 := hP.cell 2
            simp only [List.getElem?_toArray, List.getElem?_cons_succ, List.getElem?_cons_zero] at p0 p1 p2
            have ll := hL.lt
            have lp := hP.lt
            have lb := hB.size
            have hr := ((HR.out.below hB) (112 + (k : Int)) (by omega) (by omega)).1
            rw [HZR.out m0] at hr
            obtain ⟨hr1, hr2⟩ := (HR.out.below hB) (8 * ln) (by omega) (by omega)
            have HBL := Lib.hid (BlockG _ gm lL (C : Int) ln (k : Int) cz _ _ _ (by omega) (by omega) (by omega) (by omega) (by omega) m0 hz4 rfl m3 hr hr1 (HD.out.below hB) (by rcases hr2 with h | h <;> omega) (by rcases hr2 with h | h <;> omega))
            clear hr hr1 hr2 m3
            go_wp2_with fail
            refine HBL.out.mono ?_
            rintro e w5 ⟨rfl, hb⟩
            have HBK : Hid (blkZ ln cz (R (8 * ln)).1 (R (8 * ln)).2 = blkR R ln cz) := rfl
            rw [HBK.out]
            clear HBK HBL
            obtain ⟨r, hr⟩ : ∃ r, r = blkR R ln cz := ⟨_, rfl⟩
            rw [← hr]
            have HBR := Lib.hid hr
            clear hr
            obtain ⟨⟨bl, bc, bk, bg⟩, er⟩ := r
            simp only [Bk.line, Bk.cls, Bk.kind, Bk.gen]
            replace hs := hs.below hb
            have hrl := HRL.out.below hb
            clear HRL hgx hxc
            clear hL hZ hP hO hQ hV hX hB y0 y1 y2 y3 y4 y5 y6 y7 p0 p1 p2 ll lp lb hb
            go_upto_region 13 with (fail)
            obtain ⟨w6, hw6⟩ : ∃ x, x = w5.alloc (.cells #[.int .i64 bl, .int .i64 bc, .int .i64 bk, .int .i64 bg] 43) := ⟨_, rfl⟩
            have hBx : Cl w6 w5.heap.size 43 #[.int .i64 bl, .int .i64 bc, .int .i64 bk, .int .i64 bg] := by rw [hw6]; exact Cl.new _ _ _
            have hb6 : Below w5.heap.size w5 w6 := by rw [hw6]; (repeat (first | with_reducible exact Below.refl _ _ | with_reducible assumption | with_reducible refine below_drewN ?_ _ | with_reducible refine Below.drew ?_ | with_reducible refine Below.alloc ?_ (by first | omega | (simp; omega) | simp) _ | with_reducible refine Below.setCell ?_ (by first | omega | (simp; omega) | simp) _))
            rw [← hw6]
            clear hw6
            replace hs := hs.below hb6
            replace hrl := hrl.below hb6
            have HRL := Lib.hid hrl
            clear hb6 hrl

            obtain ⟨hL, hZ, hP, hO, hQ, hV, hX, hB⟩ := id hs
            obtain ⟨y0, y1, y2, y3, y4, y5, y6, y7⟩ := hL.cells8
            have p0 := hP.cell 0
            have p1 := hP.cell 1
            have p2 := hP.cell 2
            simp only [List.getElem?_toArray, List.getElem?_cons_succ, List.getElem?_cons_zero] at p0 p1 p2
            have ll := hL.lt
            have lp := hP.lt
            have lb := hB.size
            obtain ⟨⟨x0, x1, x2, x3⟩, -⟩ := hBx.has4
            have lx := hBx.lt
            by_cases he : er = 0
            · subst he
              go_upto_region 16 with (at_builtin; refine wpList_append_lies _ rfl _ _ _ (by rfl) w.heap.size 43 i0 _ 4 32 Tryz.underlying38 hi0 hz0 hz1 hz2 rfl (by omega) (.slice B bs.length cb) bs.length (bksCells bs) (by rfl) (hQ.alloc _) ⟨w6.heap.size, 0, none⟩ 1 1 [.int .i64 bl, .int .i64 bc, .int .i64 bk, .int .i64 bg] (by rfl) (by rfl) (World.news_of_block (cs := #[.int .i64 bl, .int .i64 bc, .int .i64 bk, .int .i64 bg]) (t := 43) (fr := (0, 0)) (heap_alloc_new _ _)) (by simp [Value.oneCell']) (by omega) (by unfold maxLen; omega) (by omega) (by first | omega | (simp; omega) | simp) (w6.heap.size + 1) (by simp) ?_; intro gg c2 wq ownq grq hatq hltq; obtain ⟨k0, k1, k2, hq⟩ := ScG.block_at hs HRL.out (bl, bc, bk, bg) (Below.alloc (Below.refl _ _) (Nat.le_refl _) _) ownq grq)
              clear ownq grq k0 k1 k2 hatq hltq hs HRL
              have HS := Lib.hid hq.out.1
              have HR2 := Lib.hid hq.out.2
              clear hq hBx x0 x1 x2 x3 lx
              clear hL hZ hP hO hQ hV hX hB y0 y1 y2 y3 y4 y5 y6 y7 p0 p1 p2 ll lp lb
              go_wp2_with fail
              go_roundw
              case rel =>
                refine ⟨j + 1, by omega, by go_num, _, _, _, _, HS.out, HR2.out, by simp; have := HBD.out; omega, snoc_all HGB.out ?_, HGL.out⟩
                have e1 := HBR.out
                have e2 : (bl, bc) = (ln, cz) := by
                  have e3 := e1.symm
                  unfold blkR blkZ at e3
                  split at e3
                  · split at e3
                    · simp only [Prod.mk.injEq] at e3 ⊢
                      omega
                    · simp only [Prod.mk.injEq] at e3
                      omega
                  · simp only [Prod.mk.injEq] at e3
                    omega
                injection e2 with e3 e4
                subst e3
                subst e4
                exact ⟨HAT.out, e1.symm⟩
              case measure => simp [intOf]; omega
            · have be : (er == 0) = false := by simp [he]
              have HE := Lib.hid he
              clear he
              go_upto_region 16 with (at_builtin; refine wpList_append_lies _ rfl _ _ _ (by rfl) w.heap.size 3 j0 _ 1 8 Tryz.underlying37 hj0 hy0 hy1 hy2 rfl (by omega) (.slice V bd.length cv) bd.length (bd.map (Value.int .i64)) (by rfl) (hV.alloc _) ⟨w6.heap.size, 0, none⟩ 1 1 [.int .i64 ln] (by rfl) (by rfl) (World.news_of_block (cs := #[.int .i64 ln]) (t := 3) (fr := (0, 0)) (heap_alloc_new _ _)) (by simp [Value.oneCell']) (by omega) (by unfold maxLen; omega) (by omega) (by first | omega | (simp; omega) | simp) (w6.heap.size + 1) (by simp) ?_; intro gg c2 wq ownq grq hatq hltq; obtain ⟨k0, k1, k2, hq⟩ := ScG.bad_at hs HRL.out ln (Below.alloc (Below.refl _ _) (Nat.le_refl _) _) ownq grq hatq (by simp))
              clear ownq grq k0 k1 k2 hatq hltq hs HRL
              have HS := Lib.hid hq.out.1
              have HR2 := Lib.hid hq.out.2
              clear hq hBx x0 x1 x2 x3 lx
              clear hL hZ hP hO hQ hV hX hB y0 y1 y2 y3 y4 y5 y6 y7 p0 p1 p2 ll lp lb
              go_wp2_with fail
              go_roundw
              case rel => exact ⟨j + 1, by omega, by go_num, _, _, _, _, HS.out, HR2.out, by simp; have := HBD.out; omega, HGB.out, snoc_all HGL.out ⟨cz, HAT.out, by rw [← HBR.out]; exact HE.out⟩⟩
              case measure => simp [intOf]; omega
          · have hjn : ¬ (j : Int) < (ls.length : Int) := by omega
            have HS := Lib.hid hs
            have HJ : Hid (j = ls.length) := by show _ = _; omega
            clear hs hrl HRL
            go_wp2_with fail
            go_roundw
            case rel => exact ⟨k + 1, by omega, by go_num, _, _, _, _, _, _, HS.out, by simp; exact HCS.out, by have := HBD.out; omega, HGB.out, HGL.out⟩
            case measure => simp [intOf]; omega
    · have kn : ¬ (k : Int) < (C : Int) := by omega

      obtain ⟨hL, hZ, hP, hO, hQ, hV, hX, hB⟩ := id hs
      obtain ⟨y0, y1, y2, y3, y4, y5, y6, y7⟩ := hL.cells8
      have p0 := hP.cell 0
      have p1 := hP.cell 1
      have p2 := hP.cell 2
      simp only [List.getElem?_toArray, List.getElem?_cons_succ, List.getElem?_cons_zero] at p0 p1 p2
      have ll := hL.lt
      have lp := hP.lt
      have lb := hB.size
      obtain ⟨⟨z0, z1, z2⟩, ⟨z3, z4, z5⟩⟩ := hZ.has3
      have lz := hZ.lt
      go_wp2_with fail
      refine bodyPost_ret (v := .agg #[.slice A cs.length ca, .slice B bs.length cb, .slice V bd.length cv]) ?_ rfl ⟨cs, bs, bd, ⟨_, _, _, rfl, ?_, ?_, ?_, by (repeat (first | with_reducible exact Below.refl _ _ | with_reducible assumption | with_reducible refine below_drewN ?_ _ | with_reducible refine Below.drew ?_ | with_reducible refine Below.alloc ?_ (by first | omega | (simp; omega) | simp) _ | with_reducible refine Below.setCell ?_ (by first | omega | (simp; omega) | simp) _))⟩, by have := HBD.out; omega, by have := HBD.out; omega, HGB.out, HGL.out⟩
      · simp [results, Tryz.results6, go_sem, *]
      · exact Rd.far (Rd.far (Rd.far (Rd.own hO) hZ (by decide) 0 _) (hZ.set_ 0 _) (by decide) 1 _) ((hZ.set_ 0 _).set_ 1 _) (by decide) 2 _
      · exact Rd.far (Rd.far (Rd.far (Rd.own hQ) hZ (by decide) 0 _) (hZ.set_ 0 _) (by decide) 1 _) ((hZ.set_ 0 _).set_ 1 _) (by decide) 2 _
      · exact Rd.far (Rd.far (Rd.far (Rd.own hV) hZ (by decide) 0 _) (hZ.set_ 0 _) (by decide) 1 _) ((hZ.set_ 0 _).set_ 1 _) (by decide) 2 _
end Go.Proofs.YtckamjbdogpacaaGreatDoor
