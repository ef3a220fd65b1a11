/-
  For all arguments ClassPicturesFollow returns true, and the arguments read as before, whatever numbers the table of layer 3 holds; the tables of layer 7 and of math/bits are as the program's text lays them (the card ties them); the run is calm, and of the outside the clocks alone may advance (premises of the row).
  (Ahead of it: what the row's arguments and variables say of the world: a script's calls; the open table; the deBruijn table.)
  (The frame of the row's step was written by the kit's proof-skeleton program for another row, and turned to this one; the walk and the plain law are my own.)
-/
import Derived.Test.YtckamjbdogpacaaGreatDoorLaid
import Derived.Test.YtckamjbdogpacaaGreatDoorGPl
import Derived.Clock
import Derived.Shelf.Vars
import Derived.Test.YtckamjbdogpacaaGreatDoorGLaw
namespace Go.Proofs.YtckamjbdogpacaaGreatDoor
open Go.RowKit Go.WideShapes Go.ChangeShapes Go.Deep
set_option linter.unusedSimpArgs false
set_option linter.unusedVariables false

theorem cellsOp : Tryz.prog.cellsOf 70 = 12 := by kernel_rfl
theorem cellsW8 : Tryz.prog.cellsOf 67 = 8 := by kernel_rfl
theorem cellsCuts : Tryz.prog.cellsOf 68 = 1 := by kernel_rfl
theorem cellsOps : Tryz.prog.cellsOf 22 = 1 := by kernel_rfl
theorem cellsEns : Tryz.prog.cellsOf 23 = 1 := by kernel_rfl
theorem cellsScr : Tryz.prog.cellsOf 25 = 3 := by kernel_rfl
theorem cellsU8 : Tryz.prog.cellsOf 5 = 1 := by kernel_rfl

theorem rows_cells {W : World} {b o : Nat} {xs : List Value} (h0 : 0 < xs.length) (h : ∀ j u, xs[j]? = some u → W.cell? ⟨b, o + j, none⟩ = some u) : ∃ (cur : Array Value) (e : TypeId) (fr : Nat × Nat), W.heap[b]? = some (.cells cur e fr) ∧ ∀ j u, xs[j]? = some u → cur[o + j]? = some u := by
  have h1 := h 0 _ (List.getElem?_eq_getElem h0)
  cases hb : W.heap[b]? with
  | none => simp [World.cell?, hb] at h1
  | some x =>
    cases x with
    | cells cur e fr => exact ⟨cur, e, fr, rfl, fun j u hu => by rw [← cell_of_row W b (o + j) cur e fr hb]; exact h j u hu⟩
    | _ => simp [World.cell?, hb] at h1

theorem i64_top {n : Int} (h : (Lit.int .i64 n).wf = true) : n ≤ 9223372036854775807 := by
  have := (show IntKind.i64.min ≤ n ∧ n ≤ IntKind.i64.max by simpa [Lit.wf] using h).2
  simpa [IntKind.max, IntKind.signed, IntKind.bits] using this
theorem u32_in {n : Int} (h : (Lit.int .u32 n).wf = true) : 0 ≤ n ∧ n ≤ 4294967295 := by simpa [Lit.wf, IntKind.min, IntKind.max, IntKind.signed, IntKind.bits] using h

theorem words_ints {H : Type} {enc : TypeId × Value → H} {W : World} {base fuel : Nat} {sp : Nat → Bool} {hd : Bool} {cs : List Value} {y : DataW H × List MemPlace}
    (h : DataW.trod enc Tryz.prog W base sp hd fuel 67 cs = some y) : ∃ f : Nat → Int, ∀ j, j < 8 → cs[j]? = some (.int .i64 (f j)) := by
  obtain ⟨xs, m, _, _, hlen, hxl, hel⟩ := DataW.trod_array Tryz.underlying67 h
  rw [cellsW8] at hlen
  have each : ∀ j, j < 8 → ∃ n : Int, cs[j]? = some (.int .i64 n) := fun j hj => by
    have hj1 := hel j hj
    rw [cellsInt, Nat.mul_one, List.getElem?_eq_getElem (by omega)] at hj1
    obtain ⟨n, hn, _, _⟩ := DataW.trod_int Tryz.underlying3 hj1
    refine ⟨n, ?_⟩
    have : ((cs.drop j).take 1)[0]? = some (.int .i64 n) := by rw [hn]; rfl
    simpa using this
  obtain ⟨f, hf⟩ := choose_lt each
  exact ⟨f, hf⟩

set_option maxRecDepth 100000 in
theorem op_open {H : Type} {enc : TypeId × Value → H} {W : World} {base fuel : Nat} {sp : Nat → Bool} {hd : Bool} {cs : List Value} {y : DataW H × List MemPlace}
    (h : DataW.trod enc Tryz.prog W base sp hd fuel 70 cs = some y) (hl : cs.length = 12) : ∃ x : OpD, (∀ j, j < 12 → cs[j]? = (opCells x)[j]?) ∧ x.2.1 ≤ 9223372036854775807 ∧ ∃ A n c, x.2.2.2.2 = .slice A n c := by
  obtain ⟨xs, k, hk, hxy, _, hxl, hf⟩ := DataW.trod_struct Tryz.underlying70 h
  match cs, hl, xs, hxl with
  | [c0, c1, c2, c3, c4, c5, c6, c7, c8, c9, c10, c11], _, [y0, y1, y2, y3, y4], _ =>
    have g0 := hf 0 _ rfl
    have g1 := hf 1 _ rfl
    have g2 := hf 2 _ rfl
    have g3 := hf 3 _ rfl
    have g4 := hf 4 _ rfl
    simp [cellsInt, cellsW8, cellsCuts] at g0 g1 g2 g3 g4
    obtain ⟨a, e0, _, _⟩ := DataW.trod_int Tryz.underlying3 g0
    obtain ⟨b, e1, _, wb⟩ := DataW.trod_int Tryz.underlying3 g1
    obtain ⟨c, e2, _, _⟩ := DataW.trod_int Tryz.underlying3 g2
    obtain ⟨f, hf8⟩ := words_ints g3
    have s : ∃ A n cc, c11 = .slice A n cc := by
      rcases open_slice Tryz.underlying68 g4 with ⟨hcs, _⟩ | ⟨ad, len, cap, m, n, D, Pl, hcs, _⟩
      · simp at hcs
        exact ⟨none, 0, 0, hcs⟩
      · simp at hcs
        exact ⟨some ad, len, cap, hcs⟩
    obtain ⟨A, n, cc, rfl⟩ := s
    simp at e0 e1 e2
    subst e0 e1 e2
    have f0 := hf8 0 (by omega)
    have f1 := hf8 1 (by omega)
    have f2 := hf8 2 (by omega)
    have f3 := hf8 3 (by omega)
    have f4 := hf8 4 (by omega)
    have f5 := hf8 5 (by omega)
    have f6 := hf8 6 (by omega)
    have f7 := hf8 7 (by omega)
    simp at f0 f1 f2 f3 f4 f5 f6 f7
    subst f0 f1 f2 f3 f4 f5 f6 f7
    exact ⟨(a, b, c, f, .slice A n cc), fun j hj => rfl, i64_top wb, A, n, cc, rfl⟩

instance : Inhabited OpD := ⟨(0, 0, 0, fun _ => 0, .slice none 0 0)⟩

/-- The calls of a script, read out of the argument. -/
def OpsIn (os : List OpD) : Prop := (∀ x ∈ os, x.2.1 ≤ 9223372036854775807) ∧ ∀ x ∈ os, ∃ A n c, x.2.2.2.2 = .slice A n c
theorem open_ops {H : Type} {enc : TypeId × Value → H} {W : World} {fuel : Nat} {c0 : Value} {y : DataW H × List MemPlace}
    (h : DataW.trod enc Tryz.prog W 0 (fun _ => true) true fuel 22 [c0] = some y) : ∃ (t : TypeId) (os : List OpD), RdO W t c0 os ∧ OpsIn os := by
  rcases open_slice Tryz.underlying22 h with ⟨hcs, _⟩ | ⟨a, len, cap, m, n, D, Pl, hcs, _, hl, hm, hmm, _, hx⟩
  · simp at hcs
    subst hcs
    exact ⟨0, [], Rd.nil_ _ _ _, by simp [OpsIn]⟩
  · simp at hcs
    subst hcs
    simp only [if_true] at hmm
    subst hmm
    have each : ∀ i, i < m → ∃ q : OpD, (∀ j u, (opCells q)[j]? = some u → W.cell? ((a.add (i * 12)).add j) = some u) ∧ q.2.1 ≤ 9223372036854775807 ∧ ∃ A n c, q.2.2.2.2 = .slice A n c := by
      intro i hi
      obtain ⟨cs', h1, h2⟩ := hx i hi
      rw [cellsOp] at h1
      obtain ⟨_, hlen, hcell⟩ := World.cells?_some h1
      obtain ⟨q, hq, hq1, hq2⟩ := op_open h2 hlen
      refine ⟨q, fun j u hu => ?_, hq1, hq2⟩
      have hj : j < 12 := by have := (List.getElem?_eq_some_iff.1 hu).1; simpa [opCells] using this
      rw [hcell j hj, hq j hj]
      exact hu
    obtain ⟨q, hq⟩ := choose_lt each
    have hlen : ((List.range len).map q).length = len := by simp
    have hin : OpsIn ((List.range len).map q) := by
      constructor
      all_goals
        intro x hx'
        obtain ⟨i, hi, rfl⟩ := List.mem_map.1 hx'
        have hi' := List.mem_range.1 hi
      · exact (hq i (by omega)).2.1
      · exact (hq i (by omega)).2.2
    by_cases h0 : 0 < len
    · obtain ⟨b, off, spot⟩ := a
      have hspot : spot = none := by simpa [Addr.add] using World.cell?_spot ((hq 0 (by omega)).1 0 _ rfl)
      subst hspot
      have hq' : ∀ i, i < len → ∀ j u, (opCells (q i))[j]? = some u → W.cell? ⟨b, off + (i * 12 + j), none⟩ = some u := fun i hi j u hu => by
        have := (hq i (by omega)).1 j u hu
        rw [Go.WideShapes.add_plain, Go.WideShapes.add_plain, Nat.add_assoc] at this
        exact this
      obtain ⟨cur, e, fr, hh, hrow⟩ := rows_cells (W := W) (b := b) (o := off) (xs := opsCells ((List.range len).map q)) (by rw [opsCells_length, hlen]; omega) (fun j u hu => by
        have hj : j < len * 12 := by have := (List.getElem?_eq_some_iff.1 hu).1; rw [opsCells_length, hlen] at this; exact this
        have h4 : j % 12 < 12 := Nat.mod_lt _ (by omega)
        have hk : j / 12 < len := by omega
        have hjj : j = j / 12 * 12 + j % 12 := by omega
        rw [hjj, opsCells_get _ _ _ h4, List.getElem?_map, List.getElem?_range hk] at hu
        rw [hjj]
        exact hq' _ hk _ u (by simpa using hu))
      exact ⟨e, (List.range len).map q, by
        unfold RdO
        rw [hlen]
        exact ⟨by rw [opsCells_length, hlen], _, m, rfl, hl, hm, by simp, fun _ => ⟨b, off, cur, fr, rfl, hh, hrow⟩⟩, hin⟩
    · obtain rfl : len = 0 := by omega
      exact ⟨0, [], ⟨rfl, some a, m, rfl, by simp, hm, by simp, fun h => by simp at h⟩, by simp [OpsIn]⟩

set_option maxRecDepth 100000 in
theorem open_script {H : Type} {enc : TypeId × Value → H} {W : World} {b0 : Nat} {r : Reach} {v : Value} {d : DataW H} {ps : List MemPlace} (hval : Value.okWide Tryz.prog W r b0 25 v)
    (h : DataW.Trod enc Tryz.prog W 0 (fun _ => true) true 25 v d ps) : ∃ (n : Nat) (bl : Value) (t : TypeId) (os : List OpD) (Ae : Option Addr) (ne ce : Nat), v = .agg #[.int .u8 (n : Int), bl, .slice Ae ne ce] ∧ n < 256 ∧ RdO W t bl os ∧ OpsIn os := by
  obtain ⟨cs, rfl, hsz⟩ := okWide_struct Tryz.underlying25 hval
  rw [cellsScr] at hsz
  obtain ⟨l⟩ := cs
  match l, hsz with
  | [c0, c1, c2], _ =>
    obtain ⟨fuel, hf⟩ := h
    obtain ⟨xs, k, hk, hxy, _, hxl, hf⟩ := DataW.trod_struct Tryz.underlying25 hf
    match xs, hxl with
    | [y0, y1, y2], _ =>
      have g0 := hf 0 _ rfl
      have g1 := hf 1 _ rfl
      have g2 := hf 2 _ rfl
      simp [Value.cells, cellsU8, cellsOps, cellsEns] at g0 g1 g2
      obtain ⟨a, e0, _, w0⟩ := DataW.trod_int Tryz.underlying5 g0
      simp at e0
      subst e0
      have hu := u8_in w0
      obtain ⟨n, rfl⟩ := Int.eq_ofNat_of_zero_le hu.1
      obtain ⟨t, os, h1, h2⟩ := open_ops g1
      have s : ∃ A n cc, c2 = .slice A n cc := by
        rcases open_slice Tryz.underlying23 g2 with ⟨hcs, _⟩ | ⟨ad, len, cap, m, n, D, Pl, hcs, _⟩
        · simp at hcs
          exact ⟨none, 0, 0, hcs⟩
        · simp at hcs
          exact ⟨some ad, len, cap, hcs⟩
      obtain ⟨Ae, ne, ce, rfl⟩ := s
      exact ⟨n, c1, t, os, Ae, ne, ce, rfl, by omega, h1, h2⟩

set_option maxRecDepth 100000 in
/-- The table that is left open holds some numbers. -/
theorem tb_of_shape {W : World} (h : W.ShapedOpen Tryz.prog) : ∃ T, Tb W T := by
  obtain ⟨cs, hh, hs, hr⟩ := h.1 1 (Array.replicate 320 (.int .i64 0)) 152 (of_decide_eq_true (by kernel_rfl)) (by kernel_rfl)
  obtain ⟨ts, hts, _, hall⟩ := hr (by kernel_rfl)
  rw [show Tryz.prog.cellTypes Tryz.prog.depth 152 = some (List.replicate 320 3) by kernel_rfl] at hts
  cases hts
  have hsz : cs.size = 320 := by rw [hs]; simp
  have each : ∀ k, k < 320 → ∃ n : Int, W.cell? ⟨1, k, none⟩ = some (.int .i64 n) := fun k hk => by
    obtain ⟨u, hu, hok⟩ := hall k cs[k] (by simp [hsz, hk])
    have hu2 : u = 3 := by
      rw [List.getElem?_replicate] at hu
      split at hu
      · exact (Option.some.inj hu).symm
      · cases hu
    subst hu2
    have hcell : W.cell? ⟨1, k, none⟩ = some cs[k] := by simp [World.cell?, hh, hsz, hk]
    rw [hcell]
    unfold Cell.ok at hok
    rw [Tryz.underlying3] at hok
    cases hv : cs[k] <;> rw [hv] at hok <;> simp at hok
    case int k' n => exact ⟨n, by rw [hok.1]⟩
  obtain ⟨T, hT⟩ := choose_lt each
  exact ⟨T, hT⟩

theorem gDb : Tryz.prog.globalNamed "math/bits.deBruijn64tab" = some 4 := by kernel_rfl
theorem tDb : (Tryz.prog.globals[4]?).map (·.type) = some 173 := by kernel_rfl
theorem cellsDb : Tryz.prog.cellsOf 173 = 64 := by kernel_rfl
theorem laid_db {H : Type} : (Rows.laid_math_bits_deBruijn64tab : DataW H) = .agg (Lib.deBruijn64tab.map fun n : Nat => .lit (.int .u8 (n : Int))) := rfl

set_option maxRecDepth 100000 in
theorem db_of_laid {W : World} (h : laidMetH Tryz.prog laidAll W) : Db W := by
  unfold laidAll at h
  rw [MakeChecks.laidMetH_plain _ _ _ (by kernel_rfl)] at h
  obtain ⟨ps, ⟨g1, t1, cs1, f1, p1, q1, hg1, ht1, hv1, hd1, ⟨g0, t0, cs0, f0, p0, q0, hg0, ht0, hv0, hd0, ⟨g2, t2, cs2, f2, p2, q2, hg2, ht2, hv2, hd2, ⟨g3, t3, cs3, f3, p3, q3, hg3, ht3, hv3, hd3, _, _⟩, _⟩, _⟩, _⟩, _, _⟩ := h
  obtain rfl := Option.some.inj (gDb.symm.trans hg3)
  obtain rfl := Option.some.inj (tDb.symm.trans ht3)
  obtain ⟨xs, m1, _, hx1, hlen, hn3, hel⟩ := DataW.trod_array Tryz.underlying173 hd3
  rw [cellsDb] at hlen
  have k0 := World.var?_cell hg3 hv3
  intro j hj
  have hj1 := hel j hj
  rw [cellsU8, Nat.mul_one, List.getElem?_eq_getElem (by omega)] at hj1
  obtain ⟨n, hn, hx, _⟩ := DataW.trod_int Tryz.underlying5 hj1
  have hcs : cs3[j]? = some (.int .u8 n) := by
    have : ((cs3.toList.drop j).take 1)[0]? = some (.int .u8 n) := by rw [hn]; rfl
    simpa using this
  have e1 := (Prod.mk.inj hx1).1
  rw [laid_db] at e1
  have e2 := DataW.agg.inj e1
  have e3 := congrArg (fun l => l[j]?) e2
  simp only [List.getElem?_map] at e3
  rw [List.getElem?_eq_getElem (show j < xs.length by omega), hx] at e3
  have hd : j < Lib.deBruijn64tab.length := by rw [show Lib.deBruijn64tab.length = 64 from rfl]; exact hj
  rw [List.getElem?_eq_getElem hd] at e3
  simp only [Option.map_some, Option.some.injEq, DataW.lit.injEq, Lit.int.injEq, true_and] at e3
  rw [k0 j, hcs, List.getD_eq_getElem?_getD, List.getElem?_eq_getElem hd]
  simp [← e3]
end Go.Proofs.YtckamjbdogpacaaGreatDoor

namespace Go.Proofs.YtckamjbdogpacaaGreatDoor.classPicturesFollow
open Go.ChangeShapes Go.WideShapes Go.ChangeAt Go.RowKit Go.Clock
set_option linter.unusedVariables false      -- not every row uses every 'w<i>' (that an integer argument fits its kind)

theorem walk (n : Nat) (a1 : Int) (bl : Value) {t : TypeId} (os : List OpD) (Ae : Option Addr) (ne ce : Nat) (hn : n < 256) (w1 : (Lit.int .u32 a1).wf = true) (w : World) (hR : RdO w t bl os) (hO : OpsIn os) (T : Nat → Int) (hT : Tb w T) (hdb : Db w) (hd : Hd w) (hp : Pt w) :
    Calls Tryz.prog 3 #[.agg #[.int .u8 (n : Int), bl, .slice Ae ne ce], .int .u32 a1] w fun e w' => e = .returned (.bool true) ∧ Below w.heap.size w w' := by
  have h1 := u32_in w1
  obtain ⟨n1, rfl⟩ := Int.eq_ofNat_of_zero_le h1.1
  exact law_calls w n n1 bl os T Ae ne ce hn (by omega) hR hO.1 hO.2 hT hdb hd hp

set_option maxRecDepth 100000 in
theorem lifted (os : Os) (started : os.Started) (H : Type) (enc : TypeId × Value → H) (F : Stop.Interp) :
    ReturnsInHanded { calm := true } Tryz.checked os 3 .any (fun w args => (Rows.classPicturesFollowSpec.pre enc Tryz.prog Tryz.f3 [] false w args ∧ laidMetH Tryz.prog Rows.classPicturesFollowRow.laid w) ∧ sizedMet enc Tryz.prog Tryz.f3 (OpenSpec.ofChange Rows.classPicturesFollowSpec) false w args)
      ((OpenSpec.ofChange Rows.classPicturesFollowSpec).postWith enc Tryz.prog Tryz.f3 F (outsideKept [.timePasses]) false true false) := by
  refine returns_of_change (C := Tryz.checked) (X := fun w _ => laidMetH Tryz.prog Rows.classPicturesFollowRow.laid w) (fun _ _ _ hh h => h.of_heap hh) own started (by kernel_rfl) Tryz.func3
    (witness_at (enc := enc) (C := Tryz.checked) (X := fun w _ => laidMetH Tryz.prog Rows.classPicturesFollowRow.laid w) (World.doorLaid Tryz.prog 400 os) #[.agg #[.int .u8 0, .slice none 0 0, .slice none 0 0], .int .u32 0] 8 rfl (World.shaped_of_RefB (by kernel_rfl) (by kernel_rfl)) (by kernel_rfl) (by kernel_rfl) (by kernel_rfl) (door_met os _)) ?_
  intro W base args ds gs before hval0 hW _ _ hL hsh
  have hval : ∀ (j : Nat) t v, Tryz.f3.params[j]? = some t → args[j]? = some v → Value.okWide Tryz.prog W .any base t v := hval0
  have hW' := hW
  obtain ⟨p, q, hA0, hV, rfl, hfz, hnd⟩ := hW
  have hA : DataW.TrodAll enc Tryz.prog W 0 (fun _ => true) true Tryz.f3.params.toList args.toList ds p := hA0
  rw [Tryz.params3] at hA hval
  obtain ⟨v0, vs0, d0, ds0, p0, q0, hargs, rfl, rfl, h0, r0⟩ := trodAll_cons hA
  obtain ⟨v1, vs1, d1, ds1, p1, q1, rfl, rfl, rfl, h1, r1⟩ := trodAll_cons r0
  obtain ⟨rfl, rfl, rfl⟩ := trodAll_nil r1
  obtain rfl : args = #[v0, v1] := by cases args; simp_all
  obtain ⟨rfl, rfl⟩ := trodVars_none hV
  obtain ⟨n, bl, t, ops, Ae, ne, ce, rfl, hn, hR, hO⟩ := open_script (hval 0 25 v0 rfl rfl) h0
  obtain ⟨a1, rfl, rfl, rfl, w1⟩ := open_int Tryz.underlying26 (hval 1 26 v1 rfl rfl) h1
  obtain ⟨hd, hp⟩ := of_laid hL
  have hdb := db_of_laid hL
  obtain ⟨T, hT⟩ := tb_of_shape hsh
  clear hA0 hval0
  simp only [List.append_nil] at hW'
  have hlt : ∀ x ∈ p0, x.block < W.heap.size := fun x hx => by simpa using hW'.lt x hx
  refine (walk n a1 bl ops Ae ne ce hn w1 W hR hO T hT hdb hd hp).mono fun e W' ⟨he, hg0⟩ => ?_
  subst he
  obtain ⟨hlater, hg⟩ := Since.of_below hg0
  have k0 := Below.trod laidOut (by kernel_rfl) (of_decide_eq_true (by kernel_rfl)) h0 hg hlt
  exact ⟨_, rfl, post_belowS (pa := p0 ++ ([] ++ [])) (pv := []) hW' (fun _ _ _ => (trodAll_cons_mk (shut_bool Tryz.underlying4 _) trodAll_mk0)) (trodAll_cons_mk k0 (trodAll_cons_mk (shut_int Tryz.underlying26 w1) trodAll_mk0)) rfl (by simp) hg, hlater⟩

theorem over : Rows.ClassPicturesFollowSaid :=
  holds_of_wide_time 3 Tryz.f3 rfl rfl rfl rfl rfl rfl rfl ⟨rfl, rfl, rfl, rfl, rfl⟩ rfl rfl rfl rfl rfl (by kernel_rfl) Tryz.func3 (by kernel_rfl)
    (of_decide_eq_true (by kernel_rfl)) (by unfold Func.isWrapper; first | (rw [if_pos (by decide +kernel)]; kernel_rfl) | (rw [if_neg (by decide +kernel)]; exact ⟨rfl, rfl⟩))
    (fun os started H enc _ F => lifted os started H enc F)

/-- ████ THE CARD ████ -/
theorem proved : Rows.ClassPicturesFollowCardSaid :=
  Claim7.holds_tied_plain_at .later [] [.data, .data, .data, .data] true (true, "9a226778caa85c128fff0134e6431de085891f044d52dbdab4119cfa1aa16e71") false
    over (fun _ h => by cases h) (by kernel_rfl) (fun _ h => by cases h) classPicturesFollow_row_tie rfl ⟨rfl, rfl⟩ (by kernel_rfl) rfl
    (fun f fn hf hfn => by
      obtain rfl : f = 3 := Option.some.inj ((show Tryz.prog.funcNamed "alum/alumlaw11.ClassPicturesFollow" = some 3 by kernel_rfl).symm.trans hf) |>.symm
      obtain rfl : fn = Tryz.f3 := (Option.some.inj (Tryz.func3.symm.trans hfn)).symm
      exact ⟨by kernel_rfl, fun j t ht => by
        rw [Tryz.params3] at ht
        have hm : t ∈ [25, 26] := by simpa using Array.mem_of_getElem? ht
        have hall : ([25, 26].all fun u => !Tryz.prog.wantsStandIn u) = true := by kernel_rfl
        exact (show Tryz.prog.wantsStandIn t = false by simpa using List.all_eq_true.1 hall t hm)⟩)
    (by kernel_rfl)
#print axioms proved
end Go.Proofs.YtckamjbdogpacaaGreatDoor.classPicturesFollow
