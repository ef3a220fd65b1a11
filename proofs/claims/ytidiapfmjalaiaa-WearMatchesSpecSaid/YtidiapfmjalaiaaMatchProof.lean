/-
  For every seven arguments WearMatchesSpec returns true, and the arguments read as before. No conditions.
  (The frame of the row's step was written by the kit's proof-skeleton program for another row of this seat, and turned to this one; the walk and the plain law are my own.)
-/
import Derived.Test.YtidiapfmjalaiaaArgs
import Derived.Test.YtidiapfmjalaiaaMatches
namespace Go.Proofs.Ytidiapfmjalaiaa.wearMatchesSpec
open Go.ChangeShapes Go.WideShapes Go.ChangeAt Go.RowKit
set_option linter.unusedVariables false      -- a walk need not use every 'w<i>' (that an integer argument fits its kind)

theorem own : ownKnob Try.prog.godebug = none := by kernel_rfl

theorem cellsInt : Try.prog.cellsOf 3 = 1 := by kernel_rfl
theorem cellsBlk : Try.prog.cellsOf 25 = 4 := by kernel_rfl
theorem cellsMv : Try.prog.cellsOf 27 = 8 := by kernel_rfl

theorem blk_ints {H : Type} {enc : TypeId × Value → H} {W : World} {base fuel : Nat} {sp : Nat → Bool} {hd : Bool} {c0 c1 c2 c3 : Value} {y : DataW H × List MemPlace}
    (h : DataW.trod enc Try.prog W base sp hd fuel 25 [c0, c1, c2, c3] = some y) : ∃ b : Bk, c0 = .int .i64 b.line ∧ c1 = .int .i64 b.cls ∧ c2 = .int .i64 b.kind ∧ c3 = .int .i64 b.gen := by
  obtain ⟨xs, k, hk, hxy, _, hxl, hf⟩ := DataW.trod_struct Try.underlying25 h
  match xs, hxl with
  | [y0, y1, y2, y3], _ =>
    have g0 := hf 0 _ rfl
    have g1 := hf 1 _ rfl
    have g2 := hf 2 _ rfl
    have g3 := hf 3 _ rfl
    simp [cellsInt] at g0 g1 g2 g3
    obtain ⟨a, e0, _, _⟩ := DataW.trod_int Try.underlying3 g0
    obtain ⟨b, e1, _, _⟩ := DataW.trod_int Try.underlying3 g1
    obtain ⟨c, e2, _, _⟩ := DataW.trod_int Try.underlying3 g2
    obtain ⟨d, e3, _, _⟩ := DataW.trod_int Try.underlying3 g3
    simp at e0 e1 e2 e3
    exact ⟨(a, b, c, d), e0, e1, e2, e3⟩

theorem open_move {H : Type} {enc : TypeId × Value → H} {W : World} {b0 : Nat} {r : Reach} {v : Value} {d : DataW H} {ps : List MemPlace} (hval : Value.okWide Try.prog W r b0 27 v)
    (h : DataW.Trod enc Try.prog W 0 (fun _ => true) true 27 v d ps) : ∃ f t : Bk, v = .agg #[.int .i64 (Bk.line f), .int .i64 (Bk.cls f), .int .i64 (Bk.kind f), .int .i64 (Bk.gen f), .int .i64 (Bk.line t), .int .i64 (Bk.cls t), .int .i64 (Bk.kind t), .int .i64 (Bk.gen t)] := by
  obtain ⟨cs, rfl, hsz⟩ := okWide_struct Try.underlying27 hval
  rw [cellsMv] at hsz
  obtain ⟨l⟩ := cs
  match l, hsz with
  | [c0, c1, c2, c3, c4, c5, c6, c7], _ =>
    obtain ⟨fuel, hf⟩ := h
    obtain ⟨y0, y1, n, hx, _, h0, h1⟩ := trod_struct2 Try.underlying27 hf
    simp [Value.cells, cellsBlk] at h0 h1
    obtain ⟨f, rfl, rfl, rfl, rfl⟩ := blk_ints h0
    obtain ⟨t, rfl, rfl, rfl, rfl⟩ := blk_ints h1
    exact ⟨f, t, rfl⟩

theorem walk (a0 : Int) (v1 v2 : Value) (a3 a4 a5 : Int) (cls : List Nat) (rs : List (Nat × Nat)) (f t : Bk) (w0 : (Lit.int .u8 a0).wf = true) (w : World)
    (h1 : RdN w 1 v1 cls.length (u8s cls)) (h8 : ∀ x ∈ cls, x < 256) (h2 : RdN w 2 v2 rs.length (rawCells rs)) (hr8 : ∀ x ∈ rs, x.1 < 256 ∧ x.2 < 65536) :
    Calls Try.prog 3 #[.int .u8 a0, v1, v2, .int .i64 a3, .int .i64 a4, .int .i64 a5, .agg #[.int .i64 (Bk.line f), .int .i64 (Bk.cls f), .int .i64 (Bk.kind f), .int .i64 (Bk.gen f), .int .i64 (Bk.line t), .int .i64 (Bk.cls t), .int .i64 (Bk.kind t), .int .i64 (Bk.gen t)]] w fun e w' => e = .returned (.bool true) ∧ Below w.heap.size w w' := by
  have h0 := u8_in w0
  obtain ⟨n0, rfl⟩ := Int.eq_ofNat_of_zero_le h0.1
  exact matches_calls w n0 v1 v2 cls rs a3 a4 a5 f t (by omega) h1 h2 h8 hr8

/-! ### THE ROW's STEP: WRITTEN OUT: LEAVE IT -/
set_option maxRecDepth 100000 in
theorem lifted (os : Os) (started : os.Started) (H : Type) (enc : TypeId × Value → H) :
    ReturnsInHanded {} Try.checked os 3 .any (Rows.wearMatchesSpecSpec.pre6 enc Try.prog Try.f3 Rows.wearMatchesSpecRow.domain false) (Rows.wearMatchesSpecSpec.post enc Try.prog Try.f3 false true false false) := by
  refine returnsInHanded_of_change (C := Try.checked) own started (by kernel_rfl) Try.func3
    (ChangeSpec.witness6 (enc := enc) (C := Try.checked) false ⟨#[], #[.int .u8 0, .slice none 0 0, .slice none 0 0, .int .i64 0, .int .i64 0, .int .i64 0, .agg #[.int .i64 0, .int .i64 0, .int .i64 0, .int .i64 0, .int .i64 0, .int .i64 0, .int .i64 0, .int .i64 0]], []⟩ 8 (by kernel_rfl) (by kernel_rfl) (by kernel_rfl) (by kernel_rfl)) ?_
  intro W base args ds gs before hval0 hW hcnd _
  have hval : ∀ (j : Nat) t v, Try.f3.params[j]? = some t → args[j]? = some v → Value.okWide Try.prog W .any base t v := hval0
  have hW' := hW
  obtain ⟨p, q, hA0, hV, rfl, hfz, hnd⟩ := hW
  have hA : DataW.TrodAll enc Try.prog W 0 (fun _ => true) true Try.f3.params.toList args.toList ds p := hA0
  rw [Try.params3] at hA hval
  obtain ⟨v0, vs0, d0, ds0, p0, q0, hargs, rfl, rfl, h0, r0⟩ := trodAll_cons hA
  obtain ⟨v1, vs1, d1, ds1, p1, q1, rfl, rfl, rfl, h1, r1⟩ := trodAll_cons r0
  obtain ⟨v2, vs2, d2, ds2, p2, q2, rfl, rfl, rfl, h2, r2⟩ := trodAll_cons r1
  obtain ⟨v3, vs3, d3, ds3, p3, q3, rfl, rfl, rfl, h3, r3⟩ := trodAll_cons r2
  obtain ⟨v4, vs4, d4, ds4, p4, q4, rfl, rfl, rfl, h4, r4⟩ := trodAll_cons r3
  obtain ⟨v5, vs5, d5, ds5, p5, q5, rfl, rfl, rfl, h5, r5⟩ := trodAll_cons r4
  obtain ⟨v6, vs6, d6, ds6, p6, q6, rfl, rfl, rfl, h6, r6⟩ := trodAll_cons r5
  obtain ⟨rfl, rfl, rfl⟩ := trodAll_nil r6
  obtain rfl : args = #[v0, v1, v2, v3, v4, v5, v6] := by cases args; simp_all
  obtain ⟨rfl, rfl⟩ := trodVars_none hV
  obtain ⟨a0, rfl, rfl, rfl, w0⟩ := open_int Try.underlying5 (hval 0 5 v0 rfl rfl) h0
  obtain ⟨cls, hcls, _, h8⟩ := open_u8s (hval 1 22 v1 rfl rfl) h1
  obtain ⟨rs, hrs, _, hr8⟩ := open_raws (hval 2 23 v2 rfl rfl) h2
  obtain ⟨a3, rfl, rfl, rfl, w3⟩ := open_int Try.underlying3 (hval 3 3 v3 rfl rfl) h3
  obtain ⟨a4, rfl, rfl, rfl, w4⟩ := open_int Try.underlying3 (hval 4 3 v4 rfl rfl) h4
  obtain ⟨a5, rfl, rfl, rfl, w5⟩ := open_int Try.underlying3 (hval 5 3 v5 rfl rfl) h5
  obtain ⟨f, t, rfl⟩ := open_move (hval 6 27 v6 rfl rfl) h6
  clear hA0 hval0
  simp only [List.append_nil, List.nil_append] at hW'
  have hlt : ∀ x ∈ p1 ++ (p2 ++ p6), x.block < W.heap.size := fun x hx => by simpa using hW'.lt x hx
  refine (walk a0 v1 v2 a3 a4 a5 cls rs f t w0 W hcls h8 hrs hr8).mono fun e W' ⟨he, hg⟩ => ?_
  subst he
  have k1 := Below.trod laidOut (by kernel_rfl) (of_decide_eq_true (by kernel_rfl)) h1 hg (fun x hx => hlt x (by simp [hx]))
  have k2 := Below.trod laidOut (by kernel_rfl) (of_decide_eq_true (by kernel_rfl)) h2 hg (fun x hx => hlt x (by simp [hx]))
  have k6 := Below.trod laidOut (by kernel_rfl) (of_decide_eq_true (by kernel_rfl)) h6 hg (fun x hx => hlt x (by simp [hx]))
  exact ⟨_, rfl, post_belowS (pa := [] ++ (p1 ++ (p2 ++ ([] ++ ([] ++ ([] ++ (p6 ++ []))))))) (pv := []) hW' (fun _ _ _ => (trodAll_cons_mk (shut_bool Try.underlying4 _) trodAll_mk0)) (trodAll_cons_mk (shut_int Try.underlying5 w0) (trodAll_cons_mk k1 (trodAll_cons_mk k2 (trodAll_cons_mk (shut_int Try.underlying3 w3) (trodAll_cons_mk (shut_int Try.underlying3 w4) (trodAll_cons_mk (shut_int Try.underlying3 w5) (trodAll_cons_mk k6 trodAll_mk0))))))) rfl (by simp) hg⟩

theorem over : Rows.wearMatchesSpecRow.holds Try.pinned (OpenSpec.ofChange Rows.wearMatchesSpecSpec) :=
  OpenClaim.holds_of_wide 3 Try.f3 rfl rfl rfl rfl rfl rfl rfl ⟨rfl, rfl, rfl, rfl, rfl⟩ rfl rfl rfl rfl rfl (by kernel_rfl) Try.func3 (by kernel_rfl)
    (of_decide_eq_true (by kernel_rfl)) (by unfold Func.isWrapper; first | (rw [if_pos (by decide +kernel)]; kernel_rfl) | (rw [if_neg (by decide +kernel)]; exact ⟨rfl, rfl⟩))
    (fun os started H enc _ => lifted os started H enc)

/-- ████ THE STATEMENT ████ -/
theorem proved : Rows.WearMatchesSpecSaid :=
  over
#print axioms proved
end Go.Proofs.Ytidiapfmjalaiaa.wearMatchesSpec
