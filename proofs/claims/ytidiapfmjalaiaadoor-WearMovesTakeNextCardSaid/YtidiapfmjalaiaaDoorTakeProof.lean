/-
  For every five arguments WearMovesTakeNext returns true, and the arguments read as before; the table alum/pointer.headers is as the program's text lays it (the card ties it).
  (The frame of the row's step was written by the kit's proof-skeleton program for another row, and turned to this one after the guide's worked proof Mapy; the walk and the plain law are my own.)
-/
import Derived.Test.YtidiapfmjalaiaaDoorArgs
import Derived.Test.YtidiapfmjalaiaaDoorTakeNext
import Derived.Test.YtidiapfmjalaiaaDoorCards
import Derived.Test.YtidiapfmjalaiaaDoorTie
import Derived.LaidMore
import Derived.Stop.Joined
import Derived.SevenTiedAt
namespace Go.Proofs.YtidiapfmjalaiaaDoor.wearMovesTakeNext
open Go.ChangeShapes Go.WideShapes Go.ChangeAt Go.RowKit
set_option linter.unusedVariables false      -- a walk need not use every 'w<i>' (that an integer argument fits its kind)

theorem own : ownKnob Tryd.prog.godebug = none := by kernel_rfl
theorem gHead : Tryd.prog.globalNamed "alum/pointer.headers" = some 0 := by kernel_rfl
theorem tHead : (Tryd.prog.globals[0]?).map (·.type) = some 75 := by kernel_rfl
theorem cellsInt : Tryd.prog.cellsOf 3 = 1 := by kernel_rfl
theorem cellsPart : Tryd.prog.cellsOf 74 = 2 := by kernel_rfl
theorem cellsArr : Tryd.prog.cellsOf 75 = 6 := by kernel_rfl

theorem part_ints {H : Type} {enc : TypeId × Value → H} {W : World} {base fuel : Nat} {sp : Nat → Bool} {hd : Bool} {c0 c1 : Value} {a b : Int} {x : DataW H × List MemPlace}
    (h : DataW.trod enc Tryd.prog W base sp hd fuel 74 [c0, c1] = some x) (hx : x.1 = .agg [.lit (.int .i64 a), .lit (.int .i64 b)]) : c0 = .int .i64 a ∧ c1 = .int .i64 b := by
  obtain ⟨y0, y1, n, hx', _, h0, h1⟩ := trod_struct2 Tryd.underlying74 h
  simp [cellsInt] at h0 h1
  obtain ⟨a', e0, rfl, _⟩ := DataW.trod_int Tryd.underlying3 h0
  obtain ⟨b', e1, rfl, _⟩ := DataW.trod_int Tryd.underlying3 h1
  rw [hx'] at hx
  simp at e0 e1 hx
  exact ⟨by rw [e0, hx.1], by rw [e1, hx.2]⟩

theorem of_laid {W : World} (h : laidMetH Tryd.prog Rows.wearMovesTakeNextRow.laid W) : Hd W := by
  rw [MakeChecks.laidMetH_plain _ _ _ (by kernel_rfl)] at h
  obtain ⟨ps, ⟨g0, t0, cs0, f0, p0, q0, hg0, ht0, hv0, hd0, _, _⟩, _, _⟩ := h
  obtain rfl := Option.some.inj (gHead.symm.trans hg0)
  obtain rfl := Option.some.inj (tHead.symm.trans ht0)
  obtain ⟨xs, m1, _, hx1, hlen, hn3, hel⟩ := DataW.trod_array Tryd.underlying75 hd0
  rw [cellsArr] at hlen
  have k0 := World.var?_cell hg0 hv0
  obtain ⟨l⟩ := cs0
  match xs, hn3, hx1, l, hlen with
  | [x0, x1, x2], _, hx1, [c0, c1, c2, c3, c4, c5], _ =>
    have h0 := hel 0 (by decide)
    have h1 := hel 1 (by decide)
    have h2 := hel 2 (by decide)
    simp [cellsPart] at h0 h1 h2
    simp only [Prod.mk.injEq, Rows.laid_alum_pointer_headers, DataW.agg.injEq, List.map_cons, List.map_nil, List.cons.injEq, and_true] at hx1
    obtain ⟨rfl, rfl⟩ := part_ints h0 hx1.1.1.symm
    obtain ⟨rfl, rfl⟩ := part_ints h1 hx1.1.2.1.symm
    obtain ⟨rfl, rfl⟩ := part_ints h2 hx1.1.2.2.symm
    exact ⟨k0 0, k0 1, k0 2, k0 3, k0 4, k0 5⟩

theorem door_met (os : Os) (args : Array Value) : laidMetH Tryd.prog Rows.wearMovesTakeNextRow.laid ((World.doorLaid Tryd.prog 400 os).forCall (fun _ _ => 0) ⟨#[], args, []⟩).memory :=
  laidMetH_of_parts3 (fuel := 8) (laidMet_of_run' 8 (by kernel_rfl) (by kernel_rfl)) (by kernel_rfl) (by kernel_rfl)

theorem walk (a0 : Int) (v1 v2 : Value) (a3 a4 : Int) (cls : List Nat) (rs : List (Nat × Nat)) (w0 : (Lit.int .u8 a0).wf = true) (w : World) (hd : Hd w)
    (h1 : RdN w 1 v1 cls.length (u8s cls)) (h8 : ∀ x ∈ cls, x < 256) (h2 : RdN w 2 v2 rs.length (rawCells rs)) (hr8 : ∀ x ∈ rs, x.1 < 256 ∧ x.2 < 65536) :
    Calls Tryd.prog 3 #[.int .u8 a0, v1, v2, .int .i64 a3, .int .i64 a4] w fun e w' => e = .returned (.bool true) ∧ Below w.heap.size w w' := by
  have h0 := u8_in w0
  obtain ⟨n0, rfl⟩ := Int.eq_ofNat_of_zero_le h0.1
  exact takeNext_calls w n0 v1 v2 cls rs a3 a4 (by omega) h1 h2 h8 hr8 hd

set_option maxRecDepth 100000 in
theorem lifted (os : Os) (started : os.Started) (H : Type) (enc : TypeId × Value → H) :
    ReturnsInHanded {} Tryd.checked os 3 .any (fun w args => (Rows.wearMovesTakeNextSpec.pre enc Tryd.prog Tryd.f3 [] false w args ∧ laidMetH Tryd.prog Rows.wearMovesTakeNextRow.laid w) ∧ sizedMet enc Tryd.prog Tryd.f3 (OpenSpec.ofChange Rows.wearMovesTakeNextSpec) false w args)
      (Rows.wearMovesTakeNextSpec.post enc Tryd.prog Tryd.f3 false true false false) := by
  refine returnsInHanded_of_change_and (C := Tryd.checked) (X := fun w _ => laidMetH Tryd.prog Rows.wearMovesTakeNextRow.laid w) (fun _ _ _ hh h => h.of_heap hh) own started (by kernel_rfl) Tryd.func3
    (ChangeSpec.witness_shaped (enc := enc) (C := Tryd.checked) (os := os) (X := fun w _ => laidMetH Tryd.prog Rows.wearMovesTakeNextRow.laid w) false (World.doorLaid Tryd.prog 400 os) #[.int .u8 0, .slice none 0 0, .slice none 0 0, .int .i64 0, .int .i64 0] 8 rfl (World.shaped_of_RefB (by kernel_rfl) (by kernel_rfl)) (by kernel_rfl) (by kernel_rfl) (by kernel_rfl) (door_met os _)) ?_
  intro W base args ds gs before hval0 hW _ _ hL _
  have hval : ∀ (j : Nat) t v, Tryd.f3.params[j]? = some t → args[j]? = some v → Value.okWide Tryd.prog W .any base t v := hval0
  have hW' := hW
  obtain ⟨p, q, hA0, hV, rfl, hfz, hnd⟩ := hW
  have hA : DataW.TrodAll enc Tryd.prog W 0 (fun _ => true) true Tryd.f3.params.toList args.toList ds p := hA0
  rw [Tryd.params3] at hA hval
  obtain ⟨v0, vs0, d0, ds0, p0, q0, hargs, rfl, rfl, h0, r0⟩ := trodAll_cons hA
  obtain ⟨v1, vs1, d1, ds1, p1, q1, rfl, rfl, rfl, h1, r1⟩ := trodAll_cons r0
  obtain ⟨v2, vs2, d2, ds2, p2, q2, rfl, rfl, rfl, h2, r2⟩ := trodAll_cons r1
  obtain ⟨v3, vs3, d3, ds3, p3, q3, rfl, rfl, rfl, h3, r3⟩ := trodAll_cons r2
  obtain ⟨v4, vs4, d4, ds4, p4, q4, rfl, rfl, rfl, h4, r4⟩ := trodAll_cons r3
  obtain ⟨rfl, rfl, rfl⟩ := trodAll_nil r4
  obtain rfl : args = #[v0, v1, v2, v3, v4] := by cases args; simp_all
  obtain ⟨rfl, rfl⟩ := trodVars_none hV
  obtain ⟨a0, rfl, rfl, rfl, w0⟩ := open_int Tryd.underlying5 (hval 0 5 v0 rfl rfl) h0
  obtain ⟨cls, hcls, _, h8⟩ := open_u8s (hval 1 22 v1 rfl rfl) h1
  obtain ⟨rs, hrs, _, hr8⟩ := open_raws (hval 2 23 v2 rfl rfl) h2
  obtain ⟨a3, rfl, rfl, rfl, w3⟩ := open_int Tryd.underlying3 (hval 3 3 v3 rfl rfl) h3
  obtain ⟨a4, rfl, rfl, rfl, w4⟩ := open_int Tryd.underlying3 (hval 4 3 v4 rfl rfl) h4
  have hd := of_laid hL
  clear hA0 hval0
  simp only [List.append_nil, List.nil_append] at hW'
  have hlt : ∀ x ∈ p1 ++ p2, x.block < W.heap.size := fun x hx => by simpa using hW'.lt x hx
  refine (walk a0 v1 v2 a3 a4 cls rs w0 W hd hcls h8 hrs hr8).mono fun e W' ⟨he, hg⟩ => ?_
  subst he
  have k1 := Below.trod laidOut (by kernel_rfl) (of_decide_eq_true (by kernel_rfl)) h1 hg (fun x hx => hlt x (by simp [hx]))
  have k2 := Below.trod laidOut (by kernel_rfl) (of_decide_eq_true (by kernel_rfl)) h2 hg (fun x hx => hlt x (by simp [hx]))
  exact ⟨_, rfl, post_belowS (pa := [] ++ (p1 ++ (p2 ++ ([] ++ ([] ++ []))))) (pv := []) hW' (fun _ _ _ => (trodAll_cons_mk (shut_bool Tryd.underlying4 _) trodAll_mk0)) (trodAll_cons_mk (shut_int Tryd.underlying5 w0) (trodAll_cons_mk k1 (trodAll_cons_mk k2 (trodAll_cons_mk (shut_int Tryd.underlying3 w3) (trodAll_cons_mk (shut_int Tryd.underlying3 w4) trodAll_mk0))))) rfl (by simp) hg⟩

theorem over : Rows.WearMovesTakeNextSaid :=
  OpenClaim.holds_of_wide 3 Tryd.f3 rfl rfl rfl rfl rfl rfl rfl ⟨rfl, rfl, rfl, rfl, rfl⟩ rfl rfl rfl rfl rfl (by kernel_rfl) Tryd.func3 (by kernel_rfl)
    (of_decide_eq_true (by kernel_rfl)) (by unfold Func.isWrapper; first | (rw [if_pos (by decide +kernel)]; kernel_rfl) | (rw [if_neg (by decide +kernel)]; exact ⟨rfl, rfl⟩))
    (fun os started H enc _ => lifted os started H enc)

/-- ████ THE CARD ████ -/
theorem proved : Rows.WearMovesTakeNextCardSaid :=
  Claim7.holds_tied_plain_at .later [] [.data] true (true, "6683f3120c75e1c167262733bb60e6a172b3c24bb8d53da7825b48f7c4d8952e") false
    over (fun _ h => by cases h) (by kernel_rfl) (fun _ h => by cases h) wearMovesTakeNext_row_tie rfl ⟨rfl, rfl⟩ (by kernel_rfl) rfl
    (fun f fn hf hfn => by
      obtain rfl : f = 3 := Option.some.inj ((show Tryd.prog.funcNamed "alum/alumlaw18.WearMovesTakeNext" = some 3 by kernel_rfl).symm.trans hf) |>.symm
      obtain rfl : fn = Tryd.f3 := (Option.some.inj (Tryd.func3.symm.trans hfn)).symm
      exact ⟨by kernel_rfl, fun j t ht => by
        rw [Tryd.params3] at ht
        have hm : t ∈ [5, 22, 23, 3, 3] := by simpa using Array.mem_of_getElem? ht
        have hall : ([5, 22, 23, 3, 3].all fun u => !Tryd.prog.wantsStandIn u) = true := by kernel_rfl
        exact (show Tryd.prog.wantsStandIn t = false by simpa using List.all_eq_true.1 hall t hm)⟩)
    (by kernel_rfl)
#print axioms proved
end Go.Proofs.YtidiapfmjalaiaaDoor.wearMovesTakeNext
