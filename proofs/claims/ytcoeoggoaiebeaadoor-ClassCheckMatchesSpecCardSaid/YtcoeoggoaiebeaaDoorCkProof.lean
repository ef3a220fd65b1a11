/-
  For all arguments ClassCheckMatchesSpec returns true, and the arguments read as before; the tables of layer 7 are as the program's text lays them (the card ties them).
  (The frame of the row's step was written by the kit's proof-skeleton program for another row, and turned to this one; the walk and the plain law are my own.)
-/
import Derived.Test.YtcoeoggoaiebeaaDoorCkWalk
import Derived.Test.YtcoeoggoaiebeaaDoorPicArg
namespace Go.Proofs.YtcoeoggoaiebeaaDoor.classCheckMatchesSpec
open Go.ChangeShapes Go.WideShapes Go.ChangeAt Go.RowKit
set_option linter.unusedVariables false      -- not every row uses every 'w<i>' (that an integer argument fits its kind)

theorem walk (a0 a2 : Int) (ch bl bd : Value) {t1 t2 t3 : TypeId} (cs : List Int) (bs : List Bk) (ds : List Int) (w0 : (Lit.int .u8 a0).wf = true) (w : World)
    (h1 : RI w t1 ch cs) (h2 : RB w t2 bl bs) (h3 : RI w t3 bd ds) (hd : Hd w) (hp : Pt w) :
    Calls Tryd.prog 7 #[.int .u8 a0, .agg #[ch, bl, bd], .int .i64 a2] w fun e w' => e = .returned (.bool true) ∧ Below w.heap.size w w' := by
  have h0 := u8_in w0
  obtain ⟨n0, rfl⟩ := Int.eq_ofNat_of_zero_le h0.1
  exact check_law w n0 a2 ch bl bd cs bs ds (by omega) h1 h2 h3 hd hp

set_option maxRecDepth 100000 in
theorem lifted (os : Os) (started : os.Started) (H : Type) (enc : TypeId × Value → H) :
    ReturnsInHanded {} Tryd.checked os 7 .any (fun w args => (Rows.classCheckMatchesSpecSpec.pre enc Tryd.prog Tryd.f7 [] false w args ∧ laidMetH Tryd.prog Rows.classCheckMatchesSpecRow.laid w) ∧ sizedMet enc Tryd.prog Tryd.f7 (OpenSpec.ofChange Rows.classCheckMatchesSpecSpec) false w args)
      (Rows.classCheckMatchesSpecSpec.post enc Tryd.prog Tryd.f7 false true false false) := by
  refine returnsInHanded_of_change_and (C := Tryd.checked) (X := fun w _ => laidMetH Tryd.prog Rows.classCheckMatchesSpecRow.laid w) (fun _ _ _ hh h => h.of_heap hh) own started (by kernel_rfl) Tryd.func7
    (ChangeSpec.witness_shaped (enc := enc) (C := Tryd.checked) (os := os) (X := fun w _ => laidMetH Tryd.prog Rows.classCheckMatchesSpecRow.laid w) false (World.doorLaid Tryd.prog 400 os) #[.int .u8 0, .agg #[.slice none 0 0, .slice none 0 0, .slice none 0 0], .int .i64 0] 8 rfl (World.shaped_of_RefB (by kernel_rfl) (by kernel_rfl)) (by kernel_rfl) (by kernel_rfl) (by kernel_rfl) (door_met os _)) ?_
  intro W base args ds gs before hval0 hW _ _ hL _
  have hval : ∀ (j : Nat) t v, Tryd.f7.params[j]? = some t → args[j]? = some v → Value.okWide Tryd.prog W .any base t v := hval0
  have hW' := hW
  obtain ⟨p, q, hA0, hV, rfl, hfz, hnd⟩ := hW
  have hA : DataW.TrodAll enc Tryd.prog W 0 (fun _ => true) true Tryd.f7.params.toList args.toList ds p := hA0
  rw [Tryd.params7] at hA hval
  obtain ⟨v0, vs0, d0, ds0, p0, q0, hargs, rfl, rfl, h0, r0⟩ := trodAll_cons hA
  obtain ⟨v1, vs1, d1, ds1, p1, q1, rfl, rfl, rfl, h1, r1⟩ := trodAll_cons r0
  obtain ⟨v2, vs2, d2, ds2, p2, q2, rfl, rfl, rfl, h2, r2⟩ := trodAll_cons r1
  obtain ⟨rfl, rfl, rfl⟩ := trodAll_nil r2
  obtain rfl : args = #[v0, v1, v2] := by cases args; simp_all
  obtain ⟨rfl, rfl⟩ := trodVars_none hV
  obtain ⟨a0, rfl, rfl, rfl, w0⟩ := open_int Tryd.underlying5 (hval 0 5 v0 rfl rfl) h0
  obtain ⟨ch, bl, bd, t1, t2, t3, cs, bs, es, rfl, g1, g2, g3⟩ := open_pic (hval 1 45 v1 rfl rfl) h1
  obtain ⟨a2, rfl, rfl, rfl, w2⟩ := open_int Tryd.underlying3 (hval 2 3 v2 rfl rfl) h2
  obtain ⟨hd, hp⟩ := of_laid hL
  clear hA0 hval0
  simp only [List.append_nil, List.nil_append] at hW'
  have hlt : ∀ x ∈ p1, x.block < W.heap.size := fun x hx => by simpa using hW'.lt x hx
  refine (walk a0 a2 ch bl bd cs bs es w0 W g1 g2 g3 hd hp).mono fun e W' ⟨he, hg⟩ => ?_
  subst he
  have k1 := Below.trod laidOut (by kernel_rfl) (of_decide_eq_true (by kernel_rfl)) h1 hg hlt
  exact ⟨_, rfl, post_belowS (pa := [] ++ (p1 ++ ([] ++ []))) (pv := []) hW' (fun _ _ _ => (trodAll_cons_mk (shut_bool Tryd.underlying4 _) trodAll_mk0)) (trodAll_cons_mk (shut_int Tryd.underlying5 w0) (trodAll_cons_mk k1 (trodAll_cons_mk (shut_int Tryd.underlying3 w2) trodAll_mk0))) rfl (by simp) hg⟩

theorem over : Rows.ClassCheckMatchesSpecSaid :=
  OpenClaim.holds_of_wide 7 Tryd.f7 rfl rfl rfl rfl rfl rfl rfl ⟨rfl, rfl, rfl, rfl, rfl⟩ rfl rfl rfl rfl rfl (by kernel_rfl) Tryd.func7 (by kernel_rfl)
    (of_decide_eq_true (by kernel_rfl)) (by unfold Func.isWrapper; first | (rw [if_pos (by decide +kernel)]; kernel_rfl) | (rw [if_neg (by decide +kernel)]; exact ⟨rfl, rfl⟩))
    (fun os started H enc _ => lifted os started H enc)

/-- ████ THE CARD ████ -/
theorem proved : Rows.ClassCheckMatchesSpecCardSaid :=
  Claim7.holds_tied_plain_at .later [] [.data, .data, .data, .data] true (true, "11d0690f375029bff02001c2a49f577bf1b317f88ac2841ca4235a8c7fe2cf3b") false
    over (fun _ h => by cases h) (by kernel_rfl) (fun _ h => by cases h) classCheckMatchesSpec_row_tie rfl ⟨rfl, rfl⟩ (by kernel_rfl) rfl
    (fun f fn hf hfn => by
      obtain rfl : f = 7 := Option.some.inj ((show Tryd.prog.funcNamed "alum/alumlaw11.ClassCheckMatchesSpec" = some 7 by kernel_rfl).symm.trans hf) |>.symm
      obtain rfl : fn = Tryd.f7 := (Option.some.inj (Tryd.func7.symm.trans hfn)).symm
      exact ⟨by kernel_rfl, fun j t ht => by
        rw [Tryd.params7] at ht
        have hm : t ∈ [5, 45, 3] := by simpa using Array.mem_of_getElem? ht
        have hall : ([5, 45, 3].all fun u => !Tryd.prog.wantsStandIn u) = true := by kernel_rfl
        exact (show Tryd.prog.wantsStandIn t = false by simpa using List.all_eq_true.1 hall t hm)⟩)
    (by kernel_rfl)
#print axioms proved
end Go.Proofs.YtcoeoggoaiebeaaDoor.classCheckMatchesSpec
