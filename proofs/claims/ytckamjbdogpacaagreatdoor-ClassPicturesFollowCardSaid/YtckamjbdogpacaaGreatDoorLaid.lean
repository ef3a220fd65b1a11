/-
  The last step of a row whose call leaves all that was there as it was ('Below').
  Arguments that are slices of bytes or of raw blocks, opened; the last step of a row, with the arguments read again.
  What the rows' laid variables say of the world: the tables of layer 7.
-/
import Derived.Test.YtckamjbdogpacaaGreatDoorRows
import Derived.WalkKit
import Derived.ProofKit
import Derived.OpenShut
import Derived.Test.YtckamjbdogpacaaGreatDoorSan
import Derived.Carry
import Derived.Deep.SlicePairs
import Derived.Test.YtckamjbdogpacaaGreatDoorCards
import Derived.Test.YtckamjbdogpacaaGreatDoorTie
import Derived.LaidMore
import Derived.Stop.Joined
import Derived.SevenTiedAt
namespace Go.Proofs.YtckamjbdogpacaaGreatDoor
open Go.RowKit Go.WideShapes Go.ChangeShapes

theorem post_below {H : Type} {enc : TypeId × Value → H} {P : Program} {f : Func} {s : ChangeSpec} {W W' : World} {args : Array Value} {v : Value} {ds gs : List (DataW H)} {before pa pv : List MemPlace}
    (hW : DataW.Whole enc P f.params.toList s.vars false W args.toList ds gs before)
    (hres : ∀ (b : Nat) (sp : Nat → Bool) (hd : Bool), DataW.TrodAll enc P W' b sp hd f.resultTypes.toList (v.resultList f.resultTypes.size) (s.fn H (ds ++ gs)).results [])
    (hargs : ∀ sp : Nat → Bool, (∀ p ∈ before, sp p.block = true) → DataW.TrodAll enc P W' 0 sp true f.params.toList args.toList (s.fn H (ds ++ gs)).args pa)
    (hvars : ∀ sp : Nat → Bool, (∀ p ∈ before, sp p.block = true) → DataW.TrodVars enc P W' sp s.vars (s.fn H (ds ++ gs)).vars pv)
    (hps : before = pa ++ pv) (hb : Below W.heap.size W W') : s.post enc P f false true false false W args v W' := by
  have hold : ∀ p ∈ before, (fun b => decide (b < W.heap.size)) p.block = true := fun p hp => by simpa using hW.lt p hp
  refine ⟨ds, gs, before, [], pa, pv, hW, hres _ _ _, hargs _ hold, hvars _ hold, World.keptBut_mono (fun p hp => ⟨hp, ?_⟩) (hb.frame (· ∈ before)), fun h => by cases h⟩
  rw [hps, List.mem_append] at hp
  exact Or.inr hp
end Go.Proofs.YtckamjbdogpacaaGreatDoor

namespace Go.Proofs.YtckamjbdogpacaaGreatDoor
open Go.RowKit Go.WideShapes Go.ChangeShapes Go.Deep
set_option linter.unusedSimpArgs false
set_option linter.unusedVariables false

theorem laidOut : laidOutB Tryz.prog = true := by kernel_rfl

theorem post_belowS {H : Type} {enc : TypeId × Value → H} {P : Program} {f : Func} {s : ChangeSpec} {W W' : World} {args : Array Value} {v : Value} {ds gs : List (DataW H)} {before pa pv : List MemPlace}
    (hW : DataW.Whole enc P f.params.toList s.vars false W args.toList ds gs before)
    (hres : ∀ (b : Nat) (sp : Nat → Bool) (hd : Bool), DataW.TrodAll enc P W' b sp hd f.resultTypes.toList (v.resultList f.resultTypes.size) (s.fn H (ds ++ gs)).results [])
    (hargs : DataW.TrodAll enc P W' 0 (fun b => decide (b < W.heap.size)) true f.params.toList args.toList (s.fn H (ds ++ gs)).args pa)
    (hvars : DataW.TrodVars enc P W' (fun b => decide (b < W.heap.size)) s.vars (s.fn H (ds ++ gs)).vars pv)
    (hps : before = pa ++ pv) (hb : Below W.heap.size W W') : s.post enc P f false true false false W args v W' := by
  refine ⟨ds, gs, before, [], pa, pv, hW, hres _ _ _, hargs, hvars, World.keptBut_mono (fun p hp => ⟨hp, ?_⟩) (hb.frame (· ∈ before)), fun h => by cases h⟩
  rw [hps, List.mem_append] at hp
  exact Or.inr hp

theorem cell_lt {w : World} {b o : Nat} {v : Value} (h : w.cell? ⟨b, o, none⟩ = some v) : b < w.heap.size := by
  rcases Nat.lt_or_ge b w.heap.size with hlt | hge
  · exact hlt
  · simp [World.cell?, Array.getElem?_eq_none hge] at h

theorem u8_in {n : Int} (h : (Lit.int .u8 n).wf = true) : 0 ≤ n ∧ n ≤ 255 := by simpa [Lit.wf, IntKind.min, IntKind.max, IntKind.signed, IntKind.bits] using h
theorem u16_in {n : Int} (h : (Lit.int .u16 n).wf = true) : 0 ≤ n ∧ n ≤ 65535 := by simpa [Lit.wf, IntKind.min, IntKind.max, IntKind.signed, IntKind.bits] using h

end Go.Proofs.YtckamjbdogpacaaGreatDoor

namespace Go.Proofs.YtckamjbdogpacaaGreatDoor
open Go.ChangeShapes Go.WideShapes Go.ChangeAt Go.RowKit
set_option linter.unusedSimpArgs false
set_option linter.unusedVariables false

theorem own : ownKnob Tryz.prog.godebug = none := by kernel_rfl
theorem gHead : Tryz.prog.globalNamed "alum/pointer.headers" = some 2 := by kernel_rfl
theorem tHead : (Tryz.prog.globals[2]?).map (·.type) = some 164 := by kernel_rfl
theorem gPtr : Tryz.prog.globalNamed "alum/pointer.pointers" = some 0 := by kernel_rfl
theorem tPtr : (Tryz.prog.globals[0]?).map (·.type) = some 124 := by kernel_rfl
theorem cellsInt : Tryz.prog.cellsOf 3 = 1 := by kernel_rfl
theorem cellsPart : Tryz.prog.cellsOf 123 = 2 := by kernel_rfl
theorem cellsArr : Tryz.prog.cellsOf 164 = 6 := by kernel_rfl
theorem cellsArr2 : Tryz.prog.cellsOf 124 = 4 := by kernel_rfl

theorem part_ints {H : Type} {enc : TypeId × Value → H} {W : World} {base fuel : Nat} {sp : Nat → Bool} {hd : Bool} {c0 c1 : Value} {a b : Int} {x : DataW H × List MemPlace}
    (h : DataW.trod enc Tryz.prog W base sp hd fuel 123 [c0, c1] = some x) (hx : x.1 = .agg [.lit (.int .i64 a), .lit (.int .i64 b)]) : c0 = .int .i64 a ∧ c1 = .int .i64 b := by
  obtain ⟨y0, y1, n, hx', _, h0, h1⟩ := trod_struct2 Tryz.underlying123 h
  simp [cellsInt] at h0 h1
  obtain ⟨a', e0, rfl, _⟩ := DataW.trod_int Tryz.underlying3 h0
  obtain ⟨b', e1, rfl, _⟩ := DataW.trod_int Tryz.underlying3 h1
  rw [hx'] at hx
  simp at e0 e1 hx
  exact ⟨by rw [e0, hx.1], by rw [e1, hx.2]⟩

/-- The laid list of all five rows. -/
def laidAll : List (String × DataW Unit) := [("alum/pointer.pointers", Rows.laid_alum_pointer_pointers), ("alum/pointer.headers", Rows.laid_alum_pointer_headers), ("math/bits.deBruijn32tab", Rows.laid_math_bits_deBruijn32tab), ("math/bits.deBruijn64tab", Rows.laid_math_bits_deBruijn64tab)]

set_option maxRecDepth 100000 in
theorem of_laid {W : World} (h : laidMetH Tryz.prog laidAll W) : Hd W ∧ Pt W := by
  unfold laidAll at h
  rw [MakeChecks.laidMetH_plain _ _ _ (by kernel_rfl)] at h
  obtain ⟨ps, ⟨g1, t1, cs1, f1, p1, q1, hg1, ht1, hv1, hd1, ⟨g0, t0, cs0, f0, p0, q0, hg0, ht0, hv0, hd0, _, _⟩, _⟩, _, _⟩ := h
  have hPt : Pt W := by
    obtain rfl := Option.some.inj (gPtr.symm.trans hg1)
    obtain rfl := Option.some.inj (tPtr.symm.trans ht1)
    obtain ⟨xs, m1, _, hx1, hlen, hn3, hel⟩ := DataW.trod_array Tryz.underlying124 hd1
    rw [cellsArr2] at hlen
    have k0 := World.var?_cell hg1 hv1
    obtain ⟨l⟩ := cs1
    match xs, hn3, hx1, l, hlen with
    | [x0, x1], _, hx1, [c0, c1, c2, c3], _ =>
      have h0 := hel 0 (by decide)
      have h1 := hel 1 (by decide)
      simp [cellsPart] at h0 h1
      simp only [Prod.mk.injEq, Rows.laid_alum_pointer_pointers, DataW.agg.injEq, List.map_cons, List.map_nil, List.cons.injEq, and_true] at hx1
      obtain ⟨rfl, rfl⟩ := part_ints h0 hx1.1.1.symm
      obtain ⟨rfl, rfl⟩ := part_ints h1 hx1.1.2.symm
      exact ⟨k0 0, k0 1, k0 2, k0 3⟩
  have hHd : Hd W := by
    obtain rfl := Option.some.inj (gHead.symm.trans hg0)
    obtain rfl := Option.some.inj (tHead.symm.trans ht0)
    obtain ⟨xs, m1, _, hx1, hlen, hn3, hel⟩ := DataW.trod_array Tryz.underlying164 hd0
    rw [cellsArr] at hlen
    have k0 := World.var?_cell hg0 hv0
    obtain ⟨l⟩ := cs0
    match xs, hn3, hx1, l, hlen with
    | [x0, x1, x2], _, hx1, [c0, c1, c2, c3, c4, c5], _ =>
      have h0 := hel 0 (by decide)
      have h1 := hel 1 (by decide)
      have h2 := hel 2 (by decide)
      simp [cellsPart] at h0 h1 h2
      simp only [Prod.mk.injEq, Rows.laid_alum_pointer_headers, DataW.agg.injEq, List.map_cons, List.map_nil, List.cons.injEq, and_true] at hx1
      obtain ⟨rfl, rfl⟩ := part_ints h0 hx1.1.1.symm
      obtain ⟨rfl, rfl⟩ := part_ints h1 hx1.1.2.1.symm
      obtain ⟨rfl, rfl⟩ := part_ints h2 hx1.1.2.2.symm
      exact ⟨k0 0, k0 1, k0 2, k0 3, k0 4, k0 5⟩
  exact ⟨hHd, hPt⟩

set_option maxRecDepth 100000 in
theorem door_met (os : Os) (args : Array Value) : laidMetH Tryz.prog laidAll ((World.doorLaid Tryz.prog 400 os).forCall (fun _ _ => 0) ⟨#[], args, []⟩).memory :=
  laidMetH_of_parts3 (fuel := 8) (laidMet_of_run' 8 (by kernel_rfl) (by kernel_rfl)) (by kernel_rfl) (by kernel_rfl)
end Go.Proofs.YtckamjbdogpacaaGreatDoor
