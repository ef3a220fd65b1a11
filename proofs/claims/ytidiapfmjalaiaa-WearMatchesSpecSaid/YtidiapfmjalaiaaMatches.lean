/-
  WearMatchesSpec returns true, whatever its arguments. (Printed by gen_match.py.)
-/
import Derived.Test.YtidiapfmjalaiaaRefMoves
import Derived.Test.YtidiapfmjalaiaaMade
import Derived.Test.YtidiapfmjalaiaaIsEven
import Derived.Deep.RegionHeld3
import Derived.Deep.DeepCutAuto
namespace Go.Proofs.Ytidiapfmjalaiaa
open Go.RowKit

theorem run_equalIn_use (w : World) (a b c : Int) : (Op.equalIn 10000 38 (.agg #[.int .i64 a, .int .i64 b, .int .i64 c]) (.agg #[.int .i64 a, .int .i64 b, .int .i64 c])).run Try.prog w = .ok true w := by
  have hu : Try.prog.underlying 38 = some (.struct (Try.prog.fieldsOf 38)) := by kernel_rfl
  have hs : Try.prog.stoodInHeld 38 = false := by kernel_rfl
  rw [run_equalIn_struct w 9999 _ _ _ hu hs]
  clear hu hs
  simp only [Program.fieldsOf, Try.underlying38]
  go_simp
theorem run_neq_use (w : World) (a b c : Int) : (binOp .neq 38 (.agg #[.int .i64 a, .int .i64 b, .int .i64 c]) (.agg #[.int .i64 a, .int .i64 b, .int .i64 c])).run Try.prog w = .ok (.bool false) w := by
  rw [run_neq_struct, run_equalIn_use]; rfl
attribute [go_sem high] run_neq_use

theorem useOf_in (bs : List Bk) (c : Int) (hg : GenOk 2000000 bs) : 0 ≤ (useOf bs c).1 ∧ (useOf bs c).1 ≤ 2000000 ∧ 0 ≤ (useOf bs c).2.1 ∧ (useOf bs c).2.1 ≤ 2000000 := by
  have := useOf_bounds bs c 0 2000000 (by omega) (by omega) (fun b hb _ => hg b hb)
  rcases this with h | h <;> omega

/-- Both functions After return the same picture and the same error. -/
theorem after_both (cs : List Int) (bs : List Bk) (f t : Bk) (hcn : cs.length ≤ 1000) (hn : bs.length ≤ 1000) : ∃ (cs' : List Int) (bs' : List Bk) (err : Int), cs'.length ≤ 1000 ∧ bs'.length ≤ 1000 ∧
    (∀ w ch bl bd, RdI w ch cs → RdB w bl bs → RdI w bd [] → Calls Try.prog 14 #[.agg #[ch, bl, bd], .agg #[.int .i64 (Bk.line f), .int .i64 (Bk.cls f), .int .i64 (Bk.kind f), .int .i64 (Bk.gen f), .int .i64 (Bk.line t), .int .i64 (Bk.cls t), .int .i64 (Bk.kind t), .int .i64 (Bk.gen t)]] w (PicPost w cs' bs' [] err)) ∧
    (∀ w ch bl bd, RdI w ch cs → RdB w bl bs → RdI w bd [] → Calls Try.prog 15 #[.agg #[ch, bl, bd], .agg #[.int .i64 (Bk.line f), .int .i64 (Bk.cls f), .int .i64 (Bk.kind f), .int .i64 (Bk.gen f), .int .i64 (Bk.line t), .int .i64 (Bk.cls t), .int .i64 (Bk.kind t), .int .i64 (Bk.gen t)]] w (PicPost w cs' bs' [] err)) := by
  by_cases h : okMove bs f t
  · refine ⟨cs, afterB bs f t, 0, hcn, by rw [afterB_length]; exact hn, fun w ch bl bd h1 h2 h3 => ?_, fun w ch bl bd h1 h2 h3 => ?_⟩
    · exact after_ok8 w ch bl bd cs bs [] f t h1 h2 h3 hcn hn (by simp) h
    · exact ref_after_ok w ch bl bd cs bs [] f t h1 h2 h3 hcn hn (by simp) h
  · refine ⟨[], [], 1, by simp, by simp, fun w ch bl bd h1 h2 h3 => ?_, fun w ch bl bd h1 h2 h3 => ?_⟩
    · exact after_no8 w ch bl bd bs f t h2 hn h
    · exact ref_after_no w ch bl bd bs f t h2 hn h

set_option maxHeartbeats 1000000 in
theorem matches_out (w : World) (n : Nat) (cv rv : Value) (cls : List Nat) (rs : List (Nat × Nat)) (more c most : Int) (f t : Bk) (hn : n < 256) (hc : RdN w 1 cv cls.length (u8s cls)) (hr : RdN w 2 rv rs.length (rawCells rs))
    (h : 10 < cls.length ∨ 40 < rs.length ∨ more < 0 ∨ 1048575 < more) :
    Calls Try.prog 3 #[.int .u8 (n : Int), cv, rv, .int .i64 more, .int .i64 c, .int .i64 most, .agg #[.int .i64 (Bk.line f), .int .i64 (Bk.cls f), .int .i64 (Bk.kind f), .int .i64 (Bk.gen f), .int .i64 (Bk.line t), .int .i64 (Bk.cls t), .int .i64 (Bk.kind t), .int .i64 (Bk.gen t)]] w (SanePost w) := by
  go_enter Try.func3, Try.ntmps3
  go_wp2_with fail
  refine (made_no _ n _ _ cls rs more hn (hc.below (by (repeat (first | with_reducible exact Below.refl _ _ | with_reducible assumption | with_reducible refine below_drewN ?_ _ | with_reducible refine Below.drew ?_ | with_reducible refine Below.alloc ?_ (by first | omega | (simp; omega) | simp) _ | with_reducible refine Below.setCell ?_ (by first | omega | (simp; omega) | simp) _)))) (hr.below (by (repeat (first | with_reducible exact Below.refl _ _ | with_reducible assumption | with_reducible refine below_drewN ?_ _ | with_reducible refine Below.drew ?_ | with_reducible refine Below.alloc ?_ (by first | omega | (simp; omega) | simp) _ | with_reducible refine Below.setCell ?_ (by first | omega | (simp; omega) | simp) _)))) h).mono ?_
  rintro e w1 h1
  obtain ⟨a1, k1, a2, k2, a3, k3, rfl, -, -, -, hb1⟩ := h1.forms
  have hB : Below w.heap.size w w1 := Below.trans (by (repeat (first | with_reducible exact Below.refl _ _ | with_reducible assumption | with_reducible refine below_drewN ?_ _ | with_reducible refine Below.drew ?_ | with_reducible refine Below.alloc ?_ (by first | omega | (simp; omega) | simp) _ | with_reducible refine Below.setCell ?_ (by first | omega | (simp; omega) | simp) _))) (hb1.mono (by simp))
  clear hb1 h1
  have hs1 := hB.size
  go_wp2_with fail
  refine (sanity_calls _).mono ?_
  rintro e w2 ⟨rfl, hb2⟩
  have hB2 : Below w.heap.size w w2 := Below.trans (show Below w.heap.size w (w1.alloc _) by (repeat (first | with_reducible exact Below.refl _ _ | with_reducible assumption | with_reducible refine below_drewN ?_ _ | with_reducible refine Below.drew ?_ | with_reducible refine Below.alloc ?_ (by first | omega | (simp; omega) | simp) _ | with_reducible refine Below.setCell ?_ (by first | omega | (simp; omega) | simp) _))) (hb2.mono (by have := hB.size; simp; omega))
  go_wp2_with fail
  go_ret
  exact ⟨rfl, hB2⟩

set_option maxHeartbeats 1000000 in
theorem matches_many (w : World) (n : Nat) (cv rv : Value) (cls : List Nat) (rs : List (Nat × Nat)) (more : Nat) (c most : Int) (f t : Bk) (hn : n < 256) (hc : RdN w 1 cv cls.length (u8s cls)) (hr : RdN w 2 rv rs.length (rawCells rs))
    (hc8 : ∀ c ∈ cls, c < 256) (hr8 : ∀ r ∈ rs, r.1 < 256 ∧ r.2 < 65536) (h1 : cls.length ≤ 10) (h2 : rs.length ≤ 40) (h3 : more ≤ 1048575) (hm : 30 < most) :
    Calls Try.prog 3 #[.int .u8 (n : Int), cv, rv, .int .i64 (more : Int), .int .i64 c, .int .i64 most, .agg #[.int .i64 (Bk.line f), .int .i64 (Bk.cls f), .int .i64 (Bk.kind f), .int .i64 (Bk.gen f), .int .i64 (Bk.line t), .int .i64 (Bk.cls t), .int .i64 (Bk.kind t), .int .i64 (Bk.gen t)]] w (SanePost w) := by
  go_enter Try.func3, Try.ntmps3
  go_wp2_with fail
  refine (made_yes _ n _ _ cls rs more hn (hc.below (by (repeat (first | with_reducible exact Below.refl _ _ | with_reducible assumption | with_reducible refine below_drewN ?_ _ | with_reducible refine Below.drew ?_ | with_reducible refine Below.alloc ?_ (by first | omega | (simp; omega) | simp) _ | with_reducible refine Below.setCell ?_ (by first | omega | (simp; omega) | simp) _)))) (hr.below (by (repeat (first | with_reducible exact Below.refl _ _ | with_reducible assumption | with_reducible refine below_drewN ?_ _ | with_reducible refine Below.drew ?_ | with_reducible refine Below.alloc ?_ (by first | omega | (simp; omega) | simp) _ | with_reducible refine Below.setCell ?_ (by first | omega | (simp; omega) | simp) _)))) hc8 hr8 h1 h2 h3).mono ?_
  rintro e w1 h1
  obtain ⟨a1, k1, a2, k2, a3, k3, rfl, -, -, -, hb1⟩ := h1.forms
  have hB : Below w.heap.size w w1 := Below.trans (by (repeat (first | with_reducible exact Below.refl _ _ | with_reducible assumption | with_reducible refine below_drewN ?_ _ | with_reducible refine Below.drew ?_ | with_reducible refine Below.alloc ?_ (by first | omega | (simp; omega) | simp) _ | with_reducible refine Below.setCell ?_ (by first | omega | (simp; omega) | simp) _))) (hb1.mono (by simp))
  clear hb1 h1
  have hs1 := hB.size
  go_wp2_with fail
  refine (sanity_calls _).mono ?_
  rintro e w2 ⟨rfl, hb2⟩
  have hB2 : Below w.heap.size w w2 := Below.trans (show Below w.heap.size w (w1.alloc _) by (repeat (first | with_reducible exact Below.refl _ _ | with_reducible assumption | with_reducible refine below_drewN ?_ _ | with_reducible refine Below.drew ?_ | with_reducible refine Below.alloc ?_ (by first | omega | (simp; omega) | simp) _ | with_reducible refine Below.setCell ?_ (by first | omega | (simp; omega) | simp) _))) (hb2.mono (by have := hB.size; simp; omega))
  go_wp2_with fail
  go_ret
  exact ⟨rfl, hB2⟩

set_option maxRecDepth 100000 in
set_option maxHeartbeats 8000000 in
theorem matches_yes (w : World) (n : Nat) (cv rv : Value) (cls : List Nat) (rs : List (Nat × Nat)) (more : Nat) (c most : Int) (f t : Bk) (hn : n < 256) (hc : RdN w 1 cv cls.length (u8s cls)) (hr : RdN w 2 rv rs.length (rawCells rs))
    (hc8 : ∀ c ∈ cls, c < 256) (hr8 : ∀ r ∈ rs, r.1 < 256 ∧ r.2 < 65536) (h1 : cls.length ≤ 10) (h2 : rs.length ≤ 40) (h3 : more ≤ 1048575) (hm : most ≤ 30) :
    Calls Try.prog 3 #[.int .u8 (n : Int), cv, rv, .int .i64 (more : Int), .int .i64 c, .int .i64 most, .agg #[.int .i64 (Bk.line f), .int .i64 (Bk.cls f), .int .i64 (Bk.kind f), .int .i64 (Bk.gen f), .int .i64 (Bk.line t), .int .i64 (Bk.cls t), .int .i64 (Bk.kind t), .int .i64 (Bk.gen t)]] w (SanePost w) := by
  have hN := madeN_le n
  have hg : GenOk 2000000 (picB 16 cls rs more (madeN n)) := (picB_gen 16 cls rs more (madeN n)).mono (by omega)
  have hcl : (picC cls (madeN n)).length ≤ 1000 := by rw [picC_length]; omega
  have hbl : (picB 16 cls rs more (madeN n)).length ≤ 1000 := by have := picB_length 16 cls rs more (madeN n); omega
  go_enter Try.func3, Try.ntmps3
  go_wp2_with fail
  refine (made_yes _ n _ _ cls rs more hn (hc.below (by (repeat (first | with_reducible exact Below.refl _ _ | with_reducible assumption | with_reducible refine below_drewN ?_ _ | with_reducible refine Below.drew ?_ | with_reducible refine Below.alloc ?_ (by first | omega | (simp; omega) | simp) _ | with_reducible refine Below.setCell ?_ (by first | omega | (simp; omega) | simp) _)))) (hr.below (by (repeat (first | with_reducible exact Below.refl _ _ | with_reducible assumption | with_reducible refine below_drewN ?_ _ | with_reducible refine Below.drew ?_ | with_reducible refine Below.alloc ?_ (by first | omega | (simp; omega) | simp) _ | with_reducible refine Below.setCell ?_ (by first | omega | (simp; omega) | simp) _)))) hc8 hr8 h1 h2 h3).mono ?_
  rintro e w1 h1
  obtain ⟨a1, k1, a2, k2, a3, k3, rfl, x1, x2, x3, hb1⟩ := h1.forms
  have hB : Below w.heap.size w w1 := Below.trans (by (repeat (first | with_reducible exact Below.refl _ _ | with_reducible assumption | with_reducible refine below_drewN ?_ _ | with_reducible refine Below.drew ?_ | with_reducible refine Below.alloc ?_ (by first | omega | (simp; omega) | simp) _ | with_reducible refine Below.setCell ?_ (by first | omega | (simp; omega) | simp) _))) (hb1.mono (by simp))
  have hM := (Cl.new w 27 #[.int .i64 (Bk.line f), .int .i64 (Bk.cls f), .int .i64 (Bk.kind f), .int .i64 (Bk.gen f), .int .i64 (Bk.line t), .int .i64 (Bk.cls t), .int .i64 (Bk.kind t), .int .i64 (Bk.gen t)]).below hb1 (by simp)
  clear hb1 h1 hc hr hc8 hr8
  generalize picC cls (madeN n) = cs at *
  generalize picB 16 cls rs more (madeN n) = bs at *
  obtain ⟨cs', bs', err, hcl', hbl', hAf, hAr⟩ := after_both cs bs f t hcl hbl
  obtain ⟨hu1, hu2, hu3, hu4⟩ := useOf_in bs c hg
  have HAf := Lib.hid hAf
  have HAr := Lib.hid hAr
  clear hAf hAr
  have ylt := hM.lt
  go_wp2_with fail
  refine (use_calls _ _ _ _ bs c (by first | exact x2 | exact x2.below (by (repeat (first | with_reducible exact Below.refl _ _ | with_reducible assumption | with_reducible refine below_drewN ?_ _ | with_reducible refine Below.drew ?_ | with_reducible refine Below.alloc ?_ (by first | omega | (simp; omega) | simp) _ | with_reducible refine Below.setCell ?_ (by first | omega | (simp; omega) | simp) _)))) hbl).mono ?_
  rintro e w2 ⟨rfl, hb2⟩
  have hA2 : Below w1.heap.size w1 w2 := Below.trans (by (repeat (first | with_reducible exact Below.refl _ _ | with_reducible assumption | with_reducible refine below_drewN ?_ _ | with_reducible refine Below.drew ?_ | with_reducible refine Below.alloc ?_ (by first | omega | (simp; omega) | simp) _ | with_reducible refine Below.setCell ?_ (by first | omega | (simp; omega) | simp) _))) (hb2.mono (by first | omega | simp | (simp; omega)))
  have hX := (Cl.new w1 31 #[.slice a1 cs.length k1, .slice a2 bs.length k2, .slice a3 0 k3]).below hb2 (by simp)
  replace hB := hB.trans (hA2.mono hB.size)
  replace x1 := x1.below hA2
  replace x2 := x2.below hA2
  replace x3 := x3.below hA2
  replace hM := hM.below hA2 hM.lt
  clear hb2 hA2
  obtain ⟨⟨y0, y1, y2⟩, -⟩ := hX.has3
  have lt_hX := hX.lt
  go_wp2_with fail
  refine (of_calls _ _ _ _ bs c (by first | exact x2 | exact x2.below (by (repeat (first | with_reducible exact Below.refl _ _ | with_reducible assumption | with_reducible refine below_drewN ?_ _ | with_reducible refine Below.drew ?_ | with_reducible refine Below.alloc ?_ (by first | omega | (simp; omega) | simp) _ | with_reducible refine Below.setCell ?_ (by first | omega | (simp; omega) | simp) _)))) hbl).mono ?_
  rintro e w3 ⟨rfl, hb3⟩
  clear lt_hX y0 y1 y2
  have hA3 : Below w2.heap.size w2 w3 := Below.trans (by (repeat (first | with_reducible exact Below.refl _ _ | with_reducible assumption | with_reducible refine below_drewN ?_ _ | with_reducible refine Below.drew ?_ | with_reducible refine Below.alloc ?_ (by first | omega | (simp; omega) | simp) _ | with_reducible refine Below.setCell ?_ (by first | omega | (simp; omega) | simp) _))) (hb3.mono (by first | omega | simp | (simp; omega)))
  replace hB := hB.trans (hA3.mono hB.size)
  replace x1 := x1.below hA3
  replace x2 := x2.below hA3
  replace x3 := x3.below hA3
  replace hM := hM.below hA3 hM.lt
  replace hX := hX.below hA3 hX.lt
  clear hb3 hA3
  obtain ⟨⟨y0, y1, y2⟩, -⟩ := hX.has3
  have lt_hX := hX.lt
  go_wp2_with fail
  refine (next_calls _ _ _ _ bs c (by first | exact x2 | exact x2.below (by (repeat (first | with_reducible exact Below.refl _ _ | with_reducible assumption | with_reducible refine below_drewN ?_ _ | with_reducible refine Below.drew ?_ | with_reducible refine Below.alloc ?_ (by first | omega | (simp; omega) | simp) _ | with_reducible refine Below.setCell ?_ (by first | omega | (simp; omega) | simp) _)))) hbl).mono ?_
  rintro e w4 ⟨rfl, hb4⟩
  clear lt_hX y0 y1 y2
  have hA4 : Below w3.heap.size w3 w4 := Below.trans (by (repeat (first | with_reducible exact Below.refl _ _ | with_reducible assumption | with_reducible refine below_drewN ?_ _ | with_reducible refine Below.drew ?_ | with_reducible refine Below.alloc ?_ (by first | omega | (simp; omega) | simp) _ | with_reducible refine Below.setCell ?_ (by first | omega | (simp; omega) | simp) _))) (hb4.mono (by first | omega | simp | (simp; omega)))
  have hU := (Cl.new w3 38 #[.int .i64 (useOf bs c).1, .int .i64 (useOf bs c).2.1, .int .i64 (useOf bs c).2.2]).below hb4 (by simp)
  replace hB := hB.trans (hA4.mono hB.size)
  replace x1 := x1.below hA4
  replace x2 := x2.below hA4
  replace x3 := x3.below hA4
  replace hM := hM.below hA4 hM.lt
  replace hX := hX.below hA4 hX.lt
  clear hb4 hA4
  obtain ⟨⟨y0, y1, y2⟩, -⟩ := hX.has3
  have lt_hX := hX.lt
  go_wp2_with fail
  refine (ref_next_calls _ _ _ _ bs c (by first | exact x2 | exact x2.below (by (repeat (first | with_reducible exact Below.refl _ _ | with_reducible assumption | with_reducible refine below_drewN ?_ _ | with_reducible refine Below.drew ?_ | with_reducible refine Below.alloc ?_ (by first | omega | (simp; omega) | simp) _ | with_reducible refine Below.setCell ?_ (by first | omega | (simp; omega) | simp) _)))) hbl).mono ?_
  rintro e w5 ⟨rfl, hb5⟩
  clear lt_hX y0 y1 y2
  have hA5 : Below w4.heap.size w4 w5 := Below.trans (by (repeat (first | with_reducible exact Below.refl _ _ | with_reducible assumption | with_reducible refine below_drewN ?_ _ | with_reducible refine Below.drew ?_ | with_reducible refine Below.alloc ?_ (by first | omega | (simp; omega) | simp) _ | with_reducible refine Below.setCell ?_ (by first | omega | (simp; omega) | simp) _))) (hb5.mono (by first | omega | simp | (simp; omega)))
  have hNa := (Cl.new w4 25 #[.int .i64 (Bk.line (outBk (nextB bs c))), .int .i64 (Bk.cls (outBk (nextB bs c))), .int .i64 (Bk.kind (outBk (nextB bs c))), .int .i64 (Bk.gen (outBk (nextB bs c)))]).below hb5 (by simp)
  replace hB := hB.trans (hA5.mono hB.size)
  replace x1 := x1.below hA5
  replace x2 := x2.below hA5
  replace x3 := x3.below hA5
  replace hM := hM.below hA5 hM.lt
  replace hX := hX.below hA5 hX.lt
  replace hU := hU.below hA5 hU.lt
  clear hb5 hA5
  obtain ⟨⟨y0, y1, y2⟩, -⟩ := hX.has3
  have lt_hX := hX.lt
  go_wp2_with fail
  refine (level_calls _ _ _ _ bs c (by first | exact x2 | exact x2.below (by (repeat (first | with_reducible exact Below.refl _ _ | with_reducible assumption | with_reducible refine below_drewN ?_ _ | with_reducible refine Below.drew ?_ | with_reducible refine Below.alloc ?_ (by first | omega | (simp; omega) | simp) _ | with_reducible refine Below.setCell ?_ (by first | omega | (simp; omega) | simp) _)))) hbl hg).mono ?_
  rintro e w6 ⟨rfl, hb6⟩
  clear lt_hX y0 y1 y2
  have hA6 : Below w5.heap.size w5 w6 := Below.trans (by (repeat (first | with_reducible exact Below.refl _ _ | with_reducible assumption | with_reducible refine below_drewN ?_ _ | with_reducible refine Below.drew ?_ | with_reducible refine Below.alloc ?_ (by first | omega | (simp; omega) | simp) _ | with_reducible refine Below.setCell ?_ (by first | omega | (simp; omega) | simp) _))) (hb6.mono (by first | omega | simp | (simp; omega)))
  have hNb := (Cl.new w5 25 #[.int .i64 (Bk.line (outBk (nextB bs c))), .int .i64 (Bk.cls (outBk (nextB bs c))), .int .i64 (Bk.kind (outBk (nextB bs c))), .int .i64 (Bk.gen (outBk (nextB bs c)))]).below hb6 (by simp)
  replace hB := hB.trans (hA6.mono hB.size)
  replace x1 := x1.below hA6
  replace x2 := x2.below hA6
  replace x3 := x3.below hA6
  replace hM := hM.below hA6 hM.lt
  replace hX := hX.below hA6 hX.lt
  replace hU := hU.below hA6 hU.lt
  replace hNa := hNa.below hA6 hNa.lt
  clear hb6 hA6
  obtain ⟨⟨y0, y1, y2⟩, -⟩ := hX.has3
  have lt_hX := hX.lt
  go_wp2_with fail
  refine (ref_level_calls _ _ _ _ bs c (by first | exact x2 | exact x2.below (by (repeat (first | with_reducible exact Below.refl _ _ | with_reducible assumption | with_reducible refine below_drewN ?_ _ | with_reducible refine Below.drew ?_ | with_reducible refine Below.alloc ?_ (by first | omega | (simp; omega) | simp) _ | with_reducible refine Below.setCell ?_ (by first | omega | (simp; omega) | simp) _)))) hbl hg).mono ?_
  rintro e w7 ⟨rfl, hb7⟩
  clear lt_hX y0 y1 y2
  have hA7 : Below w6.heap.size w6 w7 := Below.trans (by (repeat (first | with_reducible exact Below.refl _ _ | with_reducible assumption | with_reducible refine below_drewN ?_ _ | with_reducible refine Below.drew ?_ | with_reducible refine Below.alloc ?_ (by first | omega | (simp; omega) | simp) _ | with_reducible refine Below.setCell ?_ (by first | omega | (simp; omega) | simp) _))) (hb7.mono (by first | omega | simp | (simp; omega)))
  have hLa := (Cl.new w6 25 #[.int .i64 (Bk.line (outBk (levelB bs c))), .int .i64 (Bk.cls (outBk (levelB bs c))), .int .i64 (Bk.kind (outBk (levelB bs c))), .int .i64 (Bk.gen (outBk (levelB bs c)))]).below hb7 (by simp)
  replace hB := hB.trans (hA7.mono hB.size)
  replace x1 := x1.below hA7
  replace x2 := x2.below hA7
  replace x3 := x3.below hA7
  replace hM := hM.below hA7 hM.lt
  replace hX := hX.below hA7 hX.lt
  replace hU := hU.below hA7 hU.lt
  replace hNa := hNa.below hA7 hNa.lt
  replace hNb := hNb.below hA7 hNb.lt
  clear hb7 hA7
  obtain ⟨⟨y0, y1, y2⟩, -⟩ := hX.has3
  have lt_hX := hX.lt
  obtain ⟨m0, m1, m2, m3, m4, m5, m6, m7⟩ := hM.has8
  have lt_hM := hM.lt
  go_wp2_with fail
  refine (HAf.out _ _ _ _ (by first | exact x1 | exact x1.below (by (repeat (first | with_reducible exact Below.refl _ _ | with_reducible assumption | with_reducible refine below_drewN ?_ _ | with_reducible refine Below.drew ?_ | with_reducible refine Below.alloc ?_ (by first | omega | (simp; omega) | simp) _ | with_reducible refine Below.setCell ?_ (by first | omega | (simp; omega) | simp) _)))) (by first | exact x2 | exact x2.below (by (repeat (first | with_reducible exact Below.refl _ _ | with_reducible assumption | with_reducible refine below_drewN ?_ _ | with_reducible refine Below.drew ?_ | with_reducible refine Below.alloc ?_ (by first | omega | (simp; omega) | simp) _ | with_reducible refine Below.setCell ?_ (by first | omega | (simp; omega) | simp) _)))) (by first | exact x3 | exact x3.below (by (repeat (first | with_reducible exact Below.refl _ _ | with_reducible assumption | with_reducible refine below_drewN ?_ _ | with_reducible refine Below.drew ?_ | with_reducible refine Below.alloc ?_ (by first | omega | (simp; omega) | simp) _ | with_reducible refine Below.setCell ?_ (by first | omega | (simp; omega) | simp) _))))).mono ?_
  rintro e w8 hh
  obtain ⟨b1, l1, b2, l2, b3, l3, rfl, y1', y2', y3', hb8⟩ := hh.forms
  clear hh
  clear lt_hX y0 y1 y2
  clear lt_hM m0 m1 m2 m3 m4 m5 m6 m7
  have hA8 : Below w7.heap.size w7 w8 := Below.trans (by (repeat (first | with_reducible exact Below.refl _ _ | with_reducible assumption | with_reducible refine below_drewN ?_ _ | with_reducible refine Below.drew ?_ | with_reducible refine Below.alloc ?_ (by first | omega | (simp; omega) | simp) _ | with_reducible refine Below.setCell ?_ (by first | omega | (simp; omega) | simp) _))) (hb8.mono (by first | omega | simp | (simp; omega)))
  have hLb := (Cl.new w7 25 #[.int .i64 (Bk.line (outBk (levelB bs c))), .int .i64 (Bk.cls (outBk (levelB bs c))), .int .i64 (Bk.kind (outBk (levelB bs c))), .int .i64 (Bk.gen (outBk (levelB bs c)))]).below hb8 (by simp)
  replace hB := hB.trans (hA8.mono hB.size)
  replace x1 := x1.below hA8
  replace x2 := x2.below hA8
  replace x3 := x3.below hA8
  replace hM := hM.below hA8 hM.lt
  replace hX := hX.below hA8 hX.lt
  replace hU := hU.below hA8 hU.lt
  replace hNa := hNa.below hA8 hNa.lt
  replace hNb := hNb.below hA8 hNb.lt
  replace hLa := hLa.below hA8 hLa.lt
  clear hb8 hA8
  obtain ⟨⟨y0, y1, y2⟩, -⟩ := hX.has3
  have lt_hX := hX.lt
  obtain ⟨m0, m1, m2, m3, m4, m5, m6, m7⟩ := hM.has8
  have lt_hM := hM.lt
  go_wp2_with fail
  refine (HAr.out _ _ _ _ (by first | exact x1 | exact x1.below (by (repeat (first | with_reducible exact Below.refl _ _ | with_reducible assumption | with_reducible refine below_drewN ?_ _ | with_reducible refine Below.drew ?_ | with_reducible refine Below.alloc ?_ (by first | omega | (simp; omega) | simp) _ | with_reducible refine Below.setCell ?_ (by first | omega | (simp; omega) | simp) _)))) (by first | exact x2 | exact x2.below (by (repeat (first | with_reducible exact Below.refl _ _ | with_reducible assumption | with_reducible refine below_drewN ?_ _ | with_reducible refine Below.drew ?_ | with_reducible refine Below.alloc ?_ (by first | omega | (simp; omega) | simp) _ | with_reducible refine Below.setCell ?_ (by first | omega | (simp; omega) | simp) _)))) (by first | exact x3 | exact x3.below (by (repeat (first | with_reducible exact Below.refl _ _ | with_reducible assumption | with_reducible refine below_drewN ?_ _ | with_reducible refine Below.drew ?_ | with_reducible refine Below.alloc ?_ (by first | omega | (simp; omega) | simp) _ | with_reducible refine Below.setCell ?_ (by first | omega | (simp; omega) | simp) _))))).mono ?_
  rintro e w9 hh
  obtain ⟨d1, o1, d2, o2, d3, o3, rfl, z1', z2', z3', hb9⟩ := hh.forms
  clear hh
  clear lt_hX y0 y1 y2
  clear lt_hM m0 m1 m2 m3 m4 m5 m6 m7
  have hA9 : Below w8.heap.size w8 w9 := Below.trans (by (repeat (first | with_reducible exact Below.refl _ _ | with_reducible assumption | with_reducible refine below_drewN ?_ _ | with_reducible refine Below.drew ?_ | with_reducible refine Below.alloc ?_ (by first | omega | (simp; omega) | simp) _ | with_reducible refine Below.setCell ?_ (by first | omega | (simp; omega) | simp) _))) (hb9.mono (by first | omega | simp | (simp; omega)))
  have hY := (Cl.new w8 31 #[.slice b1 cs'.length l1, .slice b2 bs'.length l2, .slice b3 0 l3]).below hb9 (by simp)
  replace hB := hB.trans (hA9.mono hB.size)
  replace x1 := x1.below hA9
  replace x2 := x2.below hA9
  replace x3 := x3.below hA9
  replace hM := hM.below hA9 hM.lt
  replace hX := hX.below hA9 hX.lt
  replace hU := hU.below hA9 hU.lt
  replace hNa := hNa.below hA9 hNa.lt
  replace hNb := hNb.below hA9 hNb.lt
  replace hLa := hLa.below hA9 hLa.lt
  replace hLb := hLb.below hA9 hLb.lt
  replace y1' := y1'.below hA9
  replace y2' := y2'.below hA9
  replace y3' := y3'.below hA9
  clear hb9 hA9
  clear HAf HAr hM
  generalize hna : outBk (nextB bs c) = na at *
  generalize hia : (nextB bs c).isSome = ia at *
  generalize hla : outBk (levelB bs c) = la at *
  generalize hil : (levelB bs c).isSome = il at *
  have bna := bkEq_self na
  have bla := bkEq_self la
  have bia : (ia != ia) = false := by simp
  have bil : (il != il) = false := by simp
  have ber : (err != err) = false := by simp
  clear hna hia hla hil
  have obl : ∀ o : Obj, True := fun _ => trivial
  clear obl
  go_wp2_with fail
  generalize hwn : w9.alloc (.cells #[.slice d1 cs'.length o1, .slice d2 bs'.length o2, .slice d3 0 o3] 31) = wn
  replace hB := hB.alloc hB.size (.cells #[.slice d1 cs'.length o1, .slice d2 bs'.length o2, .slice d3 0 o3] 31)
  replace x1 := Rd.alloc x1 (.cells #[.slice d1 cs'.length o1, .slice d2 bs'.length o2, .slice d3 0 o3] 31)
  replace x2 := Rd.alloc x2 (.cells #[.slice d1 cs'.length o1, .slice d2 bs'.length o2, .slice d3 0 o3] 31)
  replace x3 := Rd.alloc x3 (.cells #[.slice d1 cs'.length o1, .slice d2 bs'.length o2, .slice d3 0 o3] 31)
  replace hX := hX.alloc (.cells #[.slice d1 cs'.length o1, .slice d2 bs'.length o2, .slice d3 0 o3] 31)
  replace hU := hU.alloc (.cells #[.slice d1 cs'.length o1, .slice d2 bs'.length o2, .slice d3 0 o3] 31)
  replace hNa := hNa.alloc (.cells #[.slice d1 cs'.length o1, .slice d2 bs'.length o2, .slice d3 0 o3] 31)
  replace hNb := hNb.alloc (.cells #[.slice d1 cs'.length o1, .slice d2 bs'.length o2, .slice d3 0 o3] 31)
  replace hLa := hLa.alloc (.cells #[.slice d1 cs'.length o1, .slice d2 bs'.length o2, .slice d3 0 o3] 31)
  replace hLb := hLb.alloc (.cells #[.slice d1 cs'.length o1, .slice d2 bs'.length o2, .slice d3 0 o3] 31)
  replace y1' := Rd.alloc y1' (.cells #[.slice d1 cs'.length o1, .slice d2 bs'.length o2, .slice d3 0 o3] 31)
  replace y2' := Rd.alloc y2' (.cells #[.slice d1 cs'.length o1, .slice d2 bs'.length o2, .slice d3 0 o3] 31)
  replace y3' := Rd.alloc y3' (.cells #[.slice d1 cs'.length o1, .slice d2 bs'.length o2, .slice d3 0 o3] 31)
  replace hY := hY.alloc (.cells #[.slice d1 cs'.length o1, .slice d2 bs'.length o2, .slice d3 0 o3] 31)
  replace z1' := Rd.alloc z1' (.cells #[.slice d1 cs'.length o1, .slice d2 bs'.length o2, .slice d3 0 o3] 31)
  replace z2' := Rd.alloc z2' (.cells #[.slice d1 cs'.length o1, .slice d2 bs'.length o2, .slice d3 0 o3] 31)
  replace z3' := Rd.alloc z3' (.cells #[.slice d1 cs'.length o1, .slice d2 bs'.length o2, .slice d3 0 o3] 31)
  have hZ := Cl.new w9 31 #[.slice d1 cs'.length o1, .slice d2 bs'.length o2, .slice d3 0 o3]
  rw [hwn] at hB x1 x2 x3 hX hU hNa hNb hLa hLb y1' y2' y3' hY z1' z2' z3' hZ
  clear hwn
  obtain ⟨⟨hX0, hX1, hX2⟩, -⟩ := hX.has3
  have hXl := hX.lt
  obtain ⟨⟨hU0, hU1, hU2⟩, -⟩ := hU.has3
  have hUl := hU.lt
  obtain ⟨⟨hNa0, hNa1, hNa2, hNa3⟩, -⟩ := hNa.has4
  have hNal := hNa.lt
  obtain ⟨⟨hNb0, hNb1, hNb2, hNb3⟩, -⟩ := hNb.has4
  have hNbl := hNb.lt
  obtain ⟨⟨hLa0, hLa1, hLa2, hLa3⟩, -⟩ := hLa.has4
  have hLal := hLa.lt
  obtain ⟨⟨hLb0, hLb1, hLb2, hLb3⟩, -⟩ := hLb.has4
  have hLbl := hLb.lt
  obtain ⟨⟨hY0, hY1, hY2⟩, -⟩ := hY.has3
  have hYl := hY.lt
  obtain ⟨⟨hZ0, hZ1, hZ2⟩, -⟩ := hZ.has3
  have hZl := hZ.lt
  generalize hul : (useOf bs c).1 = ul at *
  generalize hum : (useOf bs c).2.1 = um at *
  generalize huk : (useOf bs c).2.2 = uk at *
  have HUL := Lib.hid hul
  have HUM := Lib.hid hum
  clear hul hum huk
  have wsub : IntKind.i64.wrap (um - ul) = um - ul := IntWalk.i64_in _ (by omega)
  have wsub' : wrap64 (um - ul) = um - ul := IntWalk.wrap64_in _ ⟨by omega, by omega⟩
  have bsub : ((um - ul) != (um - ul)) = false := by simp
  go_cut [141] (fun s wx => s = .bool false ∧ Below wn.heap.size wn wx)
  case first =>
    go_region_held3 (fun w' => (w'.cell? ⟨w1.heap.size, 0, none⟩ = some (.slice a1 cs.length k1) ∧ w'.cell? ⟨w1.heap.size, 1, none⟩ = some (.slice a2 bs.length k2) ∧ w'.cell? ⟨w1.heap.size, 2, none⟩ = some (.slice a3 0 k3)) ∧ (w'.cell? ⟨w3.heap.size, 0, none⟩ = some (.int .i64 ul) ∧ w'.cell? ⟨w3.heap.size, 1, none⟩ = some (.int .i64 um) ∧ w'.cell? ⟨w3.heap.size, 2, none⟩ = some (.int .i64 uk)) ∧ (w'.cell? ⟨w4.heap.size, 0, none⟩ = some (.int .i64 (Bk.line na)) ∧ w'.cell? ⟨w4.heap.size, 1, none⟩ = some (.int .i64 (Bk.cls na)) ∧ w'.cell? ⟨w4.heap.size, 2, none⟩ = some (.int .i64 (Bk.kind na)) ∧ w'.cell? ⟨w4.heap.size, 3, none⟩ = some (.int .i64 (Bk.gen na))) ∧ (w'.cell? ⟨w5.heap.size, 0, none⟩ = some (.int .i64 (Bk.line na)) ∧ w'.cell? ⟨w5.heap.size, 1, none⟩ = some (.int .i64 (Bk.cls na)) ∧ w'.cell? ⟨w5.heap.size, 2, none⟩ = some (.int .i64 (Bk.kind na)) ∧ w'.cell? ⟨w5.heap.size, 3, none⟩ = some (.int .i64 (Bk.gen na))) ∧ (w'.cell? ⟨w6.heap.size, 0, none⟩ = some (.int .i64 (Bk.line la)) ∧ w'.cell? ⟨w6.heap.size, 1, none⟩ = some (.int .i64 (Bk.cls la)) ∧ w'.cell? ⟨w6.heap.size, 2, none⟩ = some (.int .i64 (Bk.kind la)) ∧ w'.cell? ⟨w6.heap.size, 3, none⟩ = some (.int .i64 (Bk.gen la))) ∧ (w'.cell? ⟨w7.heap.size, 0, none⟩ = some (.int .i64 (Bk.line la)) ∧ w'.cell? ⟨w7.heap.size, 1, none⟩ = some (.int .i64 (Bk.cls la)) ∧ w'.cell? ⟨w7.heap.size, 2, none⟩ = some (.int .i64 (Bk.kind la)) ∧ w'.cell? ⟨w7.heap.size, 3, none⟩ = some (.int .i64 (Bk.gen la))) ∧ (w'.cell? ⟨w8.heap.size, 0, none⟩ = some (.slice b1 cs'.length l1) ∧ w'.cell? ⟨w8.heap.size, 1, none⟩ = some (.slice b2 bs'.length l2) ∧ w'.cell? ⟨w8.heap.size, 2, none⟩ = some (.slice b3 0 l3)) ∧ (w'.cell? ⟨w9.heap.size, 0, none⟩ = some (.slice d1 cs'.length o1) ∧ w'.cell? ⟨w9.heap.size, 1, none⟩ = some (.slice d2 bs'.length o2) ∧ w'.cell? ⟨w9.heap.size, 2, none⟩ = some (.slice d3 0 o3))) (go_keep)
      (first
        | (go_at_call 16; refine (spread_calls _ _ _ _ bs c (by first | exact x2 | exact x2.below (by (repeat (first | with_reducible exact Below.refl _ _ | with_reducible assumption | with_reducible refine below_drewN ?_ _ | with_reducible refine Below.drew ?_ | with_reducible refine Below.alloc ?_ (by first | omega | (simp; omega) | simp) _ | with_reducible refine Below.setCell ?_ (by first | omega | (simp; omega) | simp) _)))) hbl).mono ?_; rintro e wa ⟨rfl, ba0⟩; (rw [HUM.out, HUL.out, wsub']); (have ba : Below wn.heap.size wn wa := (by first | exact below_of_drew ba0 | exact ba0)); have sa := ba.size; (have qhX := (hX.below ba hX.lt).has3.1); (have lhX := (hX.below ba hX.lt).lt); (have qhU := (hU.below ba hU.lt).has3.1); (have lhU := (hU.below ba hU.lt).lt); (have qhNa := (hNa.below ba hNa.lt).has4.1); (have lhNa := (hNa.below ba hNa.lt).lt); (have qhNb := (hNb.below ba hNb.lt).has4.1); (have lhNb := (hNb.below ba hNb.lt).lt); (have qhLa := (hLa.below ba hLa.lt).has4.1); (have lhLa := (hLa.below ba hLa.lt).lt); (have qhLb := (hLb.below ba hLb.lt).has4.1); (have lhLb := (hLb.below ba hLb.lt).lt); (have qhY := (hY.below ba hY.lt).has3.1); (have lhY := (hY.below ba hY.lt).lt); (have qhZ := (hZ.below ba hZ.lt).has3.1); (have lhZ := (hZ.below ba hZ.lt).lt); skip)
        | (go_at_call 17; refine (same_calls _ _ _ _ _ _ _ cs' bs' [] (y1'.below ba) (y2'.below ba) (y3'.below ba) (z1'.below ba) (z2'.below ba) (z3'.below ba) (by omega) (by omega) (by simp)).mono ?_; rintro e wb ⟨rfl, bb0⟩; (have bb : Below wn.heap.size wn wb := ba.trans (bb0.mono ba.size)); have sb := bb.size; (have rhX := (hX.below bb hX.lt).has3.1); (have khX := (hX.below bb hX.lt).lt); (have rhU := (hU.below bb hU.lt).has3.1); (have khU := (hU.below bb hU.lt).lt); (have rhNa := (hNa.below bb hNa.lt).has4.1); (have khNa := (hNa.below bb hNa.lt).lt); (have rhNb := (hNb.below bb hNb.lt).has4.1); (have khNb := (hNb.below bb hNb.lt).lt); (have rhLa := (hLa.below bb hLa.lt).has4.1); (have khLa := (hLa.below bb hLa.lt).lt); (have rhLb := (hLb.below bb hLb.lt).has4.1); (have khLb := (hLb.below bb hLb.lt).lt); (have rhY := (hY.below bb hY.lt).has3.1); (have khY := (hY.below bb hY.lt).lt); (have rhZ := (hZ.below bb hZ.lt).has3.1); (have khZ := (hZ.below bb hZ.lt).lt); skip))
    go_wp2_with fail
    go_meet
    exact ⟨rfl, bb⟩
  case rest =>
    obtain ⟨rfl, hbx⟩ := hcut
    obtain ⟨wm, hwm⟩ : ∃ x : World, x = wc := ⟨_, rfl⟩
    subst hwm
    replace hB := hB.trans (hbx.mono hB.size)
    replace x1 := x1.below hbx
    replace x2 := x2.below hbx
    replace x3 := x3.below hbx
    replace hX := hX.below hbx hX.lt
    clear hbx hX0 hX1 hX2 hXl hU0 hU1 hU2 hUl hNa0 hNa1 hNa2 hNa3 hNal hNb0 hNb1 hNb2 hNb3 hNbl hLa0 hLa1 hLa2 hLa3 hLal hLb0 hLb1 hLb2 hLb3 hLbl hY0 hY1 hY2 hYl hZ0 hZ1 hZ2 hZl hU hNa hNb hLa hLb hY hZ y1' y2' y3' z1' z2' z3' wsub wsub' bsub bna bla bia bil ber HUL HUM
    obtain ⟨⟨y0, y1, y2⟩, -⟩ := hX.has3
    have yl := hX.lt
    have hml := movesB_length most.toNat bs c
    have hdl := dueK_length bs 5
    go_wp2_with fail
    go_region_held3 (fun w' => w'.cell? ⟨w1.heap.size, 0, none⟩ = some (.slice a1 cs.length k1) ∧ w'.cell? ⟨w1.heap.size, 1, none⟩ = some (.slice a2 bs.length k2) ∧ w'.cell? ⟨w1.heap.size, 2, none⟩ = some (.slice a3 0 k3)) (go_keep)
      (first
        | (go_at_call 7; refine (sanity_calls _).mono ?_; rintro e wa ⟨rfl, ba0⟩; (have ba : Below wm.heap.size wm wa := (by first | exact below_of_drew ba0 | exact ba0)); have sa := ba.size; (have qa := (hX.below ba hX.lt).has3.1); (have la := (hX.below ba hX.lt).lt))
        | (go_at_call 19; refine (wear_moves_calls _ _ _ _ cs bs [] c most (x1.below ba) (x2.below ba) (x3.below ba) hcl hbl (by simp) hg (by omega)).mono ?_; rintro e wb ⟨A1, c1, rfl, hm1, bb0⟩; (have bb := ba.trans (bb0.mono ba.size)); have sb := bb.size; (have qb := (hX.below bb hX.lt).has3.1); (have lb := (hX.below bb hX.lt).lt))
        | (go_at_call 20; refine (ref_moves_calls _ _ _ _ cs bs [] c most (x1.below bb) (x2.below bb) (x3.below bb) hcl hbl (by simp) hg (by omega)).mono ?_; rintro e wd ⟨A2, c2, rfl, hm2, bd0⟩; (have bd := bb.trans (bd0.mono bb.size)); have sd := bd.size; (have qd := (hX.below bd hX.lt).has3.1); (have ld := (hX.below bd hX.lt).lt))
        | (go_at_call 18; refine (sameMoves_calls _ _ _ _ (hm1.below bd0) hm2 (by omega)).mono ?_; rintro e we ⟨rfl, be0⟩; (have be := bd.trans (be0.mono bd.size)); have se := be.size; (have qe := (hX.below be hX.lt).has3.1); (have le := (hX.below be hX.lt).lt))
        | (go_at_call 22; refine (due_calls _ _ _ _ cs bs [] (x1.below be) (x2.below be) (x3.below be) hcl hbl (by simp) hg).mono ?_; rintro e wf ⟨A3, c3, rfl, hd1, bf0⟩; (have bf := be.trans (bf0.mono be.size)); have sf := bf.size; (have qf := (hX.below bf hX.lt).has3.1); (have lf := (hX.below bf hX.lt).lt))
        | (go_at_call 23; refine (ref_due_calls _ _ _ _ cs bs [] (x1.below bf) (x2.below bf) (x3.below bf) hcl hbl (by simp) hg).mono ?_; rintro e wg ⟨A4, c4, rfl, hd2, bg0⟩; (have bg := bf.trans (bg0.mono bf.size)); have sg := bg.size; (have qg := (hX.below bg hX.lt).has3.1); (have lg := (hX.below bg hX.lt).lt))
        | (go_at_call 21; refine (sameInts_calls _ _ _ (dueK bs 5) (dueK bs 5) (hd1.below bg0) hd2 (by omega) (by omega)).mono ?_; rintro e wh ⟨rfl, bh0⟩; (simp only [decide_true]); (have bh := bg.trans (bh0.mono bg.size)); have sh := bh.size; (have qh := (hX.below bh hX.lt).has3.1); (have lh := (hX.below bh hX.lt).lt)))
    go_wp2_with fail
    go_ret
    exact ⟨rfl, hB.trans (bh.mono hB.size)⟩

theorem matches_calls (w : World) (n : Nat) (cv rv : Value) (cls : List Nat) (rs : List (Nat × Nat)) (more c most : Int) (f t : Bk) (hn : n < 256) (hc : RdN w 1 cv cls.length (u8s cls)) (hr : RdN w 2 rv rs.length (rawCells rs))
    (hc8 : ∀ c ∈ cls, c < 256) (hr8 : ∀ r ∈ rs, r.1 < 256 ∧ r.2 < 65536) :
    Calls Try.prog 3 #[.int .u8 (n : Int), cv, rv, .int .i64 more, .int .i64 c, .int .i64 most, .agg #[.int .i64 (Bk.line f), .int .i64 (Bk.cls f), .int .i64 (Bk.kind f), .int .i64 (Bk.gen f), .int .i64 (Bk.line t), .int .i64 (Bk.cls t), .int .i64 (Bk.kind t), .int .i64 (Bk.gen t)]] w (SanePost w) := by
  by_cases h1 : 10 < cls.length
  · exact matches_out w n cv rv cls rs more c most f t hn hc hr (.inl h1)
  · by_cases h2 : 40 < rs.length
    · exact matches_out w n cv rv cls rs more c most f t hn hc hr (.inr (.inl h2))
    · by_cases h3 : more < 0
      · exact matches_out w n cv rv cls rs more c most f t hn hc hr (.inr (.inr (.inl h3)))
      · by_cases h4 : 1048575 < more
        · exact matches_out w n cv rv cls rs more c most f t hn hc hr (.inr (.inr (.inr h4)))
        · obtain ⟨m, rfl⟩ := Int.eq_ofNat_of_zero_le (show 0 ≤ more by omega)
          by_cases h5 : most ≤ 30
          · exact matches_yes w n cv rv cls rs m c most f t hn hc hr hc8 hr8 (by omega) (by omega) (by omega) h5
          · exact matches_many w n cv rv cls rs m c most f t hn hc hr hc8 hr8 (by omega) (by omega) (by omega) (by omega)
end Go.Proofs.Ytidiapfmjalaiaa
