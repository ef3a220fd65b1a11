/-
  The specification's Of, rarest, Next and Level.
-/
import Derived.Test.YtidiapfmjalaiaaPick
import Derived.Test.YtidiapfmjalaiaaAfterB
import Derived.Deep.RegionHeld3
namespace Go.Proofs.Ytidiapfmjalaiaa
open Go.RowKit

theorem run_field_use (w : World) (a b c : Int) : (Instr.field 38 (.agg #[.int .i64 a, .int .i64 b, .int .i64 c]) 1).run Try.prog w = .ok (.int .i64 b) w := by kernel_rfl
attribute [go_sem high] run_field_use
theorem max_if (a b : Int) : max a b = if a < b then b else a := by split <;> omega
theorem use_zero {c : Int} {s : Int × Int × Int} {x : Bk} (hc : x.cls = c) (h0 : s.2.2 = 0) : useStep c s x = (x.gen, if s.2.1 < x.gen then x.gen else s.2.1, s.2.2 + 1) := by
  unfold useStep; rw [if_pos hc, if_pos h0, max_if]; simp
theorem use_less {c : Int} {s : Int × Int × Int} {x : Bk} (hc : x.cls = c) (h0 : ¬ s.2.2 = 0) (hl : x.gen < s.1) : useStep c s x = (x.gen, if s.2.1 < x.gen then x.gen else s.2.1, s.2.2 + 1) := by
  unfold useStep; rw [if_pos hc, if_neg h0, max_if]; congr 1; omega
theorem use_more {c : Int} {s : Int × Int × Int} {x : Bk} (hc : x.cls = c) (h0 : ¬ s.2.2 = 0) (hl : ¬ x.gen < s.1) : useStep c s x = (s.1, if s.2.1 < x.gen then x.gen else s.2.1, s.2.2 + 1) := by
  unfold useStep; rw [if_pos hc, if_neg h0, max_if]; congr 1; omega
theorem use_other {c : Int} {s : Int × Int × Int} {x : Bk} (hc : ¬ x.cls = c) : useStep c s x = s := by unfold useStep; rw [if_neg hc]

theorem Cl.set3a {w : World} {g : Nat} {t : TypeId} {v0 v1 v2 : Value} (h : Cl w g t #[v0, v1, v2]) (u0 : Value) : Cl (w.setCell ⟨g, 0, none⟩ u0) g t #[u0, v1, v2] := h.set_ 0 u0
theorem Cl.set3b {w : World} {g : Nat} {t : TypeId} {v0 v1 v2 : Value} (h : Cl w g t #[v0, v1, v2]) (u1 : Value) : Cl (w.setCell ⟨g, 1, none⟩ u1) g t #[v0, u1, v2] := h.set_ 1 u1
theorem Cl.set3c {w : World} {g : Nat} {t : TypeId} {v0 v1 v2 : Value} (h : Cl w g t #[v0, v1, v2]) (u2 : Value) : Cl (w.setCell ⟨g, 2, none⟩ u2) g t #[v0, v1, u2] := h.set_ 2 u2

def OfRel (w : World) (pic : Array Value) (bs : List Bk) (c : Int) (i : Value) (wr : World) : Prop :=
  ∃ k : Nat, k ≤ bs.length ∧ i = .int .i64 k ∧ Cl wr w.heap.size 31 pic ∧ Cl wr (w.heap.size + 1) 38 #[.int .i64 0, .int .i64 0, .int .i64 0] ∧
    Cl wr (w.heap.size + 2) 38 #[.int .i64 (useOf (bs.take k) c).1, .int .i64 (useOf (bs.take k) c).2.1, .int .i64 (useOf (bs.take k) c).2.2] ∧ Below w.heap.size w wr

set_option maxHeartbeats 1000000 in
theorem of_calls (w : World) (ch bl bd : Value) (bs : List Bk) (c : Int) (hR : RdB w bl bs) (hn : bs.length ≤ 1000) :
    Calls Try.prog 9 #[.agg #[ch, bl, bd], .int .i64 c] w fun e w' => e = .returned (.agg #[.int .i64 (useOf bs c).1, .int .i64 (useOf bs c).2.1, .int .i64 (useOf bs c).2.2]) ∧ Below w.heap.size w w' := by
  obtain ⟨A, cp, rfl, hcp, hcell⟩ := hR.at_
  go_enter Try.func9, Try.ntmps9
  go_wp2
  go_loopw [6, 7] (fun i _ wr => OfRel w #[ch, .slice A bs.length cp, bd] bs c i wr) (fun i _ _ => bs.length - (intOf i).toNat)
  case atStart => exact ⟨0, Nat.zero_le _, rfl, ((Cl.new _ _ _).alloc _).alloc _, (Cl.new_ _ _ _ _ (by simp)).alloc _, Cl.new_ _ _ _ _ (by simp), by (repeat (first | with_reducible exact Below.refl _ _ | with_reducible assumption | with_reducible refine below_drewN ?_ _ | with_reducible refine Below.drew ?_ | with_reducible refine Below.alloc ?_ (by first | omega | (simp; omega) | simp) _ | with_reducible refine Below.setCell ?_ (by first | omega | (simp; omega) | simp) _))⟩
  case round =>
    obtain ⟨k, hk, rfl, hP, hZ, hO, hb⟩ := hrel
    have hs1 := hP.lt
    have hs2 := hZ.lt
    have hs3 := hO.lt
    obtain ⟨⟨p0, p1, p2⟩, -⟩ := hP.has3
    by_cases hlt : k < bs.length
    · obtain ⟨b, o, rfl, hlt2, hc⟩ := hcell k hlt
      obtain ⟨x, hx⟩ : ∃ x, bs[k]? = some x := ⟨_, List.getElem?_eq_getElem hlt⟩
      obtain ⟨c0, c1, c2, c3⟩ := hc x hx
      have d0 := (hb.cell (p := ⟨b, o + k * 4, none⟩) hlt2).trans c0
      have d1 := (hb.cell (p := ⟨b, o + k * 4 + 1, none⟩) hlt2).trans c1
      have d2 := (hb.cell (p := ⟨b, o + k * 4 + 2, none⟩) hlt2).trans c2
      have d3 := (hb.cell (p := ⟨b, o + k * 4 + 3, none⟩) hlt2).trans c3
      have hS := Lib.hid (useOf_snoc bs c k x hx)
      obtain ⟨hc0, hc1⟩ := useOf_count (bs.take k) c
      have hln : (bs.take k).length ≤ k := List.length_take_le _ _
      have hsz := hb.size
      clear hc c0 c1 c2 c3 hcell hx hR
      generalize useOf (List.take k bs) c = s at *
      obtain ⟨⟨o0, o1, o2⟩, o3, o4, o5⟩ := hO.has3
      by_cases hc : x.cls = c
      · have b1 : (x.cls != c) = false := by simp [hc]
        by_cases h0 : s.2.2 = 0
        · have b2 : (s.2.2 == 0) = true := by simp [h0]
          have hE := Lib.hid (hS.out.trans (use_zero hc h0))
          clear hS hc h0
          go_wp2
          go_roundw
          case rel => exact ⟨k + 1, by omega, by go_num, by (repeat (first | with_reducible assumption | with_reducible refine Cl.drewN ?_ _ | with_reducible refine Cl.drew ?_ | with_reducible refine Cl.alloc ?_ _ | with_reducible refine Cl.far ?_ (by first | with_reducible assumption | omega | (simp; omega) | simp) _)), by (repeat (first | with_reducible assumption | with_reducible refine Cl.drewN ?_ _ | with_reducible refine Cl.drew ?_ | with_reducible refine Cl.alloc ?_ _ | with_reducible refine Cl.far ?_ (by first | with_reducible assumption | omega | (simp; omega) | simp) _)), by rw [hE.out]; exact (((hO.set3a _).set3b _).set3c _).alloc _, by (repeat (first | with_reducible exact Below.refl _ _ | with_reducible assumption | with_reducible refine below_drewN ?_ _ | with_reducible refine Below.drew ?_ | with_reducible refine Below.alloc ?_ (by first | omega | (simp; omega) | simp) _ | with_reducible refine Below.setCell ?_ (by first | omega | (simp; omega) | simp) _))⟩
          case measure => simp [intOf]; omega
        · have b2 : (s.2.2 == 0) = false := by simp [h0]
          by_cases hl : x.gen < s.1
          · have hE := Lib.hid (hS.out.trans (use_less hc h0 hl))
            clear hS hc h0
            go_wp2
            go_roundw
            case rel => exact ⟨k + 1, by omega, by go_num, by (repeat (first | with_reducible assumption | with_reducible refine Cl.drewN ?_ _ | with_reducible refine Cl.drew ?_ | with_reducible refine Cl.alloc ?_ _ | with_reducible refine Cl.far ?_ (by first | with_reducible assumption | omega | (simp; omega) | simp) _)), by (repeat (first | with_reducible assumption | with_reducible refine Cl.drewN ?_ _ | with_reducible refine Cl.drew ?_ | with_reducible refine Cl.alloc ?_ _ | with_reducible refine Cl.far ?_ (by first | with_reducible assumption | omega | (simp; omega) | simp) _)), by rw [hE.out]; exact (((hO.set3a _).set3b _).set3c _).alloc _, by (repeat (first | with_reducible exact Below.refl _ _ | with_reducible assumption | with_reducible refine below_drewN ?_ _ | with_reducible refine Below.drew ?_ | with_reducible refine Below.alloc ?_ (by first | omega | (simp; omega) | simp) _ | with_reducible refine Below.setCell ?_ (by first | omega | (simp; omega) | simp) _))⟩
            case measure => simp [intOf]; omega
          · have hE := Lib.hid (hS.out.trans (use_more hc h0 hl))
            clear hS hc h0
            go_wp2
            go_roundw
            case rel => exact ⟨k + 1, by omega, by go_num, by (repeat (first | with_reducible assumption | with_reducible refine Cl.drewN ?_ _ | with_reducible refine Cl.drew ?_ | with_reducible refine Cl.alloc ?_ _ | with_reducible refine Cl.far ?_ (by first | with_reducible assumption | omega | (simp; omega) | simp) _)), by (repeat (first | with_reducible assumption | with_reducible refine Cl.drewN ?_ _ | with_reducible refine Cl.drew ?_ | with_reducible refine Cl.alloc ?_ _ | with_reducible refine Cl.far ?_ (by first | with_reducible assumption | omega | (simp; omega) | simp) _)), by rw [hE.out]; exact ((hO.set3b _).set3c _).alloc _, by (repeat (first | with_reducible exact Below.refl _ _ | with_reducible assumption | with_reducible refine below_drewN ?_ _ | with_reducible refine Below.drew ?_ | with_reducible refine Below.alloc ?_ (by first | omega | (simp; omega) | simp) _ | with_reducible refine Below.setCell ?_ (by first | omega | (simp; omega) | simp) _))⟩
            case measure => simp [intOf]; omega
      · have b1 : (x.cls != c) = true := by simp [hc]
        have hE := Lib.hid (hS.out.trans (use_other hc))
        clear hS hc
        go_wp2
        go_roundw
        case rel => exact ⟨k + 1, by omega, by go_num, by (repeat (first | with_reducible assumption | with_reducible refine Cl.drewN ?_ _ | with_reducible refine Cl.drew ?_ | with_reducible refine Cl.alloc ?_ _ | with_reducible refine Cl.far ?_ (by first | with_reducible assumption | omega | (simp; omega) | simp) _)), by (repeat (first | with_reducible assumption | with_reducible refine Cl.drewN ?_ _ | with_reducible refine Cl.drew ?_ | with_reducible refine Cl.alloc ?_ _ | with_reducible refine Cl.far ?_ (by first | with_reducible assumption | omega | (simp; omega) | simp) _)), by rw [hE.out]; exact hO.alloc _, by (repeat (first | with_reducible exact Below.refl _ _ | with_reducible assumption | with_reducible refine below_drewN ?_ _ | with_reducible refine Below.drew ?_ | with_reducible refine Below.alloc ?_ (by first | omega | (simp; omega) | simp) _ | with_reducible refine Below.setCell ?_ (by first | omega | (simp; omega) | simp) _))⟩
        case measure => simp [intOf]; omega
    · rw [List.take_of_length_le (by omega)] at hO
      obtain ⟨⟨o0, o1, o2⟩, -⟩ := hO.has3
      obtain ⟨⟨z0, z1, z2⟩, z3, z4, z5⟩ := hZ.has3
      go_wp2
      refine bodyPost_ret (v := .agg #[.int .i64 (useOf bs c).1, .int .i64 (useOf bs c).2.1, .int .i64 (useOf bs c).2.2]) ?_ rfl ⟨rfl, ?_⟩
      · simp [results, Try.results9, go_sem, *]
      · (repeat (first | with_reducible exact Below.refl _ _ | with_reducible assumption | with_reducible refine below_drewN ?_ _ | with_reducible refine Below.drew ?_ | with_reducible refine Below.alloc ?_ (by first | omega | (simp; omega) | simp) _ | with_reducible refine Below.setCell ?_ (by first | omega | (simp; omega) | simp) _))

def RareRel (w : World) (pic : Array Value) (p : Bk → Bool) (bs : List Bk) (f i : Value) (wr : World) : Prop :=
  ∃ k : Nat, k ≤ bs.length ∧ i = .int .i64 k ∧ f = .bool (firstB p (bs.take k)).isSome ∧ Cl wr w.heap.size 31 pic ∧
      Cl wr (w.heap.size + 1) 25 #[.int .i64 0, .int .i64 0, .int .i64 0, .int .i64 0] ∧
      Cl wr (w.heap.size + 2) 25 #[.int .i64 (Bk.line (outBk (firstB p (bs.take k)))), .int .i64 (Bk.cls (outBk (firstB p (bs.take k)))), .int .i64 (Bk.kind (outBk (firstB p (bs.take k)))), .int .i64 (Bk.gen (outBk (firstB p (bs.take k))))] ∧ Below w.heap.size w wr

set_option maxHeartbeats 2000000 in
theorem rarest_free_calls (w : World) (ch bl bd : Value) (bs : List Bk) (c0 : Int) (hR : RdB w bl bs) (hn : bs.length ≤ 1000) :
    Calls Try.prog 34 #[.agg #[ch, bl, bd], .int .i64 c0, .bool true] w
      fun e w' => e = .returned (.tuple #[.agg #[.int .i64 (Bk.line (outBk (firstB (fun b => freeB b.cls b.kind c0) bs))), .int .i64 (Bk.cls (outBk (firstB (fun b => freeB b.cls b.kind c0) bs))), .int .i64 (Bk.kind (outBk (firstB (fun b => freeB b.cls b.kind c0) bs))), .int .i64 (Bk.gen (outBk (firstB (fun b => freeB b.cls b.kind c0) bs)))], .bool (firstB (fun b => freeB b.cls b.kind c0) bs).isSome]) ∧ Below w.heap.size w w' := by
  obtain ⟨A, cp, rfl, hcp, hcell⟩ := hR.at_
  go_enter Try.func34, Try.ntmps34
  go_wp2
  go_loopw [9, 10, 11] (fun f i _ wr => RareRel w #[ch, .slice A bs.length cp, bd] (fun b => freeB b.cls b.kind c0) bs f i wr) (fun _ i _ _ => bs.length - (intOf i).toNat)
  case atStart => exact ⟨0, Nat.zero_le _, rfl, rfl, ((Cl.new _ _ _).alloc _).alloc _, (Cl.new_ _ _ _ _ (by simp)).alloc _, Cl.new_ _ _ _ _ (by simp), by (repeat (first | with_reducible exact Below.refl _ _ | with_reducible assumption | with_reducible refine below_drewN ?_ _ | with_reducible refine Below.drew ?_ | with_reducible refine Below.alloc ?_ (by first | omega | (simp; omega) | simp) _ | with_reducible refine Below.setCell ?_ (by first | omega | (simp; omega) | simp) _))⟩
  case round =>
    obtain ⟨k, hk, rfl, rfl, hP, hZ, hO, hb⟩ := hrel
    have hs1 := hP.lt
    have hs2 := hZ.lt
    have hs3 := hO.lt
    obtain ⟨⟨p0, p1, p2⟩, -⟩ := hP.has3
    by_cases hlt : k < bs.length
    · obtain ⟨b, o, rfl, hlt2, hc⟩ := hcell k hlt
      obtain ⟨x, hx⟩ : ∃ x, bs[k]? = some x := ⟨_, List.getElem?_eq_getElem hlt⟩
      obtain ⟨c0', c1', c2', c3'⟩ := hc x hx
      have d0 := (hb.cell (p := ⟨b, o + k * 4, none⟩) hlt2).trans c0'
      have d1 := (hb.cell (p := ⟨b, o + k * 4 + 1, none⟩) hlt2).trans c1'
      have d2 := (hb.cell (p := ⟨b, o + k * 4 + 2, none⟩) hlt2).trans c2'
      have d3 := (hb.cell (p := ⟨b, o + k * 4 + 3, none⟩) hlt2).trans c3'
      have hS := Lib.hid (firstB_snoc (fun b => freeB b.cls b.kind c0) bs k x hx)
      have hsz := hb.size
      clear hc c0' c1' c2' c3' hcell hx hR
      generalize firstB (fun b => freeB b.cls b.kind c0) (List.take k bs) = acc at *
      obtain ⟨⟨o0, o1, o2, o3⟩, o4, o5, o6, o7⟩ := hO.has4
      by_cases hc : x.cls = c0
      · have b1 : (x.cls != c0) = false := by simp [hc]
        cases hk0 : (x.kind == 0)
        · have hf : freeB x.cls x.kind c0 = false := by simp_all [freeB]
          have hE := Lib.hid (hS.out.trans (firstStep_no acc hf))
          clear hS hf hc
          go_wp2
          go_roundw
          case rel => exact ⟨k + 1, by omega, by go_num, by rw [hE.out], by (repeat (first | with_reducible assumption | with_reducible refine Cl.drewN ?_ _ | with_reducible refine Cl.drew ?_ | with_reducible refine Cl.alloc ?_ _ | with_reducible refine Cl.far ?_ (by first | with_reducible assumption | omega | (simp; omega) | simp) _)), by (repeat (first | with_reducible assumption | with_reducible refine Cl.drewN ?_ _ | with_reducible refine Cl.drew ?_ | with_reducible refine Cl.alloc ?_ _ | with_reducible refine Cl.far ?_ (by first | with_reducible assumption | omega | (simp; omega) | simp) _)), by rw [hE.out]; exact hO.alloc _, by (repeat (first | with_reducible exact Below.refl _ _ | with_reducible assumption | with_reducible refine below_drewN ?_ _ | with_reducible refine Below.drew ?_ | with_reducible refine Below.alloc ?_ (by first | omega | (simp; omega) | simp) _ | with_reducible refine Below.setCell ?_ (by first | omega | (simp; omega) | simp) _))⟩
          case measure => simp [intOf]; omega
        · have hf : freeB x.cls x.kind c0 = true := by simp_all [freeB]
          cases acc with
          | none =>
            have hE := Lib.hid (hS.out.trans (firstStep_none hf))
            clear hS hf hc
            go_wp2
            go_roundw
            case rel => exact ⟨k + 1, by omega, by go_num, by rw [hE.out]; rfl, by (repeat (first | with_reducible assumption | with_reducible refine Cl.drewN ?_ _ | with_reducible refine Cl.drew ?_ | with_reducible refine Cl.alloc ?_ _ | with_reducible refine Cl.far ?_ (by first | with_reducible assumption | omega | (simp; omega) | simp) _)), by (repeat (first | with_reducible assumption | with_reducible refine Cl.drewN ?_ _ | with_reducible refine Cl.drew ?_ | with_reducible refine Cl.alloc ?_ _ | with_reducible refine Cl.far ?_ (by first | with_reducible assumption | omega | (simp; omega) | simp) _)), by rw [hE.out]; exact (hO.set4 _ _ _ _).alloc _, by (repeat (first | with_reducible exact Below.refl _ _ | with_reducible assumption | with_reducible refine below_drewN ?_ _ | with_reducible refine Below.drew ?_ | with_reducible refine Below.alloc ?_ (by first | omega | (simp; omega) | simp) _ | with_reducible refine Below.setCell ?_ (by first | omega | (simp; omega) | simp) _))⟩
            case measure => simp [intOf]; omega
          | some a =>
            have ha : outBk (some a) = a := rfl
            rw [ha] at o0 o1 o2 o3 hO
            by_cases hg : x.gen < a.gen
            · have hE := Lib.hid (hS.out.trans (firstStep_take hf (rarerB_yes hg)))
              clear hS hf hc
              go_wp2
              go_roundw
              case rel => exact ⟨k + 1, by omega, by go_num, by rw [hE.out]; rfl, by (repeat (first | with_reducible assumption | with_reducible refine Cl.drewN ?_ _ | with_reducible refine Cl.drew ?_ | with_reducible refine Cl.alloc ?_ _ | with_reducible refine Cl.far ?_ (by first | with_reducible assumption | omega | (simp; omega) | simp) _)), by (repeat (first | with_reducible assumption | with_reducible refine Cl.drewN ?_ _ | with_reducible refine Cl.drew ?_ | with_reducible refine Cl.alloc ?_ _ | with_reducible refine Cl.far ?_ (by first | with_reducible assumption | omega | (simp; omega) | simp) _)), by rw [hE.out]; exact (hO.set4 _ _ _ _).alloc _, by (repeat (first | with_reducible exact Below.refl _ _ | with_reducible assumption | with_reducible refine below_drewN ?_ _ | with_reducible refine Below.drew ?_ | with_reducible refine Below.alloc ?_ (by first | omega | (simp; omega) | simp) _ | with_reducible refine Below.setCell ?_ (by first | omega | (simp; omega) | simp) _))⟩
              case measure => simp [intOf]; omega
            · by_cases hq : x.gen = a.gen
              · have b3 : (x.gen == a.gen) = true := by simp [hq]
                have hr : rarerB x.gen x.line a.gen a.line = decide (x.line < a.line) := by rw [hq, rarerB_eq]
                by_cases hl : x.line < a.line
                · have hE := Lib.hid (hS.out.trans (firstStep_take hf (hr.trans (decide_eq_true hl))))
                  clear hS hf hc hr hq
                  go_wp2
                  go_roundw
                  case rel => exact ⟨k + 1, by omega, by go_num, by rw [hE.out]; rfl, by (repeat (first | with_reducible assumption | with_reducible refine Cl.drewN ?_ _ | with_reducible refine Cl.drew ?_ | with_reducible refine Cl.alloc ?_ _ | with_reducible refine Cl.far ?_ (by first | with_reducible assumption | omega | (simp; omega) | simp) _)), by (repeat (first | with_reducible assumption | with_reducible refine Cl.drewN ?_ _ | with_reducible refine Cl.drew ?_ | with_reducible refine Cl.alloc ?_ _ | with_reducible refine Cl.far ?_ (by first | with_reducible assumption | omega | (simp; omega) | simp) _)), by rw [hE.out]; exact (hO.set4 _ _ _ _).alloc _, by (repeat (first | with_reducible exact Below.refl _ _ | with_reducible assumption | with_reducible refine below_drewN ?_ _ | with_reducible refine Below.drew ?_ | with_reducible refine Below.alloc ?_ (by first | omega | (simp; omega) | simp) _ | with_reducible refine Below.setCell ?_ (by first | omega | (simp; omega) | simp) _))⟩
                  case measure => simp [intOf]; omega
                · have hE := Lib.hid (hS.out.trans (firstStep_keep (hr.trans (decide_eq_false hl))))
                  clear hS hf hc hr hq
                  go_wp2
                  go_roundw
                  case rel => exact ⟨k + 1, by omega, by go_num, by rw [hE.out], by (repeat (first | with_reducible assumption | with_reducible refine Cl.drewN ?_ _ | with_reducible refine Cl.drew ?_ | with_reducible refine Cl.alloc ?_ _ | with_reducible refine Cl.far ?_ (by first | with_reducible assumption | omega | (simp; omega) | simp) _)), by (repeat (first | with_reducible assumption | with_reducible refine Cl.drewN ?_ _ | with_reducible refine Cl.drew ?_ | with_reducible refine Cl.alloc ?_ _ | with_reducible refine Cl.far ?_ (by first | with_reducible assumption | omega | (simp; omega) | simp) _)), by rw [hE.out]; exact hO.alloc _, by (repeat (first | with_reducible exact Below.refl _ _ | with_reducible assumption | with_reducible refine below_drewN ?_ _ | with_reducible refine Below.drew ?_ | with_reducible refine Below.alloc ?_ (by first | omega | (simp; omega) | simp) _ | with_reducible refine Below.setCell ?_ (by first | omega | (simp; omega) | simp) _))⟩
                  case measure => simp [intOf]; omega
              · have b3 : (x.gen == a.gen) = false := by simp [hq]
                have hE := Lib.hid (hS.out.trans (firstStep_keep (rarerB_no (by omega))))
                clear hS hf hc hq
                go_wp2
                go_roundw
                case rel => exact ⟨k + 1, by omega, by go_num, by rw [hE.out], by (repeat (first | with_reducible assumption | with_reducible refine Cl.drewN ?_ _ | with_reducible refine Cl.drew ?_ | with_reducible refine Cl.alloc ?_ _ | with_reducible refine Cl.far ?_ (by first | with_reducible assumption | omega | (simp; omega) | simp) _)), by (repeat (first | with_reducible assumption | with_reducible refine Cl.drewN ?_ _ | with_reducible refine Cl.drew ?_ | with_reducible refine Cl.alloc ?_ _ | with_reducible refine Cl.far ?_ (by first | with_reducible assumption | omega | (simp; omega) | simp) _)), by rw [hE.out]; exact hO.alloc _, by (repeat (first | with_reducible exact Below.refl _ _ | with_reducible assumption | with_reducible refine below_drewN ?_ _ | with_reducible refine Below.drew ?_ | with_reducible refine Below.alloc ?_ (by first | omega | (simp; omega) | simp) _ | with_reducible refine Below.setCell ?_ (by first | omega | (simp; omega) | simp) _))⟩
                case measure => simp [intOf]; omega
      · have b1 : (x.cls != c0) = true := by simp [hc]
        have hf : freeB x.cls x.kind c0 = false := by simp [freeB, hc]
        have hE := Lib.hid (hS.out.trans (firstStep_no acc hf))
        clear hS hf hc
        go_wp2
        go_roundw
        case rel => exact ⟨k + 1, by omega, by go_num, by rw [hE.out], by (repeat (first | with_reducible assumption | with_reducible refine Cl.drewN ?_ _ | with_reducible refine Cl.drew ?_ | with_reducible refine Cl.alloc ?_ _ | with_reducible refine Cl.far ?_ (by first | with_reducible assumption | omega | (simp; omega) | simp) _)), by (repeat (first | with_reducible assumption | with_reducible refine Cl.drewN ?_ _ | with_reducible refine Cl.drew ?_ | with_reducible refine Cl.alloc ?_ _ | with_reducible refine Cl.far ?_ (by first | with_reducible assumption | omega | (simp; omega) | simp) _)), by rw [hE.out]; exact hO.alloc _, by (repeat (first | with_reducible exact Below.refl _ _ | with_reducible assumption | with_reducible refine below_drewN ?_ _ | with_reducible refine Below.drew ?_ | with_reducible refine Below.alloc ?_ (by first | omega | (simp; omega) | simp) _ | with_reducible refine Below.setCell ?_ (by first | omega | (simp; omega) | simp) _))⟩
        case measure => simp [intOf]; omega
    · rw [List.take_of_length_le (by omega)] at hO ⊢
      obtain ⟨⟨y0, y1, y2, y3⟩, z0, z1, z2, z3⟩ := hO.has4
      obtain ⟨⟨u0, u1, u2, u3⟩, v0, v1, v2, v3⟩ := hZ.has4
      go_wp2
      refine bodyPost_ret (v := .tuple #[.agg #[.int .i64 (Bk.line (outBk (firstB (fun b => freeB b.cls b.kind c0) bs))), .int .i64 (Bk.cls (outBk (firstB (fun b => freeB b.cls b.kind c0) bs))), .int .i64 (Bk.kind (outBk (firstB (fun b => freeB b.cls b.kind c0) bs))), .int .i64 (Bk.gen (outBk (firstB (fun b => freeB b.cls b.kind c0) bs)))], .bool (firstB (fun b => freeB b.cls b.kind c0) bs).isSome]) ?_ rfl ⟨rfl, ?_⟩
      · simp [results, Try.results34, go_sem, *]
      · (repeat (first | with_reducible exact Below.refl _ _ | with_reducible assumption | with_reducible refine below_drewN ?_ _ | with_reducible refine Below.drew ?_ | with_reducible refine Below.alloc ?_ (by first | omega | (simp; omega) | simp) _ | with_reducible refine Below.setCell ?_ (by first | omega | (simp; omega) | simp) _))
set_option maxHeartbeats 2000000 in
theorem rarest_used_calls (w : World) (ch bl bd : Value) (bs : List Bk) (c0 : Int) (hR : RdB w bl bs) (hn : bs.length ≤ 1000) :
    Calls Try.prog 34 #[.agg #[ch, bl, bd], .int .i64 c0, .bool false] w
      fun e w' => e = .returned (.tuple #[.agg #[.int .i64 (Bk.line (outBk (firstB (fun b => usedB b.cls b.kind c0) bs))), .int .i64 (Bk.cls (outBk (firstB (fun b => usedB b.cls b.kind c0) bs))), .int .i64 (Bk.kind (outBk (firstB (fun b => usedB b.cls b.kind c0) bs))), .int .i64 (Bk.gen (outBk (firstB (fun b => usedB b.cls b.kind c0) bs)))], .bool (firstB (fun b => usedB b.cls b.kind c0) bs).isSome]) ∧ Below w.heap.size w w' := by
  obtain ⟨A, cp, rfl, hcp, hcell⟩ := hR.at_
  go_enter Try.func34, Try.ntmps34
  go_wp2
  go_loopw [9, 10, 11] (fun f i _ wr => RareRel w #[ch, .slice A bs.length cp, bd] (fun b => usedB b.cls b.kind c0) bs f i wr) (fun _ i _ _ => bs.length - (intOf i).toNat)
  case atStart => exact ⟨0, Nat.zero_le _, rfl, rfl, ((Cl.new _ _ _).alloc _).alloc _, (Cl.new_ _ _ _ _ (by simp)).alloc _, Cl.new_ _ _ _ _ (by simp), by (repeat (first | with_reducible exact Below.refl _ _ | with_reducible assumption | with_reducible refine below_drewN ?_ _ | with_reducible refine Below.drew ?_ | with_reducible refine Below.alloc ?_ (by first | omega | (simp; omega) | simp) _ | with_reducible refine Below.setCell ?_ (by first | omega | (simp; omega) | simp) _))⟩
  case round =>
    obtain ⟨k, hk, rfl, rfl, hP, hZ, hO, hb⟩ := hrel
    have hs1 := hP.lt
    have hs2 := hZ.lt
    have hs3 := hO.lt
    obtain ⟨⟨p0, p1, p2⟩, -⟩ := hP.has3
    by_cases hlt : k < bs.length
    · obtain ⟨b, o, rfl, hlt2, hc⟩ := hcell k hlt
      obtain ⟨x, hx⟩ : ∃ x, bs[k]? = some x := ⟨_, List.getElem?_eq_getElem hlt⟩
      obtain ⟨c0', c1', c2', c3'⟩ := hc x hx
      have d0 := (hb.cell (p := ⟨b, o + k * 4, none⟩) hlt2).trans c0'
      have d1 := (hb.cell (p := ⟨b, o + k * 4 + 1, none⟩) hlt2).trans c1'
      have d2 := (hb.cell (p := ⟨b, o + k * 4 + 2, none⟩) hlt2).trans c2'
      have d3 := (hb.cell (p := ⟨b, o + k * 4 + 3, none⟩) hlt2).trans c3'
      have hS := Lib.hid (firstB_snoc (fun b => usedB b.cls b.kind c0) bs k x hx)
      have hsz := hb.size
      clear hc c0' c1' c2' c3' hcell hx hR
      generalize firstB (fun b => usedB b.cls b.kind c0) (List.take k bs) = acc at *
      obtain ⟨⟨o0, o1, o2, o3⟩, o4, o5, o6, o7⟩ := hO.has4
      by_cases hc : x.cls = c0
      · have b1 : (x.cls != c0) = false := by simp [hc]
        cases hk0 : (x.kind == 0)
        · have hf : usedB x.cls x.kind c0 = true := by simp_all [usedB]
          cases acc with
          | none =>
            have hE := Lib.hid (hS.out.trans (firstStep_none hf))
            clear hS hf hc
            go_wp2
            go_roundw
            case rel => exact ⟨k + 1, by omega, by go_num, by rw [hE.out]; rfl, by (repeat (first | with_reducible assumption | with_reducible refine Cl.drewN ?_ _ | with_reducible refine Cl.drew ?_ | with_reducible refine Cl.alloc ?_ _ | with_reducible refine Cl.far ?_ (by first | with_reducible assumption | omega | (simp; omega) | simp) _)), by (repeat (first | with_reducible assumption | with_reducible refine Cl.drewN ?_ _ | with_reducible refine Cl.drew ?_ | with_reducible refine Cl.alloc ?_ _ | with_reducible refine Cl.far ?_ (by first | with_reducible assumption | omega | (simp; omega) | simp) _)), by rw [hE.out]; exact (hO.set4 _ _ _ _).alloc _, by (repeat (first | with_reducible exact Below.refl _ _ | with_reducible assumption | with_reducible refine below_drewN ?_ _ | with_reducible refine Below.drew ?_ | with_reducible refine Below.alloc ?_ (by first | omega | (simp; omega) | simp) _ | with_reducible refine Below.setCell ?_ (by first | omega | (simp; omega) | simp) _))⟩
            case measure => simp [intOf]; omega
          | some a =>
            have ha : outBk (some a) = a := rfl
            rw [ha] at o0 o1 o2 o3 hO
            by_cases hg : x.gen < a.gen
            · have hE := Lib.hid (hS.out.trans (firstStep_take hf (rarerB_yes hg)))
              clear hS hf hc
              go_wp2
              go_roundw
              case rel => exact ⟨k + 1, by omega, by go_num, by rw [hE.out]; rfl, by (repeat (first | with_reducible assumption | with_reducible refine Cl.drewN ?_ _ | with_reducible refine Cl.drew ?_ | with_reducible refine Cl.alloc ?_ _ | with_reducible refine Cl.far ?_ (by first | with_reducible assumption | omega | (simp; omega) | simp) _)), by (repeat (first | with_reducible assumption | with_reducible refine Cl.drewN ?_ _ | with_reducible refine Cl.drew ?_ | with_reducible refine Cl.alloc ?_ _ | with_reducible refine Cl.far ?_ (by first | with_reducible assumption | omega | (simp; omega) | simp) _)), by rw [hE.out]; exact (hO.set4 _ _ _ _).alloc _, by (repeat (first | with_reducible exact Below.refl _ _ | with_reducible assumption | with_reducible refine below_drewN ?_ _ | with_reducible refine Below.drew ?_ | with_reducible refine Below.alloc ?_ (by first | omega | (simp; omega) | simp) _ | with_reducible refine Below.setCell ?_ (by first | omega | (simp; omega) | simp) _))⟩
              case measure => simp [intOf]; omega
            · by_cases hq : x.gen = a.gen
              · have b3 : (x.gen == a.gen) = true := by simp [hq]
                have hr : rarerB x.gen x.line a.gen a.line = decide (x.line < a.line) := by rw [hq, rarerB_eq]
                by_cases hl : x.line < a.line
                · have hE := Lib.hid (hS.out.trans (firstStep_take hf (hr.trans (decide_eq_true hl))))
                  clear hS hf hc hr hq
                  go_wp2
                  go_roundw
                  case rel => exact ⟨k + 1, by omega, by go_num, by rw [hE.out]; rfl, by (repeat (first | with_reducible assumption | with_reducible refine Cl.drewN ?_ _ | with_reducible refine Cl.drew ?_ | with_reducible refine Cl.alloc ?_ _ | with_reducible refine Cl.far ?_ (by first | with_reducible assumption | omega | (simp; omega) | simp) _)), by (repeat (first | with_reducible assumption | with_reducible refine Cl.drewN ?_ _ | with_reducible refine Cl.drew ?_ | with_reducible refine Cl.alloc ?_ _ | with_reducible refine Cl.far ?_ (by first | with_reducible assumption | omega | (simp; omega) | simp) _)), by rw [hE.out]; exact (hO.set4 _ _ _ _).alloc _, by (repeat (first | with_reducible exact Below.refl _ _ | with_reducible assumption | with_reducible refine below_drewN ?_ _ | with_reducible refine Below.drew ?_ | with_reducible refine Below.alloc ?_ (by first | omega | (simp; omega) | simp) _ | with_reducible refine Below.setCell ?_ (by first | omega | (simp; omega) | simp) _))⟩
                  case measure => simp [intOf]; omega
                · have hE := Lib.hid (hS.out.trans (firstStep_keep (hr.trans (decide_eq_false hl))))
                  clear hS hf hc hr hq
                  go_wp2
                  go_roundw
                  case rel => exact ⟨k + 1, by omega, by go_num, by rw [hE.out], by (repeat (first | with_reducible assumption | with_reducible refine Cl.drewN ?_ _ | with_reducible refine Cl.drew ?_ | with_reducible refine Cl.alloc ?_ _ | with_reducible refine Cl.far ?_ (by first | with_reducible assumption | omega | (simp; omega) | simp) _)), by (repeat (first | with_reducible assumption | with_reducible refine Cl.drewN ?_ _ | with_reducible refine Cl.drew ?_ | with_reducible refine Cl.alloc ?_ _ | with_reducible refine Cl.far ?_ (by first | with_reducible assumption | omega | (simp; omega) | simp) _)), by rw [hE.out]; exact hO.alloc _, by (repeat (first | with_reducible exact Below.refl _ _ | with_reducible assumption | with_reducible refine below_drewN ?_ _ | with_reducible refine Below.drew ?_ | with_reducible refine Below.alloc ?_ (by first | omega | (simp; omega) | simp) _ | with_reducible refine Below.setCell ?_ (by first | omega | (simp; omega) | simp) _))⟩
                  case measure => simp [intOf]; omega
              · have b3 : (x.gen == a.gen) = false := by simp [hq]
                have hE := Lib.hid (hS.out.trans (firstStep_keep (rarerB_no (by omega))))
                clear hS hf hc hq
                go_wp2
                go_roundw
                case rel => exact ⟨k + 1, by omega, by go_num, by rw [hE.out], by (repeat (first | with_reducible assumption | with_reducible refine Cl.drewN ?_ _ | with_reducible refine Cl.drew ?_ | with_reducible refine Cl.alloc ?_ _ | with_reducible refine Cl.far ?_ (by first | with_reducible assumption | omega | (simp; omega) | simp) _)), by (repeat (first | with_reducible assumption | with_reducible refine Cl.drewN ?_ _ | with_reducible refine Cl.drew ?_ | with_reducible refine Cl.alloc ?_ _ | with_reducible refine Cl.far ?_ (by first | with_reducible assumption | omega | (simp; omega) | simp) _)), by rw [hE.out]; exact hO.alloc _, by (repeat (first | with_reducible exact Below.refl _ _ | with_reducible assumption | with_reducible refine below_drewN ?_ _ | with_reducible refine Below.drew ?_ | with_reducible refine Below.alloc ?_ (by first | omega | (simp; omega) | simp) _ | with_reducible refine Below.setCell ?_ (by first | omega | (simp; omega) | simp) _))⟩
                case measure => simp [intOf]; omega
        · have hf : usedB x.cls x.kind c0 = false := by simp_all [usedB]
          have hE := Lib.hid (hS.out.trans (firstStep_no acc hf))
          clear hS hf hc
          go_wp2
          go_roundw
          case rel => exact ⟨k + 1, by omega, by go_num, by rw [hE.out], by (repeat (first | with_reducible assumption | with_reducible refine Cl.drewN ?_ _ | with_reducible refine Cl.drew ?_ | with_reducible refine Cl.alloc ?_ _ | with_reducible refine Cl.far ?_ (by first | with_reducible assumption | omega | (simp; omega) | simp) _)), by (repeat (first | with_reducible assumption | with_reducible refine Cl.drewN ?_ _ | with_reducible refine Cl.drew ?_ | with_reducible refine Cl.alloc ?_ _ | with_reducible refine Cl.far ?_ (by first | with_reducible assumption | omega | (simp; omega) | simp) _)), by rw [hE.out]; exact hO.alloc _, by (repeat (first | with_reducible exact Below.refl _ _ | with_reducible assumption | with_reducible refine below_drewN ?_ _ | with_reducible refine Below.drew ?_ | with_reducible refine Below.alloc ?_ (by first | omega | (simp; omega) | simp) _ | with_reducible refine Below.setCell ?_ (by first | omega | (simp; omega) | simp) _))⟩
          case measure => simp [intOf]; omega
      · have b1 : (x.cls != c0) = true := by simp [hc]
        have hf : usedB x.cls x.kind c0 = false := by simp [usedB, hc]
        have hE := Lib.hid (hS.out.trans (firstStep_no acc hf))
        clear hS hf hc
        go_wp2
        go_roundw
        case rel => exact ⟨k + 1, by omega, by go_num, by rw [hE.out], by (repeat (first | with_reducible assumption | with_reducible refine Cl.drewN ?_ _ | with_reducible refine Cl.drew ?_ | with_reducible refine Cl.alloc ?_ _ | with_reducible refine Cl.far ?_ (by first | with_reducible assumption | omega | (simp; omega) | simp) _)), by (repeat (first | with_reducible assumption | with_reducible refine Cl.drewN ?_ _ | with_reducible refine Cl.drew ?_ | with_reducible refine Cl.alloc ?_ _ | with_reducible refine Cl.far ?_ (by first | with_reducible assumption | omega | (simp; omega) | simp) _)), by rw [hE.out]; exact hO.alloc _, by (repeat (first | with_reducible exact Below.refl _ _ | with_reducible assumption | with_reducible refine below_drewN ?_ _ | with_reducible refine Below.drew ?_ | with_reducible refine Below.alloc ?_ (by first | omega | (simp; omega) | simp) _ | with_reducible refine Below.setCell ?_ (by first | omega | (simp; omega) | simp) _))⟩
        case measure => simp [intOf]; omega
    · rw [List.take_of_length_le (by omega)] at hO ⊢
      obtain ⟨⟨y0, y1, y2, y3⟩, z0, z1, z2, z3⟩ := hO.has4
      obtain ⟨⟨u0, u1, u2, u3⟩, v0, v1, v2, v3⟩ := hZ.has4
      go_wp2
      refine bodyPost_ret (v := .tuple #[.agg #[.int .i64 (Bk.line (outBk (firstB (fun b => usedB b.cls b.kind c0) bs))), .int .i64 (Bk.cls (outBk (firstB (fun b => usedB b.cls b.kind c0) bs))), .int .i64 (Bk.kind (outBk (firstB (fun b => usedB b.cls b.kind c0) bs))), .int .i64 (Bk.gen (outBk (firstB (fun b => usedB b.cls b.kind c0) bs)))], .bool (firstB (fun b => usedB b.cls b.kind c0) bs).isSome]) ?_ rfl ⟨rfl, ?_⟩
      · simp [results, Try.results34, go_sem, *]
      · (repeat (first | with_reducible exact Below.refl _ _ | with_reducible assumption | with_reducible refine below_drewN ?_ _ | with_reducible refine Below.drew ?_ | with_reducible refine Below.alloc ?_ (by first | omega | (simp; omega) | simp) _ | with_reducible refine Below.setCell ?_ (by first | omega | (simp; omega) | simp) _))

theorem rarest_next_calls (w : World) (ch bl bd : Value) (bs : List Bk) (c0 : Int) (hR : RdB w bl bs) (hn : bs.length ≤ 1000) :
    Calls Try.prog 34 #[.agg #[ch, bl, bd], .int .i64 c0, .bool true] w
      fun e w' => e = .returned (.tuple #[.agg #[.int .i64 (Bk.line (outBk (nextB bs c0))), .int .i64 (Bk.cls (outBk (nextB bs c0))), .int .i64 (Bk.kind (outBk (nextB bs c0))), .int .i64 (Bk.gen (outBk (nextB bs c0)))], .bool (nextB bs c0).isSome]) ∧ Below w.heap.size w w' := rarest_free_calls w ch bl bd bs c0 hR hn
theorem rarest_cold_calls (w : World) (ch bl bd : Value) (bs : List Bk) (c0 : Int) (hR : RdB w bl bs) (hn : bs.length ≤ 1000) :
    Calls Try.prog 34 #[.agg #[ch, bl, bd], .int .i64 c0, .bool false] w
      fun e w' => e = .returned (.tuple #[.agg #[.int .i64 (Bk.line (outBk (coldB bs c0))), .int .i64 (Bk.cls (outBk (coldB bs c0))), .int .i64 (Bk.kind (outBk (coldB bs c0))), .int .i64 (Bk.gen (outBk (coldB bs c0)))], .bool (coldB bs c0).isSome]) ∧ Below w.heap.size w w' := rarest_used_calls w ch bl bd bs c0 hR hn

set_option maxHeartbeats 400000 in
theorem ref_next_calls (w : World) (ch bl bd : Value) (bs : List Bk) (c : Int) (hR : RdB w bl bs) (hn : bs.length ≤ 1000) :
    Calls Try.prog 11 #[.agg #[ch, bl, bd], .int .i64 c] w
      fun e w' => e = .returned (.tuple #[.agg #[.int .i64 (Bk.line (outBk (nextB bs c))), .int .i64 (Bk.cls (outBk (nextB bs c))), .int .i64 (Bk.kind (outBk (nextB bs c))), .int .i64 (Bk.gen (outBk (nextB bs c)))], .bool (nextB bs c).isSome]) ∧ Below w.heap.size w w' := by
  go_enter Try.func11, Try.ntmps11
  go_wp2_with fail
  refine (rarest_next_calls _ _ _ _ bs c (hR.below (by (repeat (first | with_reducible exact Below.refl _ _ | with_reducible assumption | with_reducible refine below_drewN ?_ _ | with_reducible refine Below.drew ?_ | with_reducible refine Below.alloc ?_ (by first | omega | (simp; omega) | simp) _ | with_reducible refine Below.setCell ?_ (by first | omega | (simp; omega) | simp) _)))) hn).mono ?_
  rintro e w1 ⟨rfl, hb1⟩
  have hb : Below w.heap.size w w1 := Below.trans (by (repeat (first | with_reducible exact Below.refl _ _ | with_reducible assumption | with_reducible refine below_drewN ?_ _ | with_reducible refine Below.drew ?_ | with_reducible refine Below.alloc ?_ (by first | omega | (simp; omega) | simp) _ | with_reducible refine Below.setCell ?_ (by first | omega | (simp; omega) | simp) _))) (hb1.mono (by simp; omega))
  have hZ : Cl w1 (w.heap.size + 1) 25 #[.int .i64 0, .int .i64 0, .int .i64 0, .int .i64 0] := (Cl.new_ _ _ _ _ (by simp)).below hb1 (by simp)
  obtain ⟨⟨u0, u1, u2, u3⟩, v0, v1, v2, v3⟩ := hZ.has4
  have hs := hb.size
  clear hb1
  go_wp2_with fail
  refine bodyPost_ret (v := .tuple #[.agg #[.int .i64 (Bk.line (outBk (nextB bs c))), .int .i64 (Bk.cls (outBk (nextB bs c))), .int .i64 (Bk.kind (outBk (nextB bs c))), .int .i64 (Bk.gen (outBk (nextB bs c)))], .bool (nextB bs c).isSome]) ?_ rfl ⟨rfl, ?_⟩
  · simp [results, Try.results11, go_sem, *]
  · (repeat (first | with_reducible exact Below.refl _ _ | with_reducible assumption | with_reducible refine below_drewN ?_ _ | with_reducible refine Below.drew ?_ | with_reducible refine Below.alloc ?_ (by first | omega | (simp; omega) | simp) _ | with_reducible refine Below.setCell ?_ (by first | omega | (simp; omega) | simp) _))

set_option maxHeartbeats 2000000 in
theorem ref_level_calls (w : World) (ch bl bd : Value) (bs : List Bk) (c : Int) (hR : RdB w bl bs) (hn : bs.length ≤ 1000) (hg : ∀ b ∈ bs, 0 ≤ b.gen ∧ b.gen ≤ 2000000) :
    Calls Try.prog 13 #[.agg #[ch, bl, bd], .int .i64 c] w
      fun e w' => e = .returned (.tuple #[.agg #[.int .i64 (Bk.line (outBk (levelB bs c))), .int .i64 (Bk.cls (outBk (levelB bs c))), .int .i64 (Bk.kind (outBk (levelB bs c))), .int .i64 (Bk.gen (outBk (levelB bs c)))], .bool (levelB bs c).isSome]) ∧ Below w.heap.size w w' := by
  obtain ⟨hu0, hu1⟩ := useOf_most bs c 2000000 (by omega) (fun b hb => (hg b hb).2)
  have hcg : ∀ b, coldB bs c = some b → b ∈ bs := fun b h => (firstB_mem _ bs b h).1
  go_enter Try.func13, Try.ntmps13
  go_wp2_with fail
  refine (rarest_cold_calls _ _ _ _ bs c (hR.below (by (repeat (first | with_reducible exact Below.refl _ _ | with_reducible assumption | with_reducible refine below_drewN ?_ _ | with_reducible refine Below.drew ?_ | with_reducible refine Below.alloc ?_ (by first | omega | (simp; omega) | simp) _ | with_reducible refine Below.setCell ?_ (by first | omega | (simp; omega) | simp) _)))) hn).mono ?_
  rintro e w1 ⟨rfl, hb1⟩
  have hb : Below w.heap.size w w1 := Below.trans (by (repeat (first | with_reducible exact Below.refl _ _ | with_reducible assumption | with_reducible refine below_drewN ?_ _ | with_reducible refine Below.drew ?_ | with_reducible refine Below.alloc ?_ (by first | omega | (simp; omega) | simp) _ | with_reducible refine Below.setCell ?_ (by first | omega | (simp; omega) | simp) _))) (hb1.mono (by simp; omega))
  have hP : Cl w1 w.heap.size 31 #[ch, bl, bd] := ((Cl.new_ _ _ _ _ rfl).alloc _).below hb1 (by simp; omega)
  have hZ : Cl w1 (w.heap.size + 1) 25 #[.int .i64 0, .int .i64 0, .int .i64 0, .int .i64 0] := (Cl.new_ _ _ _ _ (by simp)).below hb1 (by simp)
  have hs := hZ.lt
  have hs0 := hP.lt
  clear hb1
  obtain ⟨⟨u0, u1, u2, u3⟩, v0, v1, v2, v3⟩ := hZ.has4
  obtain ⟨⟨p0, p1, p2⟩, -⟩ := hP.has3
  cases hcold : coldB bs c with
  | none =>
    have hl : levelB bs c = none := by simp [levelB, hcold]
    have HL := Lib.hid hl
    clear hl hcold
    go_wp2_with fail
    go_quiet (fail)
    go_wp2_with fail
    refine bodyPost_ret (v := .tuple #[.agg #[.int .i64 0, .int .i64 0, .int .i64 0, .int .i64 0], .bool false]) ?_ rfl ⟨by rw [HL.out]; rfl, ?_⟩
    · simp [results, Try.results13, go_sem, *]
    · (repeat (first | with_reducible exact Below.refl _ _ | with_reducible assumption | with_reducible refine below_drewN ?_ _ | with_reducible refine Below.drew ?_ | with_reducible refine Below.alloc ?_ (by first | omega | (simp; omega) | simp) _ | with_reducible refine Below.setCell ?_ (by first | omega | (simp; omega) | simp) _))
  | some b =>
    obtain ⟨hg0, hg1⟩ := hg b (hcg b hcold)
    have hob : outBk (some b) = b := rfl
    rw [hob]
    have q1 : ¬ w.heap.size = w1.heap.size := by omega
    have q2 : ¬ w1.heap.size = w.heap.size := by omega
    have wr1 : IntKind.i64.wrap (b.gen + 8) = b.gen + 8 := IntWalk.i64_in _ (by omega)
    have hZ' := hZ.alloc (.cells #[.int .i64 (Bk.line b), .int .i64 (Bk.cls b), .int .i64 (Bk.kind b), .int .i64 (Bk.gen b)] 25)
    by_cases h8 : (useOf bs c).2.1 - b.gen < 8
    · have hl : levelB bs c = none := by simp [levelB, hcold, h8]
      have HL := Lib.hid hl
      have b8 : decide ((useOf bs c).2.1 < b.gen + 8) = true := by simp; omega
      clear hl hcold hob hcg hg
      go_wp2_with fail
      generalize hwn : w1.alloc (.cells #[.int .i64 (Bk.line b), .int .i64 (Bk.cls b), .int .i64 (Bk.kind b), .int .i64 (Bk.gen b)] 25) = wn
      have hPn : Cl wn w.heap.size 31 #[ch, bl, bd] := by rw [← hwn]; exact hP.alloc _
      have hZn : Cl wn (w.heap.size + 1) 25 #[.int .i64 0, .int .i64 0, .int .i64 0, .int .i64 0] := by rw [← hwn]; exact hZ.alloc _
      have hXn : Cl wn w1.heap.size 25 #[.int .i64 (Bk.line b), .int .i64 (Bk.cls b), .int .i64 (Bk.kind b), .int .i64 (Bk.gen b)] := by rw [← hwn]; exact Cl.new _ _ _
      have hbn : Below w.heap.size w wn := by rw [← hwn]; exact hb.alloc hb.size _
      have hRn : RdB wn bl bs := hR.below hbn
      clear hwn hP hZ hZ' hb hR u0 u1 u2 u3 v0 v1 v2 v3 p0 p1 p2
      obtain ⟨⟨p0, p1, p2⟩, -⟩ := hPn.has3
      have x3 := hXn.has4.1.2.2.2
      have l1 := hPn.lt
      have l2 := hXn.lt
      go_region_held3 (fun w' => w'.cell? ⟨w1.heap.size, 3, none⟩ = some (.int .i64 b.gen) ∧ w'.cell? ⟨w.heap.size, 0, none⟩ = some ch ∧ w'.cell? ⟨w.heap.size, 1, none⟩ = some bl ∧ w'.cell? ⟨w.heap.size, 2, none⟩ = some bd) (go_keep)
        (first | (go_at_call 9; refine (of_calls _ _ _ _ bs c (by first | exact hRn | exact hRn.below (by (repeat (first | with_reducible exact Below.refl _ _ | with_reducible assumption | with_reducible refine below_drewN ?_ _ | with_reducible refine Below.drew ?_ | with_reducible refine Below.alloc ?_ (by first | omega | (simp; omega) | simp) _ | with_reducible refine Below.setCell ?_ (by first | omega | (simp; omega) | simp) _)))) hn).mono ?_; rintro e wa ⟨rfl, ba0⟩; have ba : Below wn.heap.size wn wa := (by first | exact below_of_drew ba0 | exact ba0); have sa := ba.size; have qa := (hPn.below ba hPn.lt).has3.1; have qx := (hXn.below ba hXn.lt).has4.1.2.2.2; have la := hbn.trans (ba.mono hbn.size); (have hZa := hZn.below ba hZn.lt); (have hXa := hXn.below ba hXn.lt)))
      obtain ⟨⟨z0, z1, z2, z3⟩, z4, z5, z6, z7⟩ := hZa.has4
      obtain ⟨⟨y0, y1, y2, y3⟩, -⟩ := hXa.has4
      have sz := hZa.lt
      go_wp2_with fail
      refine bodyPost_ret (v := .tuple #[.agg #[.int .i64 0, .int .i64 0, .int .i64 0, .int .i64 0], .bool false]) ?_ rfl ⟨by rw [HL.out]; rfl, ?_⟩
      · simp [results, Try.results13, go_sem, *]
      · (repeat (first | with_reducible exact Below.refl _ _ | with_reducible assumption | with_reducible refine below_drewN ?_ _ | with_reducible refine Below.drew ?_ | with_reducible refine Below.alloc ?_ (by first | omega | (simp; omega) | simp) _ | with_reducible refine Below.setCell ?_ (by first | omega | (simp; omega) | simp) _))
    · have hl : levelB bs c = some b := by simp [levelB, hcold, h8]
      have HL := Lib.hid hl
      have b8 : decide ((useOf bs c).2.1 < b.gen + 8) = false := by simp; omega
      clear hl hcold hob hcg hg
      go_wp2_with fail
      generalize hwn : w1.alloc (.cells #[.int .i64 (Bk.line b), .int .i64 (Bk.cls b), .int .i64 (Bk.kind b), .int .i64 (Bk.gen b)] 25) = wn
      have hPn : Cl wn w.heap.size 31 #[ch, bl, bd] := by rw [← hwn]; exact hP.alloc _
      have hZn : Cl wn (w.heap.size + 1) 25 #[.int .i64 0, .int .i64 0, .int .i64 0, .int .i64 0] := by rw [← hwn]; exact hZ.alloc _
      have hXn : Cl wn w1.heap.size 25 #[.int .i64 (Bk.line b), .int .i64 (Bk.cls b), .int .i64 (Bk.kind b), .int .i64 (Bk.gen b)] := by rw [← hwn]; exact Cl.new _ _ _
      have hbn : Below w.heap.size w wn := by rw [← hwn]; exact hb.alloc hb.size _
      have hRn : RdB wn bl bs := hR.below hbn
      clear hwn hP hZ hZ' hb hR u0 u1 u2 u3 v0 v1 v2 v3 p0 p1 p2
      obtain ⟨⟨p0, p1, p2⟩, -⟩ := hPn.has3
      have x3 := hXn.has4.1.2.2.2
      have l1 := hPn.lt
      have l2 := hXn.lt
      go_region_held3 (fun w' => w'.cell? ⟨w1.heap.size, 3, none⟩ = some (.int .i64 b.gen) ∧ w'.cell? ⟨w.heap.size, 0, none⟩ = some ch ∧ w'.cell? ⟨w.heap.size, 1, none⟩ = some bl ∧ w'.cell? ⟨w.heap.size, 2, none⟩ = some bd) (go_keep)
        (first | (go_at_call 9; refine (of_calls _ _ _ _ bs c (by first | exact hRn | exact hRn.below (by (repeat (first | with_reducible exact Below.refl _ _ | with_reducible assumption | with_reducible refine below_drewN ?_ _ | with_reducible refine Below.drew ?_ | with_reducible refine Below.alloc ?_ (by first | omega | (simp; omega) | simp) _ | with_reducible refine Below.setCell ?_ (by first | omega | (simp; omega) | simp) _)))) hn).mono ?_; rintro e wa ⟨rfl, ba0⟩; have ba : Below wn.heap.size wn wa := (by first | exact below_of_drew ba0 | exact ba0); have sa := ba.size; have qa := (hPn.below ba hPn.lt).has3.1; have qx := (hXn.below ba hXn.lt).has4.1.2.2.2; have la := hbn.trans (ba.mono hbn.size); (have hZa := hZn.below ba hZn.lt); (have hXa := hXn.below ba hXn.lt)))
      obtain ⟨⟨z0, z1, z2, z3⟩, z4, z5, z6, z7⟩ := hZa.has4
      obtain ⟨⟨y0, y1, y2, y3⟩, -⟩ := hXa.has4
      have sz := hZa.lt
      go_wp2_with fail
      refine bodyPost_ret (v := .tuple #[.agg #[.int .i64 (Bk.line b), .int .i64 (Bk.cls b), .int .i64 (Bk.kind b), .int .i64 (Bk.gen b)], .bool true]) ?_ rfl ⟨by rw [HL.out]; rfl, ?_⟩
      · simp [results, Try.results13, go_sem, *]
      · (repeat (first | with_reducible exact Below.refl _ _ | with_reducible assumption | with_reducible refine below_drewN ?_ _ | with_reducible refine Below.drew ?_ | with_reducible refine Below.alloc ?_ (by first | omega | (simp; omega) | simp) _ | with_reducible refine Below.setCell ?_ (by first | omega | (simp; omega) | simp) _))
end Go.Proofs.Ytidiapfmjalaiaa
