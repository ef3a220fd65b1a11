/-
  wear.first, with each of the two closures.
-/
import Derived.Test.YtidiapfmjalaiaaDoorSmall
namespace Go.Proofs.YtidiapfmjalaiaaDoor
open Go.RowKit

set_option maxHeartbeats 1000000 in
theorem first_free_calls (w : World) (bl : Value) (bs : List Bk) (c0 : Int) (p : Nat) (hR : RdB w bl bs) (hn : bs.length ≤ 1000) (hp : w.cell? ⟨p, 0, none⟩ = some (.int .i64 c0)) :
    Calls Tryd.prog 21 #[bl, .func (.func 22) #[] #[.pointer (some ⟨p, 0, none⟩)], .func (.func 23) #[] #[]] w
      fun e w' => e = .returned (.tuple #[.agg #[.int .i64 (Bk.line (outBk (firstB (fun b => freeB b.cls b.kind c0) bs))), .int .i64 (Bk.cls (outBk (firstB (fun b => freeB b.cls b.kind c0) bs))), .int .i64 (Bk.kind (outBk (firstB (fun b => freeB b.cls b.kind c0) bs))), .int .i64 (Bk.gen (outBk (firstB (fun b => freeB b.cls b.kind c0) bs)))], .bool (firstB (fun b => freeB b.cls b.kind c0) bs).isSome]) ∧ Below w.heap.size w w' := by
  obtain ⟨A, cp, rfl, hcp, hcell⟩ := hR.at_
  have hpl : p < w.heap.size := World.block_lt_of_cell? w _ hp
  go_enter Tryd.func21, Tryd.ntmps21
  go_wp2
  go_loopw [9, 14] (fun f i wr => ∃ k : Nat, k ≤ bs.length ∧ i = .int .i64 k ∧ f = .bool (firstB (fun b => freeB b.cls b.kind c0) (bs.take k)).isSome ∧
      Cl wr w.heap.size 40 #[.int .i64 0, .int .i64 0, .int .i64 0, .int .i64 0] ∧
      Cl wr (w.heap.size + 1) 40 #[.int .i64 (Bk.line (outBk (firstB (fun b => freeB b.cls b.kind c0) (bs.take k)))), .int .i64 (Bk.cls (outBk (firstB (fun b => freeB b.cls b.kind c0) (bs.take k)))), .int .i64 (Bk.kind (outBk (firstB (fun b => freeB b.cls b.kind c0) (bs.take k)))), .int .i64 (Bk.gen (outBk (firstB (fun b => freeB b.cls b.kind c0) (bs.take k))))] ∧ Below w.heap.size w wr)
    (fun _ i _ => bs.length - (intOf i).toNat)
  case atStart => exact ⟨0, Nat.zero_le _, rfl, rfl, (Cl.new _ _ _).alloc _, Cl.new_ (w.alloc _) _ _ _ (by simp), by (repeat (first | with_reducible exact Below.refl _ _ | with_reducible assumption | with_reducible refine below_drewN ?_ _ | with_reducible refine Below.drew ?_ | with_reducible refine Below.alloc ?_ (by first | omega | (simp; omega) | simp) _ | with_reducible refine Below.setCell ?_ (by first | omega | (simp; omega) | simp) _))⟩
  case round =>
    obtain ⟨k, hk, rfl, rfl, hZ, hO, hb⟩ := hrel
    by_cases hlt : k < bs.length
    · obtain ⟨b, o, rfl, hlt2, hc⟩ := hcell k hlt
      obtain ⟨x, hx⟩ : ∃ x, bs[k]? = some x := ⟨_, List.getElem?_eq_getElem hlt⟩
      obtain ⟨c0', c1', c2', c3'⟩ := hc x hx
      have d0 := (hb.cell (p := ⟨b, o + k * 4, none⟩) hlt2).trans c0'
      have d1 := (hb.cell (p := ⟨b, o + k * 4 + 1, none⟩) hlt2).trans c1'
      have d2 := (hb.cell (p := ⟨b, o + k * 4 + 2, none⟩) hlt2).trans c2'
      have d3 := (hb.cell (p := ⟨b, o + k * 4 + 3, none⟩) hlt2).trans c3'
      have hS := Lib.hid (firstB_snoc (fun b => freeB b.cls b.kind c0) bs k x hx)
      have hsz := hb.size
      have hO2 := hO.lt
      clear hc c0' c1' c2' c3' hcell hx hR
      generalize firstB (fun b => freeB b.cls b.kind c0) (List.take k bs) = acc at *
      go_wp2_with fail
      refine (free_calls _ _ _ _ _ c0 p (((hb.alloc (by omega) _).cell (p := ⟨p, 0, none⟩) hpl).trans hp)).mono ?_
      rintro e w1 ⟨rfl, hb1⟩
      have hX1 := (Cl.new wr 40 _).below hb1 (by simp)
      have hO1 := (hO.alloc _).below hb1 (by simp; omega)
      have hZ1 := (hZ.alloc _).below hb1 (by simp; omega)
      have hB1 := (hb.alloc (by omega) _).trans (hb1.mono (by simp; omega))
      have hs1 : wr.heap.size + 1 ≤ w1.heap.size := by have := hb1.size; simpa using this
      obtain ⟨⟨x0, x1, x2, x3⟩, -⟩ := hX1.has4
      obtain ⟨⟨y0, y1, y2, y3⟩, z0, z1, z2, z3⟩ := hO1.has4
      clear hb1 hb hO hZ d0 d1 d2 d3
      cases hf : freeB x.cls x.kind c0
      · have hE := Lib.hid (hS.out.trans (firstStep_no acc hf))
        clear hS
        go_wp2_with fail
        go_roundw
        case rel => exact ⟨k + 1, by omega, by go_num, by rw [hE.out], hZ1, by rw [hE.out]; exact hO1, hB1⟩
        case measure => simp [intOf]; omega
      · cases acc with
        | none =>
          have hE := Lib.hid (hS.out.trans (firstStep_none hf))
          clear hS
          go_wp2_with fail
          go_roundw
          case rel => exact ⟨k + 1, by omega, by go_num, by rw [hE.out]; rfl, (((hZ1.far (by simp) _).far (by simp) _).far (by simp) _).far (by simp) _, by rw [hE.out]; exact hO1.set4 _ _ _ _, by (repeat (first | with_reducible exact Below.refl _ _ | with_reducible assumption | with_reducible refine below_drewN ?_ _ | with_reducible refine Below.drew ?_ | with_reducible refine Below.alloc ?_ (by first | omega | (simp; omega) | simp) _ | with_reducible refine Below.setCell ?_ (by first | omega | (simp; omega) | simp) _))⟩
          case measure => simp [intOf]; omega
        | some a =>
          go_wp2_with fail
          refine (rarer_calls _ _ _ _ _ _ _ _ _).mono ?_
          rintro e w2 ⟨rfl, hb2⟩
          have hX2 := hX1.below hb2 (by omega)
          have hO2' := hO1.below hb2 (by omega)
          have hZ2 := hZ1.below hb2 (by omega)
          have hB2 := hB1.trans (hb2.mono (by omega))
          obtain ⟨⟨x0', x1', x2', x3'⟩, -⟩ := hX2.has4
          obtain ⟨⟨y0', y1', y2', y3'⟩, z0', z1', z2', z3'⟩ := hO2'.has4
          have hs2 := hb2.size
          clear hb2 hO1 hZ1 hB1 hX1 x0 x1 x2 x3 y0 y1 y2 y3 z0 z1 z2 z3
          have ha : outBk (some a) = a := rfl
          rw [ha]
          cases hr : rarerB x.gen x.line a.gen a.line
          · have hE := Lib.hid (hS.out.trans (firstStep_keep hr))
            clear hS
            go_wp2_with fail
            go_roundw
            case rel => exact ⟨k + 1, by omega, by go_num, by rw [hE.out]; rfl, hZ2, by rw [hE.out]; exact hO2', hB2⟩
            case measure => simp [intOf]; omega
          · have hE := Lib.hid (hS.out.trans (firstStep_take hf hr))
            clear hS
            go_wp2_with fail
            go_roundw
            case rel => exact ⟨k + 1, by omega, by go_num, by rw [hE.out]; rfl, (((hZ2.far (by simp) _).far (by simp) _).far (by simp) _).far (by simp) _, by rw [hE.out]; exact hO2'.set4 _ _ _ _, by (repeat (first | with_reducible exact Below.refl _ _ | with_reducible assumption | with_reducible refine below_drewN ?_ _ | with_reducible refine Below.drew ?_ | with_reducible refine Below.alloc ?_ (by first | omega | (simp; omega) | simp) _ | with_reducible refine Below.setCell ?_ (by first | omega | (simp; omega) | simp) _))⟩
            case measure => simp [intOf]; omega
    · rw [List.take_of_length_le (by omega)] at hO ⊢
      obtain ⟨⟨y0, y1, y2, y3⟩, z0, z1, z2, z3⟩ := hO.has4
      obtain ⟨⟨u0, u1, u2, u3⟩, v0, v1, v2, v3⟩ := hZ.has4
      go_wp2
      refine bodyPost_ret (v := .tuple #[.agg #[.int .i64 (Bk.line (outBk (firstB (fun b => freeB b.cls b.kind c0) bs))), .int .i64 (Bk.cls (outBk (firstB (fun b => freeB b.cls b.kind c0) bs))), .int .i64 (Bk.kind (outBk (firstB (fun b => freeB b.cls b.kind c0) bs))), .int .i64 (Bk.gen (outBk (firstB (fun b => freeB b.cls b.kind c0) bs)))], .bool (firstB (fun b => freeB b.cls b.kind c0) bs).isSome]) ?_ rfl ⟨rfl, ?_⟩
      · simp [results, Tryd.results21, go_sem, *]
      · (repeat (first | with_reducible exact Below.refl _ _ | with_reducible assumption | with_reducible refine below_drewN ?_ _ | with_reducible refine Below.drew ?_ | with_reducible refine Below.alloc ?_ (by first | omega | (simp; omega) | simp) _ | with_reducible refine Below.setCell ?_ (by first | omega | (simp; omega) | simp) _))
set_option maxHeartbeats 1000000 in
theorem first_used_calls (w : World) (bl : Value) (bs : List Bk) (c0 : Int) (p : Nat) (hR : RdB w bl bs) (hn : bs.length ≤ 1000) (hp : w.cell? ⟨p, 0, none⟩ = some (.int .i64 c0)) :
    Calls Tryd.prog 21 #[bl, .func (.func 24) #[] #[.pointer (some ⟨p, 0, none⟩)], .func (.func 23) #[] #[]] w
      fun e w' => e = .returned (.tuple #[.agg #[.int .i64 (Bk.line (outBk (firstB (fun b => usedB b.cls b.kind c0) bs))), .int .i64 (Bk.cls (outBk (firstB (fun b => usedB b.cls b.kind c0) bs))), .int .i64 (Bk.kind (outBk (firstB (fun b => usedB b.cls b.kind c0) bs))), .int .i64 (Bk.gen (outBk (firstB (fun b => usedB b.cls b.kind c0) bs)))], .bool (firstB (fun b => usedB b.cls b.kind c0) bs).isSome]) ∧ Below w.heap.size w w' := by
  obtain ⟨A, cp, rfl, hcp, hcell⟩ := hR.at_
  have hpl : p < w.heap.size := World.block_lt_of_cell? w _ hp
  go_enter Tryd.func21, Tryd.ntmps21
  go_wp2
  go_loopw [9, 14] (fun f i wr => ∃ k : Nat, k ≤ bs.length ∧ i = .int .i64 k ∧ f = .bool (firstB (fun b => usedB b.cls b.kind c0) (bs.take k)).isSome ∧
      Cl wr w.heap.size 40 #[.int .i64 0, .int .i64 0, .int .i64 0, .int .i64 0] ∧
      Cl wr (w.heap.size + 1) 40 #[.int .i64 (Bk.line (outBk (firstB (fun b => usedB b.cls b.kind c0) (bs.take k)))), .int .i64 (Bk.cls (outBk (firstB (fun b => usedB b.cls b.kind c0) (bs.take k)))), .int .i64 (Bk.kind (outBk (firstB (fun b => usedB b.cls b.kind c0) (bs.take k)))), .int .i64 (Bk.gen (outBk (firstB (fun b => usedB b.cls b.kind c0) (bs.take k))))] ∧ Below w.heap.size w wr)
    (fun _ i _ => bs.length - (intOf i).toNat)
  case atStart => exact ⟨0, Nat.zero_le _, rfl, rfl, (Cl.new _ _ _).alloc _, Cl.new_ (w.alloc _) _ _ _ (by simp), by (repeat (first | with_reducible exact Below.refl _ _ | with_reducible assumption | with_reducible refine below_drewN ?_ _ | with_reducible refine Below.drew ?_ | with_reducible refine Below.alloc ?_ (by first | omega | (simp; omega) | simp) _ | with_reducible refine Below.setCell ?_ (by first | omega | (simp; omega) | simp) _))⟩
  case round =>
    obtain ⟨k, hk, rfl, rfl, hZ, hO, hb⟩ := hrel
    by_cases hlt : k < bs.length
    · obtain ⟨b, o, rfl, hlt2, hc⟩ := hcell k hlt
      obtain ⟨x, hx⟩ : ∃ x, bs[k]? = some x := ⟨_, List.getElem?_eq_getElem hlt⟩
      obtain ⟨c0', c1', c2', c3'⟩ := hc x hx
      have d0 := (hb.cell (p := ⟨b, o + k * 4, none⟩) hlt2).trans c0'
      have d1 := (hb.cell (p := ⟨b, o + k * 4 + 1, none⟩) hlt2).trans c1'
      have d2 := (hb.cell (p := ⟨b, o + k * 4 + 2, none⟩) hlt2).trans c2'
      have d3 := (hb.cell (p := ⟨b, o + k * 4 + 3, none⟩) hlt2).trans c3'
      have hS := Lib.hid (firstB_snoc (fun b => usedB b.cls b.kind c0) bs k x hx)
      have hsz := hb.size
      have hO2 := hO.lt
      clear hc c0' c1' c2' c3' hcell hx hR
      generalize firstB (fun b => usedB b.cls b.kind c0) (List.take k bs) = acc at *
      go_wp2_with fail
      refine (used_calls _ _ _ _ _ c0 p (((hb.alloc (by omega) _).cell (p := ⟨p, 0, none⟩) hpl).trans hp)).mono ?_
      rintro e w1 ⟨rfl, hb1⟩
      have hX1 := (Cl.new wr 40 _).below hb1 (by simp)
      have hO1 := (hO.alloc _).below hb1 (by simp; omega)
      have hZ1 := (hZ.alloc _).below hb1 (by simp; omega)
      have hB1 := (hb.alloc (by omega) _).trans (hb1.mono (by simp; omega))
      have hs1 : wr.heap.size + 1 ≤ w1.heap.size := by have := hb1.size; simpa using this
      obtain ⟨⟨x0, x1, x2, x3⟩, -⟩ := hX1.has4
      obtain ⟨⟨y0, y1, y2, y3⟩, z0, z1, z2, z3⟩ := hO1.has4
      clear hb1 hb hO hZ d0 d1 d2 d3
      cases hf : usedB x.cls x.kind c0
      · have hE := Lib.hid (hS.out.trans (firstStep_no acc hf))
        clear hS
        go_wp2_with fail
        go_roundw
        case rel => exact ⟨k + 1, by omega, by go_num, by rw [hE.out], hZ1, by rw [hE.out]; exact hO1, hB1⟩
        case measure => simp [intOf]; omega
      · cases acc with
        | none =>
          have hE := Lib.hid (hS.out.trans (firstStep_none hf))
          clear hS
          go_wp2_with fail
          go_roundw
          case rel => exact ⟨k + 1, by omega, by go_num, by rw [hE.out]; rfl, (((hZ1.far (by simp) _).far (by simp) _).far (by simp) _).far (by simp) _, by rw [hE.out]; exact hO1.set4 _ _ _ _, by (repeat (first | with_reducible exact Below.refl _ _ | with_reducible assumption | with_reducible refine below_drewN ?_ _ | with_reducible refine Below.drew ?_ | with_reducible refine Below.alloc ?_ (by first | omega | (simp; omega) | simp) _ | with_reducible refine Below.setCell ?_ (by first | omega | (simp; omega) | simp) _))⟩
          case measure => simp [intOf]; omega
        | some a =>
          go_wp2_with fail
          refine (rarer_calls _ _ _ _ _ _ _ _ _).mono ?_
          rintro e w2 ⟨rfl, hb2⟩
          have hX2 := hX1.below hb2 (by omega)
          have hO2' := hO1.below hb2 (by omega)
          have hZ2 := hZ1.below hb2 (by omega)
          have hB2 := hB1.trans (hb2.mono (by omega))
          obtain ⟨⟨x0', x1', x2', x3'⟩, -⟩ := hX2.has4
          obtain ⟨⟨y0', y1', y2', y3'⟩, z0', z1', z2', z3'⟩ := hO2'.has4
          have hs2 := hb2.size
          clear hb2 hO1 hZ1 hB1 hX1 x0 x1 x2 x3 y0 y1 y2 y3 z0 z1 z2 z3
          have ha : outBk (some a) = a := rfl
          rw [ha]
          cases hr : rarerB x.gen x.line a.gen a.line
          · have hE := Lib.hid (hS.out.trans (firstStep_keep hr))
            clear hS
            go_wp2_with fail
            go_roundw
            case rel => exact ⟨k + 1, by omega, by go_num, by rw [hE.out]; rfl, hZ2, by rw [hE.out]; exact hO2', hB2⟩
            case measure => simp [intOf]; omega
          · have hE := Lib.hid (hS.out.trans (firstStep_take hf hr))
            clear hS
            go_wp2_with fail
            go_roundw
            case rel => exact ⟨k + 1, by omega, by go_num, by rw [hE.out]; rfl, (((hZ2.far (by simp) _).far (by simp) _).far (by simp) _).far (by simp) _, by rw [hE.out]; exact hO2'.set4 _ _ _ _, by (repeat (first | with_reducible exact Below.refl _ _ | with_reducible assumption | with_reducible refine below_drewN ?_ _ | with_reducible refine Below.drew ?_ | with_reducible refine Below.alloc ?_ (by first | omega | (simp; omega) | simp) _ | with_reducible refine Below.setCell ?_ (by first | omega | (simp; omega) | simp) _))⟩
            case measure => simp [intOf]; omega
    · rw [List.take_of_length_le (by omega)] at hO ⊢
      obtain ⟨⟨y0, y1, y2, y3⟩, z0, z1, z2, z3⟩ := hO.has4
      obtain ⟨⟨u0, u1, u2, u3⟩, v0, v1, v2, v3⟩ := hZ.has4
      go_wp2
      refine bodyPost_ret (v := .tuple #[.agg #[.int .i64 (Bk.line (outBk (firstB (fun b => usedB b.cls b.kind c0) bs))), .int .i64 (Bk.cls (outBk (firstB (fun b => usedB b.cls b.kind c0) bs))), .int .i64 (Bk.kind (outBk (firstB (fun b => usedB b.cls b.kind c0) bs))), .int .i64 (Bk.gen (outBk (firstB (fun b => usedB b.cls b.kind c0) bs)))], .bool (firstB (fun b => usedB b.cls b.kind c0) bs).isSome]) ?_ rfl ⟨rfl, ?_⟩
      · simp [results, Tryd.results21, go_sem, *]
      · (repeat (first | with_reducible exact Below.refl _ _ | with_reducible assumption | with_reducible refine below_drewN ?_ _ | with_reducible refine Below.drew ?_ | with_reducible refine Below.alloc ?_ (by first | omega | (simp; omega) | simp) _ | with_reducible refine Below.setCell ?_ (by first | omega | (simp; omega) | simp) _))
end Go.Proofs.YtidiapfmjalaiaaDoor
