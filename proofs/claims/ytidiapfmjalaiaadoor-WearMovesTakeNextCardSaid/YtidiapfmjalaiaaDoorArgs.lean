/-
  Arguments that are slices of bytes or of raw blocks, opened; the last step of a row, with the arguments read again.
-/
import Derived.Test.YtidiapfmjalaiaaDoorRowEnd
import Derived.Test.YtidiapfmjalaiaaDoorPicture
import Derived.Carry
import Derived.Deep.SlicePairs
namespace Go.Proofs.YtidiapfmjalaiaaDoor
open Go.RowKit Go.WideShapes Go.ChangeShapes Go.Deep

theorem laidOut : laidOutB Tryd.prog = true := by kernel_rfl

theorem post_belowS {H : Type} {enc : TypeId × Value → H} {P : Program} {f : Func} {s : ChangeSpec} {W W' : World} {args : Array Value} {v : Value} {ds gs : List (DataW H)} {before pa pv : List MemPlace}
    (hW : DataW.Whole enc P f.params.toList s.vars false W args.toList ds gs before)
    (hres : ∀ (b : Nat) (sp : Nat → Bool) (hd : Bool), DataW.TrodAll enc P W' b sp hd f.resultTypes.toList (v.resultList f.resultTypes.size) (s.fn H (ds ++ gs)).results [])
    (hargs : DataW.TrodAll enc P W' 0 (fun b => decide (b < W.heap.size)) true f.params.toList args.toList (s.fn H (ds ++ gs)).args pa)
    (hvars : DataW.TrodVars enc P W' (fun b => decide (b < W.heap.size)) s.vars (s.fn H (ds ++ gs)).vars pv)
    (hps : before = pa ++ pv) (hb : Below W.heap.size W W') : s.post enc P f false true false false W args v W' := by
  refine ⟨ds, gs, before, [], pa, pv, hW, hres _ _ _, hargs, hvars, World.keptBut_mono (fun p hp => ⟨hp, ?_⟩) (hb.frame (· ∈ before)), fun h => by cases h⟩
  rw [hps, List.mem_append] at hp
  exact Or.inr hp

theorem cell_lt {w : World} {b o : Nat} {v : Value} (h : w.cell? ⟨b, o, none⟩ = some v) : b < w.heap.size := by
  rcases Nat.lt_or_ge b w.heap.size with hlt | hge
  · exact hlt
  · simp [World.cell?, Array.getElem?_eq_none hge] at h

theorem u8_in {n : Int} (h : (Lit.int .u8 n).wf = true) : 0 ≤ n ∧ n ≤ 255 := by simpa [Lit.wf, IntKind.min, IntKind.max, IntKind.signed, IntKind.bits] using h
theorem u16_in {n : Int} (h : (Lit.int .u16 n).wf = true) : 0 ≤ n ∧ n ≤ 65535 := by simpa [Lit.wf, IntKind.min, IntKind.max, IntKind.signed, IntKind.bits] using h

theorem open_u8s {H : Type} {enc : TypeId × Value → H} {W : World} {b0 : Nat} {r : Reach} {v : Value} {d : DataW H} {ps : List MemPlace} (hval : Value.okWide Tryd.prog W r b0 22 v)
    (h : DataW.Trod enc Tryd.prog W 0 (fun _ => true) true 22 v d ps) : ∃ st : List Nat, RdN W 1 v st.length (u8s st) ∧ st.length ≤ maxLen ∧ ∀ x ∈ st, x < 256 := by
  obtain ⟨a0, len, cap, rfl⟩ := okWide_slice Tryd.underlying22 hval
  obtain ⟨fuel, hf⟩ := h
  rcases open_ints Tryd.underlying22 Tryd.underlying5 (by kernel_rfl) hf with ⟨hcs, _⟩ | ⟨a, len', cap', zs, hcs, _, hl, hm, hz, _, hcell, hwz⟩
  · simp [Value.cells] at hcs
    obtain ⟨rfl, rfl, rfl⟩ := hcs
    exact ⟨[], ⟨by simp [u8s], none, 0, rfl, by simp, fun h => absurd h (by simp)⟩, by simp [maxLen], by simp⟩
  · simp [Value.cells] at hcs
    obtain ⟨rfl, rfl, rfl⟩ := hcs
    simp only [if_true] at hz
    have hlen : ((zs.take len).map Int.toNat).length = len := by simp; omega
    refine ⟨(zs.take len).map Int.toNat, ?_, by omega, ?_⟩
    · rw [hlen]
      refine ⟨by simp only [u8s, List.length_map, hlen, Nat.mul_one]; first | done | (rw [List.length_take]; omega), _, cap, rfl, hl, fun hn => ?_⟩
      obtain ⟨b, off, rfl, hc⟩ := ints_at hcell (by omega)
      refine ⟨b, off, rfl, cell_lt (hc 0 (by omega)), fun j u hu => ?_⟩
      have hj : j < len := by have := (List.getElem?_eq_some_iff.1 hu).1; simp only [u8s, List.length_map, List.length_take] at this; omega
      rw [hc j (by omega)]
      have hzj : zs[j]? = some (zs.getD j 0) := by rw [List.getD_eq_getElem?_getD, List.getElem?_eq_getElem (by omega)]; rfl
      have hw := u8_in (hwz _ (List.mem_of_getElem? hzj))
      have hx : ((zs.take len).map Int.toNat)[j]? = some (zs.getD j 0).toNat := by rw [List.getElem?_map, List.getElem?_take, if_pos hj, hzj]; rfl
      rw [u8s_get _ j _ hx] at hu
      injection hu with hu
      rw [← hu]
      congr 2
      omega
    · intro x hx
      simp only [List.mem_map] at hx
      obtain ⟨z, hz1, rfl⟩ := hx
      have := u8_in (hwz z (List.mem_of_mem_take hz1))
      omega

theorem rawCells_length (l : List (Nat × Nat)) : (rawCells l).length = l.length * 2 := by
  induction l with
  | nil => rfl
  | cons a l ih => simp only [rawCells, List.flatMap_cons, List.length_append, List.length_cons] at ih ⊢; rw [ih]; simp; omega

theorem open_raws {H : Type} {enc : TypeId × Value → H} {W : World} {b0 : Nat} {r : Reach} {v : Value} {d : DataW H} {ps : List MemPlace} (hval : Value.okWide Tryd.prog W r b0 23 v)
    (h : DataW.Trod enc Tryd.prog W 0 (fun _ => true) true 23 v d ps) : ∃ rs : List (Nat × Nat), RdN W 2 v rs.length (rawCells rs) ∧ rs.length ≤ maxLen ∧ ∀ x ∈ rs, x.1 < 256 ∧ x.2 < 65536 := by
  obtain ⟨a0, len, cap, rfl⟩ := okWide_slice Tryd.underlying23 hval
  obtain ⟨fuel, hf⟩ := h
  rcases open_slice_pairs Tryd.underlying23 Tryd.underlying67 (by kernel_rfl) rfl rfl (by kernel_rfl) (by kernel_rfl) hf with ⟨hcs, _⟩ | ⟨a, len', cap', m, n, V0, V1, D0, D1, P0, P1, hcs, _, hl, hm, hz, _, hcell⟩
  · simp [Value.cells] at hcs
    obtain ⟨rfl, rfl, rfl⟩ := hcs
    exact ⟨[], ⟨by simp [rawCells], none, 0, rfl, by simp, fun h => absurd h (by simp)⟩, by simp [maxLen], by simp⟩
  · simp [Value.cells] at hcs
    obtain ⟨rfl, rfl, rfl⟩ := hcs
    simp only [if_true] at hz
    have each : ∀ i, i < m → ∃ x y : Nat, W.cell? (a.add (i * 2)) = some (.int .u8 (x : Int)) ∧ W.cell? (a.add (i * 2 + 1)) = some (.int .u16 (y : Int)) ∧ x < 256 ∧ y < 65536 := by
      intro i hi
      obtain ⟨c0, c1, t0, t1⟩ := hcell i hi
      obtain ⟨x, e0, _, wx⟩ := DataW.trod_int Tryd.underlying5 t0
      obtain ⟨y, e1, _, wy⟩ := DataW.trod_int Tryd.underlying65 t1
      simp at e0 e1
      have hx := u8_in wx
      have hy := u16_in wy
      obtain ⟨x', rfl⟩ := Int.eq_ofNat_of_zero_le hx.1
      obtain ⟨y', rfl⟩ := Int.eq_ofNat_of_zero_le hy.1
      exact ⟨x', y', by rw [c0, e0], by rw [c1, e1], by omega, by omega⟩
    clear hcell
    have hch : ∀ i, ∃ q : Nat × Nat, i < m → W.cell? (a.add (i * 2)) = some (.int .u8 (q.1 : Int)) ∧ W.cell? (a.add (i * 2 + 1)) = some (.int .u16 (q.2 : Int)) ∧ q.1 < 256 ∧ q.2 < 65536 := by
      intro i
      by_cases hi : i < m
      · obtain ⟨x, y, h⟩ := each i hi
        exact ⟨(x, y), fun _ => h⟩
      · exact ⟨(0, 0), fun h => absurd h hi⟩
    obtain ⟨q, hq⟩ := Classical.axiomOfChoice hch
    have hlen : ((List.range len).map q).length = len := by simp
    refine ⟨(List.range len).map q, ?_, by omega, ?_⟩
    · rw [hlen]
      refine ⟨by rw [rawCells_length, hlen], _, cap, rfl, hl, fun hn => ?_⟩
      obtain ⟨b, off, spot⟩ := a
      have hspot : spot = none := by simpa [Addr.add] using World.cell?_spot (hq 0 (by omega)).1
      subst hspot
      have e0 : ∀ k, k < len → W.cell? ⟨b, off + k * 2, none⟩ = some (.int .u8 ((q k).1 : Int)) := fun k hk => by rw [← Go.WideShapes.add_plain]; exact (hq k (by omega)).1
      have e1 : ∀ k, k < len → W.cell? ⟨b, off + (k * 2 + 1), none⟩ = some (.int .u16 ((q k).2 : Int)) := fun k hk => by rw [← Go.WideShapes.add_plain]; exact (hq k (by omega)).2.1
      refine ⟨b, off, rfl, cell_lt (e0 0 (by omega)), fun j u hu => ?_⟩
      have hj : j < len * 2 := by have := (List.getElem?_eq_some_iff.1 hu).1; rw [rawCells_length, hlen] at this; exact this
      have hk : j / 2 < len := by omega
      have hx : ((List.range len).map q)[j / 2]? = some (q (j / 2)) := by rw [List.getElem?_map, List.getElem?_range hk]; rfl
      obtain ⟨g0, g1⟩ := rawCells_get _ (j / 2) _ hx
      have hor : j = j / 2 * 2 ∨ j = j / 2 * 2 + 1 := by omega
      generalize j / 2 = k at *
      rcases hor with rfl | rfl
      · rw [g0] at hu
        injection hu with hu
        rw [e0 _ hk, hu]
      · rw [g1] at hu
        injection hu with hu
        rw [e1 _ hk, hu]
    · intro x hx
      simp only [List.mem_map, List.mem_range] at hx
      obtain ⟨i, hi, rfl⟩ := hx
      exact ⟨(hq i (by omega)).2.2.1, (hq i (by omega)).2.2.2⟩
end Go.Proofs.YtidiapfmjalaiaaDoor
