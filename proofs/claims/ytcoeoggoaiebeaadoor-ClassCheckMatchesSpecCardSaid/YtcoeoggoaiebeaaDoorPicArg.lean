/-
  An argument that is a picture, opened: its three slices read as lists, whatever the types of the blocks in which they lie.
-/
import Derived.Test.YtcoeoggoaiebeaaDoorLaid
import Derived.Test.YtcoeoggoaiebeaaDoorCkLaw
namespace Go.Proofs.YtcoeoggoaiebeaaDoor
open Go.RowKit Go.WideShapes Go.ChangeShapes Go.Deep
set_option linter.unusedSimpArgs false
set_option linter.unusedVariables false

theorem cellsBlk : Tryd.prog.cellsOf 53 = 4 := by kernel_rfl
theorem cellsPic : Tryd.prog.cellsOf 45 = 3 := by kernel_rfl
theorem cellsInts : Tryd.prog.cellsOf 35 = 1 := by kernel_rfl
theorem cellsBlks : Tryd.prog.cellsOf 43 = 1 := by kernel_rfl

theorem cells_row {W : World} {b o : Nat} {xs : List Value} (h0 : 0 < xs.length) (h : ∀ j u, xs[j]? = some u → W.cell? ⟨b, o + j, none⟩ = some u) : ∃ (cur : Array Value) (e : TypeId) (fr : Nat × Nat), W.heap[b]? = some (.cells cur e fr) ∧ ∀ j u, xs[j]? = some u → cur[o + j]? = some u := by
  have h1 := h 0 _ (List.getElem?_eq_getElem h0)
  cases hb : W.heap[b]? with
  | none => simp [World.cell?, hb] at h1
  | some x =>
    cases x with
    | cells cur e fr => exact ⟨cur, e, fr, rfl, fun j u hu => by rw [← cell_of_row W b (o + j) cur e fr hb]; exact h j u hu⟩
    | _ => simp [World.cell?, hb] at h1

theorem open_intsR {H : Type} {enc : TypeId × Value → H} {W : World} {fuel : Nat} {c0 : Value} {y : DataW H × List MemPlace}
    (h : DataW.trod enc Tryd.prog W 0 (fun _ => true) true fuel 35 [c0] = some y) : ∃ (t : TypeId) (xs : List Int), RI W t c0 xs := by
  rcases open_ints Tryd.underlying35 Tryd.underlying3 cellsInt h with ⟨hcs, _⟩ | ⟨a, len, cap, zs, hcs, _, hl, hm, hz, _, hcell, _⟩
  · simp at hcs
    subst hcs
    exact ⟨0, [], Rd.nil_ _ _ _⟩
  · simp at hcs
    subst hcs
    simp only [if_true] at hz
    have hlen : (zs.take len).length = len := by rw [List.length_take]; omega
    by_cases h0 : 0 < len
    · obtain ⟨b, off, rfl, hc⟩ := ints_at hcell (by omega)
      obtain ⟨cur, e, fr, hh, hrow⟩ := cells_row (W := W) (b := b) (o := off) (xs := (zs.take len).map (Value.int .i64)) (by rw [List.length_map, hlen]; exact h0) (fun j u hu => by
        have hj : j < len := by have := (List.getElem?_eq_some_iff.1 hu).1; rw [List.length_map, hlen] at this; exact this
        rw [hc j (by omega)]
        rw [List.getElem?_map, List.getElem?_take, if_pos hj, List.getElem?_eq_getElem (by omega)] at hu
        rw [List.getD_eq_getElem?_getD, List.getElem?_eq_getElem (by omega)]
        exact hu)
      exact ⟨e, zs.take len, by
        unfold RI
        rw [hlen]
        exact ⟨by rw [List.length_map, hlen, Nat.mul_one], _, cap, rfl, hl, hm, by simp, fun _ => ⟨b, off, cur, fr, rfl, hh, hrow⟩⟩⟩
    · obtain rfl : len = 0 := by omega
      exact ⟨0, [], rfl, some a, cap, rfl, by simp, hm, by simp, fun h => by simp at h⟩

theorem blk_ints {H : Type} {enc : TypeId × Value → H} {W : World} {base fuel : Nat} {sp : Nat → Bool} {hd : Bool} {c0 c1 c2 c3 : Value} {y : DataW H × List MemPlace}
    (h : DataW.trod enc Tryd.prog W base sp hd fuel 53 [c0, c1, c2, c3] = some y) : ∃ b : Bk, c0 = .int .i64 b.line ∧ c1 = .int .i64 b.cls ∧ c2 = .int .i64 b.kind ∧ c3 = .int .i64 b.gen := by
  obtain ⟨xs, k, hk, hxy, _, hxl, hf⟩ := DataW.trod_struct Tryd.underlying53 h
  match xs, hxl with
  | [y0, y1, y2, y3], _ =>
    have g0 := hf 0 _ rfl
    have g1 := hf 1 _ rfl
    have g2 := hf 2 _ rfl
    have g3 := hf 3 _ rfl
    simp [cellsInt] at g0 g1 g2 g3
    obtain ⟨a, e0, _, _⟩ := DataW.trod_int Tryd.underlying3 g0
    obtain ⟨b, e1, _, _⟩ := DataW.trod_int Tryd.underlying3 g1
    obtain ⟨c, e2, _, _⟩ := DataW.trod_int Tryd.underlying3 g2
    obtain ⟨d, e3, _, _⟩ := DataW.trod_int Tryd.underlying3 g3
    simp at e0 e1 e2 e3
    exact ⟨(a, b, c, d), e0, e1, e2, e3⟩

theorem open_blksR {H : Type} {enc : TypeId × Value → H} {W : World} {fuel : Nat} {c0 : Value} {y : DataW H × List MemPlace}
    (h : DataW.trod enc Tryd.prog W 0 (fun _ => true) true fuel 43 [c0] = some y) : ∃ (t : TypeId) (bs : List Bk), RB W t c0 bs := by
  rcases open_slice Tryd.underlying43 h with ⟨hcs, _⟩ | ⟨a, len, cap, m, n, D, Pl, hcs, _, hl, hm, hmm, _, hx⟩
  · simp at hcs
    subst hcs
    exact ⟨0, [], Rd.nil_ _ _ _⟩
  · simp at hcs
    subst hcs
    simp only [if_true] at hmm
    subst hmm
    have each : ∀ i, i < m → ∃ q : Bk, ∀ j u, (bkCells q)[j]? = some u → W.cell? ((a.add (i * 4)).add j) = some u := by
      intro i hi
      obtain ⟨cs', h1, h2⟩ := hx i hi
      rw [cellsBlk] at h1
      obtain ⟨_, hlen, hcell⟩ := World.cells?_some h1
      match cs', hlen with
      | [v0, v1, v2, v3], _ =>
        obtain ⟨q, rfl, rfl, rfl, rfl⟩ := blk_ints h2
        refine ⟨q, fun j u hu => ?_⟩
        have hj : j < 4 := by have := (List.getElem?_eq_some_iff.1 hu).1; simpa [bkCells] using this
        rw [hcell j hj]
        exact hu
    obtain ⟨q, hq⟩ := choose_lt each
    have hlen : ((List.range len).map q).length = len := by simp
    by_cases h0 : 0 < len
    · obtain ⟨b, off, spot⟩ := a
      have hspot : spot = none := by simpa [Addr.add] using World.cell?_spot (hq 0 (by omega) 0 _ rfl)
      subst hspot
      have hq' : ∀ i, i < len → ∀ j u, (bkCells (q i))[j]? = some u → W.cell? ⟨b, off + (i * 4 + j), none⟩ = some u := fun i hi j u hu => by
        have := hq i (by omega) j u hu
        rw [Go.WideShapes.add_plain, Go.WideShapes.add_plain, Nat.add_assoc] at this
        exact this
      obtain ⟨cur, e, fr, hh, hrow⟩ := cells_row (W := W) (b := b) (o := off) (xs := bksCells ((List.range len).map q)) (by rw [bksCells_length, hlen]; omega) (fun j u hu => by
        have hj : j < len * 4 := by have := (List.getElem?_eq_some_iff.1 hu).1; rw [bksCells_length, hlen] at this; exact this
        have h4 : j % 4 < 4 := Nat.mod_lt _ (by omega)
        have hk : j / 4 < len := by omega
        have hjj : j = j / 4 * 4 + j % 4 := by omega
        rw [hjj, bksCells_get _ _ _ h4, List.getElem?_map, List.getElem?_range hk] at hu
        rw [hjj]
        exact hq' _ hk _ u (by simpa using hu))
      exact ⟨e, (List.range len).map q, by
        unfold RB
        rw [hlen]
        exact ⟨by rw [bksCells_length, hlen], _, m, rfl, hl, hm, by simp, fun _ => ⟨b, off, cur, fr, rfl, hh, hrow⟩⟩⟩
    · obtain rfl : len = 0 := by omega
      exact ⟨0, [], rfl, some a, m, rfl, by simp, hm, by simp, fun h => by simp at h⟩

set_option maxRecDepth 100000 in
theorem open_pic {H : Type} {enc : TypeId × Value → H} {W : World} {b0 : Nat} {r : Reach} {v : Value} {d : DataW H} {ps : List MemPlace} (hval : Value.okWide Tryd.prog W r b0 45 v)
    (h : DataW.Trod enc Tryd.prog W 0 (fun _ => true) true 45 v d ps) : ∃ (ch bl bd : Value) (t1 t2 t3 : TypeId) (cs : List Int) (bs : List Bk) (ds : List Int), v = .agg #[ch, bl, bd] ∧ RI W t1 ch cs ∧ RB W t2 bl bs ∧ RI W t3 bd ds := by
  obtain ⟨cs, rfl, hsz⟩ := okWide_struct Tryd.underlying45 hval
  rw [cellsPic] at hsz
  obtain ⟨l⟩ := cs
  match l, hsz with
  | [c0, c1, c2], _ =>
    obtain ⟨fuel, hf⟩ := h
    obtain ⟨xs, k, hk, hxy, _, hxl, hf⟩ := DataW.trod_struct Tryd.underlying45 hf
    match xs, hxl with
    | [y0, y1, y2], _ =>
      have g0 := hf 0 _ rfl
      have g1 := hf 1 _ rfl
      have g2 := hf 2 _ rfl
      simp [Value.cells, cellsInts, cellsBlks] at g0 g1 g2
      obtain ⟨t1, cs, h1⟩ := open_intsR g0
      obtain ⟨t2, bs, h2⟩ := open_blksR g1
      obtain ⟨t3, ds, h3⟩ := open_intsR g2
      exact ⟨c0, c1, c2, t1, t2, t3, cs, bs, ds, rfl, h1, h2, h3⟩
end Go.Proofs.YtcoeoggoaiebeaaDoor
