/-
  Fence over a memory of any content: the map of busy lines is ranged over while settle strikes lines out of it.
  memory.New: a memory whose lines are zero.
-/
import Derived.Test.YtckamjbdogpacaaGreatDoorGHeal
import Derived.Maps.RangeWalk
namespace Go.Proofs.YtckamjbdogpacaaGreatDoor
open Go.RowKit
open Go.ChangeMaps (setBlock)
set_option linter.unusedSimpArgs false
set_option linter.unusedVariables false

/-- A memory lies still where its blocks do. -/
theorem MemG.carry {base : Nat} {F : Nat → Prop} {w w' : World} {gm L : Nat} {D : Nat → Nat → Int} {C : Nat → Int} {P : Nat → List (Nat × Int)} {E : Nat} (h : MemG base F w gm L D C P E) (hk : ∀ g, F g → g < w.heap.size → w'.heap[g]? = w.heap[g]?) : MemG base F w' gm L D C P E := by
  obtain ⟨gl, gb, cur, sp, Ae, ne, ce, xs, es, ck, h1, h2, h3, h4, hM, hL, hZ, hP, hA, hE, hn, hB, hK⟩ := h
  have own : ∀ {t : TypeId} {size n : Nat} {v : Value} {ys : List Value}, (∀ b, v.ownBlock = some b → F b) → w.ownsRow base t size v n ys → w'.ownsRow base t size v n ys := by
    intro t size n v ys hf ho
    refine ⟨ho.1, ?_⟩
    rcases ho.2 with hn | ⟨g, cap, cu, rfl, hbg, hg, rest⟩
    · exact .inl hn
    · exact .inr ⟨g, cap, cu, rfl, hbg, (hk g (hf g (by simp [Value.ownBlock])) (lt_of_heap hg)).trans hg, rest⟩
  refine ⟨gl, gb, cur, sp, Ae, ne, ce, xs, es, ck, h1, h2, h3, h4, (hk _ hA.2.1 hM.lt).trans hM, (hk _ hA.2.2.1 hL.lt).trans hL, hZ, fun i hi => ?_, hA, own hA.2.2.2.2.1 hE, hn, (hk _ hA.2.2.2.1 (lt_of_heap hB)).trans hB, hK⟩
  obtain ⟨v, m, a, b, c, d, e⟩ := hP i hi
  exact ⟨v, m, a, b, c, own (hA.2.2.2.2.2 i hi v a) d, e⟩
theorem MemG.keys {base : Nat} {F : Nat → Prop} {w : World} {gm L : Nat} {D : Nat → Nat → Int} {C : Nat → Int} {P : Nat → List (Nat × Int)} {E : Nat} (h : MemG base F w gm L D C P E) {gb : Nat} {es : Array MapEntry} {ck : Nat} (hb : Busy w gm gb es ck) : KeysG es ck L ∧ F gb ∧ gb < w.heap.size := by
  obtain ⟨gl, gb', cur, sp, Ae, ne, ce, xs, es', ck', h1, h2, h3, h4, hM, hL, hZ, hP, hA, hE, hn, hB, hK⟩ := h
  have m1 := hM.cell 1
  simp only [List.getElem?_toArray, List.getElem?_cons_succ, List.getElem?_cons_zero] at m1
  have a := hb.1
  rw [m1] at a
  injection a with a
  injection a with a
  injection a with a
  subst a
  have b := hb.2
  rw [hB] at b
  injection b with b
  injection b with b c
  subst b
  subst c
  exact ⟨hK, hA.2.2.2.1, lt_of_heap hB⟩

theorem leftOf_size (es : Array MapEntry) (seen : Array Nat) : (leftOf es seen).size = ((es.toList.map (·.born)).filter fun b => !seen.contains b).length := by
  unfold leftOf
  rw [List.filter_map, List.length_map, ← Array.length_toList, Array.toList_filter]
  rfl
theorem left_less {es es' : Array MapEntry} (seen : Array Nat) (hf : Fewer es es') {e : MapEntry} (he : e ∈ (leftOf es seen).toList) : (leftOf es' (seen.push e.born)).size < (leftOf es seen).size := by
  rw [leftOf_size, leftOf_size]
  have h1 : ((es'.toList.map (·.born)).filter fun b => !(seen.push e.born).contains b).length ≤ ((es.toList.map (·.born)).filter fun b => !(seen.push e.born).contains b).length := (hf.filter _).length_le
  have he2 : e.born ∈ (es.toList.map (·.born)).filter fun b => !seen.contains b := by
    unfold leftOf at he
    rw [Array.toList_filter, List.mem_filter] at he
    rw [List.mem_filter]
    exact ⟨List.mem_map.2 ⟨e, he.1, rfl⟩, he.2⟩
  have h2 : ((es.toList.map (·.born)).filter fun b => !(seen.push e.born).contains b) = (((es.toList.map (·.born)).filter fun b => !seen.contains b).filter fun b => b != e.born) := by
    rw [List.filter_filter]
    congr 1
    funext b
    by_cases hbe : b = e.born <;> simp [Array.contains_push, hbe]
  rw [h2] at h1
  refine Nat.lt_of_le_of_lt h1 ?_
  rw [List.length_filter_lt_length_iff_exists]
  exact ⟨e.born, he2, by simp⟩

section
variable {P : Program} {w : World} {ops : Array Oper} {rest : List Oper} {o : Oper} {a : Act} {Q : Exit → Act → World → Prop}
/-- 'next' over the map of busy lines. -/
theorem wpList_next_busy (hg : o.guard = none) (it : Operand) (hop : o.op = Op.next it false) (r gb ck L : Nat) (seen : Array Nat) (es : Array MapEntry) (hit : a.eval it = .pointer (some ⟨r, 0, none⟩))
    (hr : w.heap[r]? = some (.mapIter (some gb) ck seen ck)) (hb : w.heap[gb]? = some (.map es ck)) (hK : KeysG es ck L) (hne : gb ≠ r)
    (hDone : wpList P ops Q rest (a.put o.dst (.tuple #[.bool false])) w)
    (hMore : ∀ (n : Nat) (v : Value) (e : MapEntry) (w' : World), n < L → e ∈ es.toList → e ∈ (leftOf es seen).toList → e.key = .int .i64 (n : Int) → (∃ w1, (w1 = w ∨ w1 = w.drew) ∧ w' = setBlock w1 r (.mapIter (some gb) ck (seen.push e.born) ck)) →
      (Instr.entry (.pointer (some ⟨r, 0, none⟩))).run P w' = .ok (.tuple #[.int .i64 (n : Int), v]) w' → wpList P ops Q rest (a.put o.dst (.tuple #[.bool true, .int .i64 (n : Int), v])) w') :
    wpList P ops Q (o :: rest) a w := by
  refine wpList_plain hg fun K' hK' => ?_
  unfold Oper.wp
  rcases run_next_at (P := P) w o.type r gb ck ck seen es ck hr hb (fun x hx => hK.2.1 x hx) (Nat.le_refl _) with ⟨h0, hrun⟩ | ⟨e, he, w1, hw1, hrun⟩
  · simp [execOp, hop, hit, hrun, Result.andThen]
    exact hK' _ _ hDone
  · have hm : e ∈ es.toList := by
      unfold leftOf at he
      rw [Array.toList_filter, List.mem_filter] at he
      exact he.1
    obtain ⟨n, hn, hk⟩ := hK.1 e hm
    have hr1 : w1.heap[r]? = some (.mapIter (some gb) ck seen ck) := by rcases hw1 with rfl | rfl <;> exact hr
    have hb1 : w1.heap[gb]? = some (.map es ck) := by rcases hw1 with rfl | rfl <;> exact hb
    have hlt : r < w1.heap.size := lt_of_heap hr1
    have hen := run_entry_at (P := P) (setBlock w1 r (.mapIter (some gb) ck (seen.push e.born) ck)) r gb ck seen es ck e (by simp [setBlock, hlt]) (by simp only [setBlock]; rw [Array.getElem?_setIfInBounds_ne (Ne.symm hne)]; exact hb1) hm hK.2.2.1
    rw [hk] at hrun hen
    simp [execOp, hop, hit, hrun, Result.andThen]
    exact hK' _ _ (hMore n e.val e _ hn hm he hk ⟨w1, hw1, rfl⟩ hen)
end

def FenceRel (base : Nat) (F F' : Nat → Prop) (w : World) (gm gb ck r L E : Nat) (wr : World) : Prop := ∃ D C P es seen, MemG base F' wr gm L D C P E ∧ Busy wr gm gb es ck ∧ wr.heap[r]? = some (.mapIter (some gb) ck seen ck) ∧ GrewF base F w wr
theorem rangeLeft_eq {w : World} {gb r : Nat} {es : Array MapEntry} {ck s c : Nat} {m : Option Nat} {seen : Array Nat} (h : w.heap[gb]? = some (.map es ck)) (h2 : w.heap[r]? = some (.mapIter m s seen c)) : w.rangeLeft gb r = (leftOf es seen).size := by
  simp only [World.rangeLeft, h, h2]
theorem GrewF.block {base : Nat} {F : Nat → Prop} {w wr : World} (h : GrewF base F w wr) {r : Nat} (hr : w.heap.size ≤ r) (o : Obj) (w1 : World) (hw1 : w1 = wr ∨ w1 = wr.drew) : GrewF base F w (setBlock w1 r o) := by
  obtain ⟨⟨a, b, c, d, e⟩, f⟩ := h
  have hs : ∀ g, g < w.heap.size → (setBlock w1 r o).heap[g]? = wr.heap[g]? := fun g hg => by
    have : (setBlock w1 r o).heap[g]? = w1.heap[g]? := by simp only [setBlock]; rw [Array.getElem?_setIfInBounds_ne (by omega)]
    rw [this]
    rcases hw1 with rfl | rfl <;> rfl
  refine ⟨⟨?_, ?_, ?_, ?_, fun g hg => ?_⟩, fun g hg => ?_⟩
  · rcases hw1 with rfl | rfl <;> exact a
  · rcases hw1 with rfl | rfl <;> exact b
  · rcases hw1 with rfl | rfl <;> exact c
  · have : (setBlock w1 r o).heap.size = w1.heap.size := by simp [setBlock]
    rw [this]
    rcases hw1 with rfl | rfl <;> exact d
  · rw [hs g hg]; exact e g hg
  · rw [hs g hg]; exact f g hg

set_option maxRecDepth 100000 in
set_option maxHeartbeats 2000000 in
theorem fenceW_calls (base : Nat) (F : Nat → Prop) (w : World) (gm L : Nat) (T : Nat → Int) (E : Nat) (hM : MemW base F w gm L E) (hT : Gx base w T) (hE : E ≤ 900) (hU : Up F w.heap.size) (hbase : base ≤ w.heap.size) :
    Calls Tryz.prog 28 #[.pointer (some ⟨gm, 0, none⟩)] w (CallV base F w gm L (E + 1)) := by
  obtain ⟨D, C, P, hM⟩ := hM
  obtain ⟨gb, es, ck, hBy⟩ : ∃ gb es ck, Busy w gm gb es ck := by
    obtain ⟨gl, gb, cur, sp, Ae, ne, ce, xs, es, ck, g1, g2, g3, hL200, hG, hLn, hZ, hP, hA, hEv, hne, hB, hK⟩ := hM
    have m1 := hG.cell 1
    simp only [List.getElem?_toArray, List.getElem?_cons_succ, List.getElem?_cons_zero] at m1
    exact ⟨gb, es, ck, m1, hB⟩
  have hgb := (hM.keys hBy).2.2
  have m1 := hBy.1
  have hgm := World.block_lt_of_cell? w _ m1
  obtain ⟨F', hF'⟩ : ∃ F' : Nat → Prop, F' = fun g => F g ∧ g ≠ w.heap.size := ⟨_, rfl⟩
  have hFs : ∀ g, F' g → F g := fun g h => by rw [hF'] at h; exact h.1
  have hFx : ¬ F' w.heap.size := fun h => by rw [hF'] at h; exact h.2 rfl
  have hFu : Up F' (w.heap.size + 1) := fun g hg => by rw [hF']; exact ⟨hU g (by omega), by omega⟩
  have hA0 : Below w.heap.size w (w.alloc (.mapIter (some gb) ck #[] ck)) := by (repeat (first | with_reducible exact Below.refl _ _ | with_reducible assumption | with_reducible refine below_drewN ?_ _ | with_reducible refine Below.drew ?_ | with_reducible refine Below.alloc ?_ (by first | omega | (simp; omega) | simp) _ | with_reducible refine Below.setCell ?_ (by first | omega | (simp; omega) | simp) _))
  have hrel0 : FenceRel base F F' w gm gb ck w.heap.size L E (w.alloc (.mapIter (some gb) ck #[] ck)) :=
    ⟨D, C, P, es, #[], (hM.sub (F' := F') (fun g hg h => by rw [hF']; exact ⟨h, by omega⟩)).below hA0, ⟨(hA0.cell (p := ⟨gm, 1, none⟩) (World.block_lt_of_cell? w _ m1)).trans m1, (hA0.block gb hgb).trans hBy.2⟩, heap_alloc_new _ _, GrewF.of_below hA0⟩
  have hrg := run_range_map (P := Tryz.prog) w 89 _ _ gb es ck Tryz.underlying89 hBy.2
  have HREL := Lib.hid hrel0
  have HT := Lib.hid hT
  have HU := Lib.hid hU
  have HFU := Lib.hid hFu
  have HFX := Lib.hid hFx
  have HFS := Lib.hid hFs
  clear hM hBy hF' hFs hFx hFu hA0 hrel0 hT hU
  go_enter Tryz.func28, Tryz.ntmps28
  go_wp2_with fail
  go_loopw [2] (fun _ wr => FenceRel base F F' w gm gb ck w.heap.size L E wr) (fun _ wr => wr.rangeLeft gb w.heap.size)
  case atStart => exact HREL.out
  case round =>
    obtain ⟨D2, C2, P2, es2, seen, hM2, hB2, hr2, hg2⟩ := hrel
    obtain ⟨hK2, hFb, -⟩ := hM2.keys hB2
    have hne : gb ≠ w.heap.size := by omega
    have HM2 := Lib.hid hM2
    have HB2 := Lib.hid hB2
    have HR2 := Lib.hid hr2
    have HG2 := Lib.hid hg2
    have HK2 := Lib.hid hK2
    have hgm2 : gm < w.heap.size := hgm
    clear hM2 hB2 hr2 hg2 hK2 hrg m1 HREL
    go_wp2_with (at_next; refine wpList_next_busy rfl _ rfl w.heap.size gb ck L seen es2 rfl HR2.out HB2.out.2 HK2.out hne ?_ ?_)
    · refine (noteG0_calls base F' _ gm L D2 C2 P2 E HM2.out (by omega) (HFU.out.mono (lt_of_heap HR2.out)) _ _ _ _).mono ?_
      rintro e w5 ⟨rfl, hM5, hg5⟩
      have HM5 := Lib.hid hM5
      have HG5 := Lib.hid (HG2.out.trans (hg5.mono HFS.out))
      clear hM5 hg5
      go_wp2_with fail
      go_end0
      exact ⟨rfl, ⟨_, _, _, HM5.out.sub (fun g _ h => HFS.out g h)⟩, HG5.out⟩
    · intro n v en w1 hn hen hel hkey hw1 hent
      have hle : en ∈ (leftOf es2 seen).toList := by simpa using hel
      have hx : ∃ x ∈ es2.toList, x.key = .int .i64 (n : Int) := ⟨en, by simpa using hen, hkey⟩
      have hw1' : ∃ wa, (wa = wr ∨ wa = wr.drew) ∧ w1 = setBlock wa w.heap.size (.mapIter (some gb) ck (seen.push en.born) ck) := by
        rcases hw1 with h | h
        · exact ⟨wr, .inl rfl, h⟩
        · exact ⟨wr.drew, .inr rfl, h⟩
      obtain ⟨wa, hwa, rfl⟩ := hw1'
      have hq : ∀ g, g ≠ w.heap.size → (setBlock wa w.heap.size (.mapIter (some gb) ck (seen.push en.born) ck)).heap[g]? = wr.heap[g]? := fun g hg => by
        have h : (setBlock wa w.heap.size (.mapIter (some gb) ck (seen.push en.born) ck)).heap[g]? = wa.heap[g]? := by simp only [setBlock]; rw [Array.getElem?_setIfInBounds_ne (Ne.symm hg)]
        rw [h]
        rcases hwa with rfl | rfl <;> rfl
      have hrr : (setBlock wa w.heap.size (.mapIter (some gb) ck (seen.push en.born) ck)).heap[w.heap.size]? = some (.mapIter (some gb) ck (seen.push en.born) ck) := by
        have : w.heap.size < wa.heap.size := by
          have := lt_of_heap HR2.out
          rcases hwa with rfl | rfl <;> exact this
        simp [setBlock, this]
      have hG1 := HG2.out.block (Nat.le_refl w.heap.size) (.mapIter (some gb) ck (seen.push en.born) ck) wa hwa
      obtain ⟨w1, hw1⟩ : ∃ x, x = setBlock wa w.heap.size (.mapIter (some gb) ck (seen.push en.born) ck) := ⟨_, rfl⟩
      rw [← hw1] at hq hrr hG1 hent ⊢
      clear hw1 hwa hel hen hkey
      have hM1 : MemG base F' w1 gm L D2 C2 P2 E := HM2.out.carry (fun g hg _ => hq g (fun h => HFX.out (h ▸ hg)))
      have hB1 : Busy w1 gm gb es2 ck := ⟨(cell_of_heap (hq gm (by omega)) 1).trans HB2.out.1, (hq gb hne).trans HB2.out.2⟩
      have hsz : w.heap.size + 1 ≤ w1.heap.size := lt_of_heap hrr
      have HSET := Lib.hid (fun m hm => settleG_calls base F' w1 gm L n m T D2 C2 P2 E hM1 (HT.out.grew hG1) hn hm hE (HFU.out.mono hsz) (by omega))
      obtain ⟨gl, gb', cur, sp, Ae, ne, ce, xs, es', ck', g1, g2, g3, hL200, hG, hLn, hZ, hP, -⟩ := hM1
      obtain ⟨v', m, hv', hmk, hmm, hrow, hl, hxs⟩ := hP n hn
      have m0 := hG.cell 0
      simp only [List.getElem?_toArray, List.getElem?_cons_succ, List.getElem?_cons_zero] at m0
      have l10 := (hLn.cell (n * 11 + 10)).trans hmk
      have ni0 : (0 : Int) ≤ (n : Int) := by omega
      have ni1 : (n : Int) < (L : Int) := by omega
      have HCALL := Lib.hid (HSET.out m hmm)
      have HLE := Lib.hid hle
      have HX := Lib.hid hx
      have HB1 := Lib.hid hB1
      have HRR := Lib.hid hrr
      have HG1 := Lib.hid hG1
      clear hG hLn hZ hP hv' hmk hrow hxs HSET hle hx hB1 hrr hG1 hq
      go_wp2_with fail
      refine HCALL.out.mono ?_
      rintro e w3 ⟨rfl, ⟨D3, C3, P3, hM3⟩, hg3, hkb⟩
      obtain ⟨es3, hB3, hf3⟩ := hkb gb es2 ck HB1.out HX.out
      have hr3 := (hg3.keep (lt_of_heap HRR.out) HFX.out).trans HRR.out
      have HREL3 : Hid (FenceRel base F F' w gm gb ck w.heap.size L E w3) := ⟨D3, C3, P3, es3, seen.push en.born, hM3, hB3, hr3, HG1.out.trans (hg3.mono HFS.out)⟩
      have HLESS : Hid (w3.rangeLeft gb w.heap.size < wr.rangeLeft gb w.heap.size) := by
        show _ < _
        rw [rangeLeft_eq hB3.2 hr3, rangeLeft_eq HB2.out.2 HR2.out]
        exact left_less seen hf3 HLE.out
      clear hM3 hg3 hkb hB3 hf3 hr3 m0 l10 hent
      go_wp2_with fail
      go_roundw
      case rel => exact HREL3.out
      case measure => exact HLESS.out
end Go.Proofs.YtckamjbdogpacaaGreatDoor

namespace Go.Proofs.YtckamjbdogpacaaGreatDoor
open Go.RowKit
set_option linter.unusedSimpArgs false
set_option linter.unusedVariables false

def NewG (w : World) (L : Nat) (e : Ending) (w' : World) : Prop := ∃ gm, e = .returned (.pointer (some ⟨gm, 0, none⟩)) ∧ MemG w.heap.size (fun g => w.heap.size ≤ g) w' gm L (fun _ _ => 0) (fun _ => 0) (fun _ => []) 0 ∧ Below w.heap.size w w'

set_option maxRecDepth 100000 in
set_option maxHeartbeats 1000000 in
theorem newG_calls (w : World) (L : Nat) (h1 : 1 ≤ L) (h2 : L ≤ 200) :
    Calls Tryz.prog 10 #[.int .i64 (L : Int)] w (NewG w L) := by
  obtain ⟨j0, hj0, hy0, hy1, hy2⟩ := info_parts ln_info
  have hmm := @run_makeMap Tryz.prog
  go_enter Tryz.func10, Tryz.ntmps10
  go_wp2_with (at_make; refine wpList_make_full _ rfl _ _ 82 rfl w.heap.size 88 j0 _ 11 Tryz.underlying82 hj0 hy0 hy1 _ _ _ _ L rfl rfl rfl rfl (by rw [hy2]; omega) (by unfold maxLen; omega) (by simp) ?_; intro w2 hown2 hg2)
  obtain ⟨cur, hcur, hZ, hT⟩ := lines_made hown2 h1
  have hB2 : Below w.heap.size w w2 := Below.grown (Below.refl _ _) hg2 (Nat.le_refl _) (by simp)
  have hHT := Lib.hid hT
  have hHZ := Lib.hid hZ
  clear hown2 hg2 hT hZ
  refine (encode_zero _).mono ?_
  rintro e w3 ⟨rfl, hb3⟩
  have hB3 := hB2.trans (hb3.mono hB2.size)
  replace hcur := hcur.below hb3 hcur.lt
  clear hb3 hB2
  go_wp2_with fail
  go_loopw [5, 18] (fun _ i wr => NewRel w w.heap.size L i wr) (fun _ i _ => L - (intOf i).toNat)
  case atStart => exact ⟨0, cur, Nat.zero_le _, rfl, hcur, hHZ.out, hHT.out, hB3⟩
  case round =>
    clear hcur hHZ hHT hB3
    obtain ⟨k, cur, hk, rfl, hC, hZ, hT, hb⟩ := hrel
    have HZ := Lib.hid hZ
    have HT := Lib.hid hT
    have hl := hC.lt
    by_cases hlt : k < L
    · have c8 := (hC.cell (k * 11 + 8)).trans (hZ.2 k hlt 8 (by omega))
      have f8 := hC.free (k * 11 + 8)
      clear hZ hT
      go_wp2_with fail
      refine ⟨⟨k + 1, _, by omega, by go_num, hC.set_ _ _, HZ.out.set _ _ (fun _ _ _ _ _ => rfl), fun i hi => ?_, by (repeat (first | with_reducible exact Below.refl _ _ | with_reducible assumption | with_reducible refine below_drewN ?_ _ | with_reducible refine Below.drew ?_ | with_reducible refine Below.alloc ?_ (by first | omega | (simp; omega) | simp) _ | with_reducible refine Below.setCell ?_ (by first | omega | (simp; omega) | simp) _))⟩, by simp [intOf]; omega⟩
      rw [Array.getElem?_setIfInBounds_ne (by omega), Array.getElem?_setIfInBounds_ne (by omega)]
      exact HT.out i hi
    · clear hZ hT
      go_wp2_with fail
      have hGb : ((wr.alloc (.map #[] 0)).alloc (.cells #[.slice (some ⟨w.heap.size, 0, none⟩) L L, .map (some wr.heap.size), .int .i64 0, .slice none 0 0] 92)).heap[wr.heap.size]? = some (.map #[] 0) := by
        rw [Below.heap_alloc _ _ _ (by simp)]
        exact heap_alloc_new wr _
      have hsz := hb.size
      refine bodyPost_ret (v := .pointer (some ⟨wr.heap.size + 1, 0, none⟩)) ?_ rfl ⟨wr.heap.size + 1, rfl, ⟨w.heap.size, wr.heap.size, cur, 0, none, 0, 0, [], #[], 0, by omega, by omega, by omega, h2, Cl.new_ _ _ _ _ (by simp), (hC.alloc _).alloc _, ⟨HZ.out.1, fun i hi => ⟨win_zero, fun j hj => HZ.out.2 i hi j (by omega), HZ.out.2 i hi 8 (by omega)⟩⟩, fun i hi => ⟨_, 0, (HT.out i hi).1, (HT.out i hi).2, Nat.le_refl _, World.ownsRow_nil _ _ _ _, Nat.le_refl _, fun p hp => by cases hp⟩, ⟨?_, by show _ ≤ _; omega, by show _ ≤ _; omega, by show _ ≤ _; omega, fun b hb => by simp [Value.ownBlock] at hb, fun i hi u hu b hb => ?_⟩, World.ownsRow_nil _ _ _ _, by omega, hGb, by simp, MapKept.stamped_empty 0⟩, by (repeat (first | with_reducible exact Below.refl _ _ | with_reducible assumption | with_reducible refine below_drewN ?_ _ | with_reducible refine Below.drew ?_ | with_reducible refine Below.alloc ?_ (by first | omega | (simp; omega) | simp) _ | with_reducible refine Below.setCell ?_ (by first | omega | (simp; omega) | simp) _))⟩
      · simp [results, Tryz.results10, go_sem, *]
      · intro i j hi hj _ v v' hv _ b hb'
        rw [(HT.out i hi).1] at hv
        injection hv with hv
        subst hv
        simp [Value.ownBlock] at hb'
      · rw [(HT.out i hi).1] at hu
        injection hu with hu
        subst hu
        simp [Value.ownBlock] at hb
end Go.Proofs.YtckamjbdogpacaaGreatDoor
