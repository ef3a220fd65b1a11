/-
  class.Free: the free blocks of a class, ascending.
  The specification's Free: the free blocks of a class, ascending.
-/
import Derived.Test.YtcoeoggoaiebeaaDoorDel
import Derived.Test.YtcoeoggoaiebeaaDoorGiven
namespace Go.Proofs.YtcoeoggoaiebeaaDoor
open Go.RowKit
open Go.Sort (PermIn SortedIn)
set_option linter.unusedSimpArgs false
set_option linter.unusedVariables false

/-- A list of blocks is returned: those of 'F', ascending. -/
def FreePost (w : World) (F : List Bk) (e : Ending) (w' : World) : Prop :=
  ∃ (A : Option Addr) (cp : Nat) (M : List Bk), e = .returned (.slice A M.length cp) ∧ RdB w' (.slice A M.length cp) M ∧ M.Perm F ∧ M.Pairwise (fun x y => ltB y x = false) ∧ Below w.heap.size w w'

theorem merge_list {d d' : Array Bk} (h : MergeOk 0 d.size d d') : d'.toList.Perm d.toList ∧ d'.toList.Pairwise (fun x y => ltB y x = false) ∧ d'.size = d.size := by
  obtain ⟨⟨hsz, _, hperm⟩, hs⟩ := h
  have e1 : d'.extract 0 d.size = d' := by rw [← hsz]; exact Array.extract_size
  rw [e1, Array.extract_size] at hperm
  refine ⟨hperm, ?_, hsz⟩
  rw [List.pairwise_iff_getElem]
  intro i j hi hj hij
  have hi' : i < d'.size := by simpa using hi
  have hj' : j < d'.size := by simpa using hj
  have := hs i j (Nat.zero_le _) hij (by omega)
  rw [getElem!_pos d' j hj', getElem!_pos d' i hi'] at this
  simpa using this
theorem ltB_both {x y : Bk} (h1 : ltB y x = false) (h2 : ltB x y = false) : x.gen = y.gen ∧ x.line = y.line := by
  unfold ltB rarerB at h1 h2
  simp only [Bool.or_eq_false_iff, decide_eq_false_iff_not, Bool.and_eq_false_iff, beq_eq_false_iff_ne, ne_eq] at h1 h2
  omega
theorem frB_both {c : Int} {x y : Bk} (h1 : frB c x = true) (h2 : frB c y = true) : x.cls = y.cls ∧ x.kind = y.kind := by
  unfold frB freeB at h1 h2
  simp only [Bool.and_eq_true, beq_iff_eq] at h1 h2
  omega
/-- There is one ascending list of the free blocks of a class. -/
theorem free_unique {bs M1 M2 : List Bk} {c : Int} (p1 : M1.Perm (bs.filter (frB c))) (s1 : M1.Pairwise (fun x y => ltB y x = false)) (p2 : M2.Perm (bs.filter (frB c))) (s2 : M2.Pairwise (fun x y => ltB y x = false)) : M1 = M2 := by
  refine List.Perm.eq_of_pairwise (le := fun x y => ltB y x = false) ?_ s1 s2 (p1.trans p2.symm)
  intro x y hx hy h1 h2
  have a1 := (List.mem_filter.1 (p1.mem_iff.1 hx)).2
  have a2 := (List.mem_filter.1 (p2.mem_iff.1 hy)).2
  obtain ⟨e1, e2⟩ := ltB_both h1 h2
  obtain ⟨e3, e4⟩ := frB_both a1 a2
  exact Prod.ext e2 (Prod.ext e3 (Prod.ext e4 e1))

set_option maxRecDepth 100000 in
set_option maxHeartbeats 2000000 in
theorem free_calls (w : World) (ch bl bd : Value) (bs : List Bk) (c : Int) {te : TypeId} (hR : Rd w te 4 bl bs.length (bksCells bs)) (hn : bs.length ≤ 150) :
    Calls Tryd.prog 24 #[.agg #[ch, bl, bd], .int .i64 c] w (FreePost w (bs.filter (frB c))) := by
  go_enter Tryd.func24, Tryd.ntmps24
  go_wp2_with fail
  refine (cloneB_calls _ bl bs (hR.below (by (repeat (first | with_reducible exact Below.refl _ _ | with_reducible assumption | with_reducible refine below_drewN ?_ _ | with_reducible refine Below.drew ?_ | with_reducible refine Below.alloc ?_ (by first | omega | (simp; omega) | simp) _ | with_reducible refine Below.setCell ?_ (by first | omega | (simp; omega) | simp) _)))) (by omega)).mono ?_
  rintro e w1 ⟨A, cp, rfl, hown, hb1⟩
  have hgc := (Cl.new_ (w.alloc (.cells #[ch, bl, bd] 45)) 3 #[.int .i64 c] (w.heap.size + 1) (by simp)).below hb1 (by simp)
  have hB1 : Below w.heap.size w w1 := Below.trans (by (repeat (first | with_reducible exact Below.refl _ _ | with_reducible assumption | with_reducible refine below_drewN ?_ _ | with_reducible refine Below.drew ?_ | with_reducible refine Below.alloc ?_ (by first | omega | (simp; omega) | simp) _ | with_reducible refine Below.setCell ?_ (by first | omega | (simp; omega) | simp) _))) (hb1.mono (by simp; omega))
  clear hb1 hR
  have hc1 := hgc.cell 0
  simp only [List.getElem?_toArray, List.getElem?_cons_zero] at hc1
  by_cases h0 : bs = []
  · subst h0
    simp only [List.length_nil] at hown ⊢
    have HR := Lib.hid (Rd.own hown)
    clear hown hgc
    go_wp2_with fail
    refine (delete0 _ A cp _).mono ?_
    rintro e w2 ⟨rfl, rfl⟩
    go_wp2_with fail
    refine (sortStable0 _ A cp _).mono ?_
    rintro e w2 ⟨rfl, rfl⟩
    go_wp2_with fail
    go_ret
    exact ⟨A, cp, [], rfl, HR.out, List.Perm.refl _, List.Pairwise.nil, hB1⟩
  · obtain ⟨g, cp', hv, hg, hcp, hcm, hrow⟩ := RowB.own (by simpa using hown) (List.length_pos_iff.2 h0)
    injection hv with e1 _ e3
    subst e1
    subst e3
    clear hown h0
    obtain ⟨n, hln⟩ : ∃ n, bs.length = n := ⟨_, rfl⟩
    rw [hln] at hcp ⊢
    have HLN := Lib.hid hln
    have hn' : n ≤ 150 := by omega
    clear hln hn
    have hg2 : w.heap.size + 1 < g := hg
    clear hg
    go_wp2_with fail
    refine (delete_calls _ g (w.heap.size + 1) cp n c bs hrow HLN (by omega) hcp hcm hc1 hg2).mono ?_
    rintro e w2 ⟨rfl, hrow2, hb2⟩
    have hFl : (bs.filter (frB c)).length ≤ n := by rw [← HLN.out]; exact List.length_filter_le _ _
    have hB2 : Below w.heap.size w w2 := hB1.trans (hb2.mono (by omega))
    clear hb2 hrow hB1 hgc hc1
    generalize hF : bs.filter (frB c) = F at *
    clear hF
    have hDat : Dat w2 g F.toArray := by unfold Dat; simpa using hrow2
    have hsz : F.toArray.size = F.length := by simp
    go_wp2_with fail
    rw [← hsz]
    refine (sortStable_calls _ g cp F.toArray hDat (by rw [hsz]; omega)).mono ?_
    rintro e w3 ⟨rfl, d3, hD3, hM3, hb3⟩
    obtain ⟨p3, s3, z3⟩ := merge_list hM3
    rw [hsz] at z3 ⊢
    have HE : Hid (d3.toList.Perm F ∧ d3.toList.Pairwise (fun x y => ltB y x = false) ∧ d3.toList.length = F.length) := ⟨by simpa using p3, s3, by simpa using z3⟩
    have hRd : RdB w3 (.slice (some ⟨g, 0, none⟩) d3.toList.length cp) d3.toList := RowB.read hD3 (by rw [HE.out.2.2]; omega) hcm
    have HRD := Lib.hid hRd
    have hB3 : Below w.heap.size w w3 := hB2.trans (hb3.mono (by omega))
    clear hM3 p3 s3 z3 hRd hsz hDat hrow2
    go_wp2_with fail
    go_ret
    exact ⟨some ⟨g, 0, none⟩, cp, d3.toList, by rw [HE.out.2.2]; rfl, HRD.out, HE.out.1, HE.out.2.1, hB3⟩
end Go.Proofs.YtcoeoggoaiebeaaDoor

namespace Go.Proofs.YtcoeoggoaiebeaaDoor
open Go.RowKit
open Go.Sort (swp PermIn SortedIn SWO swp_permIn Ins swp_right swp_size)
set_option linter.unusedSimpArgs false
set_option linter.unusedVariables false

set_option maxRecDepth 100000 in
set_option maxHeartbeats 1000000 in
theorem ahead_calls (w : World) (x y : Bk) :
    Calls Tryd.prog 48 #[.agg #[.int .i64 (Bk.line x), .int .i64 (Bk.cls x), .int .i64 (Bk.kind x), .int .i64 (Bk.gen x)], .agg #[.int .i64 (Bk.line y), .int .i64 (Bk.cls y), .int .i64 (Bk.kind y), .int .i64 (Bk.gen y)]] w fun e w' => e = .returned (.bool (ltB x y)) ∧ Below w.heap.size w w' := by
  by_cases h1 : x.gen < y.gen
  · have HR : Hid (ltB x y = true) := rarerB_yes h1
    have b1 : decide (x.gen < y.gen) = true := decide_eq_true h1
    go_enter Tryd.func48, Tryd.ntmps48
    go_wp2_with fail
    go_ret
    exact ⟨by rw [HR.out]; rfl, by (repeat (first | with_reducible exact Below.refl _ _ | with_reducible assumption | with_reducible refine below_drewN ?_ _ | with_reducible refine Below.drew ?_ | with_reducible refine Below.alloc ?_ (by first | omega | (simp; omega) | simp) _ | with_reducible refine Below.setCell ?_ (by first | omega | (simp; omega) | simp) _))⟩
  · have b1 : decide (x.gen < y.gen) = false := decide_eq_false h1
    by_cases h2 : x.gen = y.gen
    · have b2 : (x.gen == y.gen) = true := by simp [h2]
      have HR : Hid (ltB x y = decide (x.line < y.line)) := by show ltB x y = _; unfold ltB; rw [h2]; exact rarerB_eq
      clear h2
      by_cases h3 : x.line < y.line
      · have b3 : decide (x.line < y.line) = true := decide_eq_true h3
        go_enter Tryd.func48, Tryd.ntmps48
        go_wp2_with fail
        go_ret
        exact ⟨by rw [HR.out, decide_eq_true h3]; rfl, by (repeat (first | with_reducible exact Below.refl _ _ | with_reducible assumption | with_reducible refine below_drewN ?_ _ | with_reducible refine Below.drew ?_ | with_reducible refine Below.alloc ?_ (by first | omega | (simp; omega) | simp) _ | with_reducible refine Below.setCell ?_ (by first | omega | (simp; omega) | simp) _))⟩
      · have b3 : decide (x.line < y.line) = false := decide_eq_false h3
        have HR2 : Hid (ltB x y = false) := by show ltB x y = false; rw [HR.out, b3]
        go_enter Tryd.func48, Tryd.ntmps48
        go_wp2_with fail
        go_ret
        exact ⟨by rw [HR2.out]; rfl, by (repeat (first | with_reducible exact Below.refl _ _ | with_reducible assumption | with_reducible refine below_drewN ?_ _ | with_reducible refine Below.drew ?_ | with_reducible refine Below.alloc ?_ (by first | omega | (simp; omega) | simp) _ | with_reducible refine Below.setCell ?_ (by first | omega | (simp; omega) | simp) _))⟩
    · have b2 : (x.gen == y.gen) = false := by simp [h2]
      have HR : Hid (ltB x y = false) := rarerB_no (by omega)
      clear h2
      go_enter Tryd.func48, Tryd.ntmps48
      go_wp2_with fail
      go_ret
      exact ⟨by rw [HR.out]; rfl, by (repeat (first | with_reducible exact Below.refl _ _ | with_reducible assumption | with_reducible refine below_drewN ?_ _ | with_reducible refine Below.drew ?_ | with_reducible refine Below.alloc ?_ (by first | omega | (simp; omega) | simp) _ | with_reducible refine Below.setCell ?_ (by first | omega | (simp; omega) | simp) _))⟩

/-- A row of blocks of the call's own, that may be stored into and appended to. -/
def OwnB (w : World) (base g cp : Nat) (L : List Bk) : Prop := base ≤ g ∧ L.length ≤ cp ∧ cp ≤ maxLen ∧ ∃ cur : Array Value, Cl w g 53 cur ∧ cur.size = cp * 4 ∧ ∀ i x, L[i]? = some x →
  cur[i * 4]? = some (.int .i64 x.line) ∧ cur[i * 4 + 1]? = some (.int .i64 x.cls) ∧ cur[i * 4 + 2]? = some (.int .i64 x.kind) ∧ cur[i * 4 + 3]? = some (.int .i64 x.gen)
section
variable {w w' : World} {base g cp : Nat} {L : List Bk}
theorem OwnB.row (h : OwnB w base g cp L) : RowB w g L := by obtain ⟨_, _, _, cur, hc, _, hx⟩ := h; exact ⟨cur, hc, hx⟩
theorem OwnB.below {B : Nat} (h : OwnB w base g cp L) (hb : Below B w w') (hg : g < B) : OwnB w' base g cp L := by obtain ⟨a, b, c, cur, hc, hx⟩ := h; exact ⟨a, b, c, cur, hc.below hb hg, hx⟩
theorem OwnB.drewN (h : OwnB w base g cp L) (n : Nat) : OwnB (w.drewN n) base g cp L := h
theorem OwnB.of {v : Value} (h : w.ownsRow base 53 4 v L.length (bksCells L)) (hn : 0 < L.length) : ∃ g cp, v = .slice (some ⟨g, 0, none⟩) L.length cp ∧ OwnB w base g cp L := by
  rcases h.2 with ⟨_, h0⟩ | ⟨g, cap, cur, rfl, hb, hg, hnc, hm, hs, ht⟩
  · omega
  · refine ⟨g, cap, rfl, hb, hnc, hm, cur, hg, hs, fun i x hx => ?_⟩
    have hi : i < L.length := (List.getElem?_eq_some_iff.1 hx).1
    have get : ∀ j, j < 4 → cur[i * 4 + j]? = (bkCells x)[j]? := by
      intro j hj
      have h1 := bksCells_get L i j hj
      rw [hx, Option.bind_some, ← ht, List.getElem?_take, if_pos (by omega)] at h1
      simpa using h1
    exact ⟨get 0 (by omega), get 1 (by omega), get 2 (by omega), get 3 (by omega)⟩
theorem OwnB.own (h : OwnB w base g cp L) : w.ownsRow base 53 4 (.slice (some ⟨g, 0, none⟩) L.length cp) L.length (bksCells L) := by
  obtain ⟨h1, h2, h3, cur, hc, hs, hx⟩ := h
  refine ⟨bksCells_length L, .inr ⟨g, cp, cur, rfl, h1, hc, h2, h3, hs, ?_⟩⟩
  apply List.ext_getElem?
  intro k
  rw [List.getElem?_take]
  by_cases hk : k < L.length * 4
  · rw [if_pos hk]
    have hj : k = k / 4 * 4 + k % 4 := by omega
    have h4 : k % 4 < 4 := Nat.mod_lt _ (by omega)
    have hq : k / 4 < L.length := by omega
    obtain ⟨x, hxq⟩ : ∃ x, L[k / 4]? = some x := ⟨_, List.getElem?_eq_getElem hq⟩
    obtain ⟨a, b, c, d⟩ := hx _ x hxq
    rw [hj, bksCells_get L _ _ h4, hxq, Option.bind_some]
    generalize k / 4 = q at *
    generalize k % 4 = r at *
    match r, h4 with
    | 0, _ => simpa [bkCells] using a
    | 1, _ => simpa [bkCells] using b
    | 2, _ => simpa [bkCells] using c
    | 3, _ => simpa [bkCells] using d
  · rw [if_neg hk, List.getElem?_eq_none (by rw [bksCells_length]; omega)]
theorem OwnB.put (h : OwnB w base g cp L) {k : Nat} (hk : k < L.length) (x : Bk) : OwnB (put4 w g (k * 4) x) base g cp (L.set k x) := by
  obtain ⟨h1, h2, h3, cur, hc, hs, h⟩ := h
  refine ⟨h1, by rw [List.length_set]; exact h2, h3, _, (((hc.set_ _ _).set_ _ _).set_ _ _).set_ _ _, by simpa using hs, fun i y hy => ?_⟩
  by_cases hik : k = i
  · subst hik
    rw [List.getElem?_set_self hk] at hy
    injection hy with hy
    subst hy
    refine ⟨?_, ?_, ?_, ?_⟩
    · rw [Array.getElem?_setIfInBounds_ne (by omega), Array.getElem?_setIfInBounds_ne (by omega), Array.getElem?_setIfInBounds_ne (by omega), Array.getElem?_setIfInBounds_self_of_lt (by omega)]
    · rw [Array.getElem?_setIfInBounds_ne (by omega), Array.getElem?_setIfInBounds_ne (by omega), Array.getElem?_setIfInBounds_self_of_lt (by simp; omega)]
    · rw [Array.getElem?_setIfInBounds_ne (by omega), Array.getElem?_setIfInBounds_self_of_lt (by simp; omega)]
    · rw [Array.getElem?_setIfInBounds_self_of_lt (by simp; omega)]
  · rw [List.getElem?_set_ne hik] at hy
    obtain ⟨a, b, c, d⟩ := h i y hy
    refine ⟨?_, ?_, ?_, ?_⟩
    · rw [Array.getElem?_setIfInBounds_ne (by omega), Array.getElem?_setIfInBounds_ne (by omega), Array.getElem?_setIfInBounds_ne (by omega), Array.getElem?_setIfInBounds_ne (by omega)]; exact a
    · rw [Array.getElem?_setIfInBounds_ne (by omega), Array.getElem?_setIfInBounds_ne (by omega), Array.getElem?_setIfInBounds_ne (by omega), Array.getElem?_setIfInBounds_ne (by omega)]; exact b
    · rw [Array.getElem?_setIfInBounds_ne (by omega), Array.getElem?_setIfInBounds_ne (by omega), Array.getElem?_setIfInBounds_ne (by omega), Array.getElem?_setIfInBounds_ne (by omega)]; exact c
    · rw [Array.getElem?_setIfInBounds_ne (by omega), Array.getElem?_setIfInBounds_ne (by omega), Array.getElem?_setIfInBounds_ne (by omega), Array.getElem?_setIfInBounds_ne (by omega)]; exact d
theorem OwnB.swap {d : Array Bk} (h : OwnB w base g cp d.toList) {i j : Nat} (hi : i < d.size) (hj : j < d.size) : OwnB (put4 (put4 w g (i * 4) d[j]!) g (j * 4) d[i]!) base g cp (swp d i j).toList := by
  unfold swp
  rw [Array.toList_setIfInBounds, Array.toList_setIfInBounds]
  exact OwnB.put (OwnB.put h (by simpa using hi) _) (by simpa using hj) _
/-- A row of two blocks or more does not lie in a block of four cells. -/
theorem OwnB.apart (h : OwnB w base g cp L) {B : Nat} {x : Bk} (hB : Cl w B 53 #[.int .i64 (Bk.line x), .int .i64 (Bk.cls x), .int .i64 (Bk.kind x), .int .i64 (Bk.gen x)]) (h2 : 2 ≤ L.length) : B ≠ g := by
  rintro rfl
  obtain ⟨_, h3, _, cur, hc, hs, _⟩ := h
  unfold Cl at hc hB
  rw [hc] at hB
  injection hB with hB
  injection hB with hB _
  rw [hB] at hs
  simp at hs
  omega
end
theorem swp_perm {d : Array Bk} {i j : Nat} (hi : i < d.size) (hj : j < d.size) : (swp d i j).toList.Perm d.toList := by
  obtain ⟨hsz, _, hperm⟩ := swp_permIn d 0 d.size i j (Nat.zero_le _) hi (Nat.zero_le _) hj (Nat.le_refl _)
  have e1 : (swp d i j).extract 0 d.size = swp d i j := by rw [← hsz]; exact Array.extract_size
  rw [e1, Array.extract_size] at hperm
  exact hperm
theorem sorted_list {d : Array Bk} {n : Nat} (hn : d.size = n) (hs : SortedIn ltB 0 n d) : d.toList.Pairwise (fun x y => ltB y x = false) := by
  rw [List.pairwise_iff_getElem]
  intro i j hi hj hij
  have hi' : i < d.size := by simpa using hi
  have hj' : j < d.size := by simpa using hj
  have := hs i j (Nat.zero_le _) hij (by omega)
  rw [getElem!_pos d j hj', getElem!_pos d i hi'] at this
  simpa using this
/-- The last element is yet to be carried to its place. -/
theorem ins_start {M : List Bk} {x : Bk} (h : M.Pairwise (fun x y => ltB y x = false)) : Ins ltB 0 M.length M.length (M ++ [x]).toArray := by
  refine ⟨fun p q _ hpq hq _ hqn => ?_, fun q h1 h2 => by omega⟩
  have hq' : q < M.length := by omega
  have hp' : p < M.length := by omega
  have e : ∀ k, k < M.length → (M ++ [x]).toArray[k]! = M[k]! := fun k hk => by
    rw [getElem!_pos _ k (by simp; omega), getElem!_pos M k hk]
    simp [List.getElem_append_left hk]
  rw [e p hp', e q hq', getElem!_pos M p hp', getElem!_pos M q hq']
  exact List.pairwise_iff_getElem.1 h p q hp' hq' hpq
theorem last_at {M : List Bk} {x : Bk} : (M ++ [x]).toArray[M.length]! = x := by
  rw [getElem!_pos _ M.length (by simp)]
  simp

theorem wpList_append1g {P : Program} {w : World} {ops : Array Oper} {rest : List Oper} {o : Oper} {a : Act} {Q : Exit → Act → World → Prop} (hgd : o.guard = none) (s x : Operand) (t : TypeId)
    (ho : o.op = .call { callee := .builtin .append, args := #[s, x], argTypes := #[t, t] })
    (base : Nat) (e : TypeId) (i : TypeInfo) (z : Value) (size bytes : Nat) (ht : P.underlying t = some (.slice e)) (hi : P.info? e = some i) (hz : i.zero = some z)
    (hsize : i.size = size) (hby : i.bytes = bytes) (hzs : z.cells.size = size) (hsz : 0 < size) (hb : bytes ≤ 1000)
    (v : Value) (n : Nat) (xs : List Value) (hs : a.eval s = v) (hown : w.ownsRow base e size v n xs) (hn : n ≤ 1000000)
    (g : Nat) (cs : Array Value) (hx : a.eval x = .slice (some ⟨g, 0, none⟩) 1 1) (hg : Cl w g e cs) (hl : cs.size = size) (h1 : ∀ u ∈ cs.toList, u.oneCell' = true) (hbase : base ≤ w.heap.size)
    (h : ∀ A c w', w'.ownsRow base e size (.slice A (n + 1) c) (n + 1) (xs ++ cs.toList) → w.grownBy w' v.ownBlock → wpList P ops Q rest (a.put o.dst (.slice A (n + 1) c)) w') : wpList P ops Q (o :: rest) a w := by
  refine wpList_append_own w hgd s x t ho base e i z size bytes ht hi hz hsize hby hzs hsz v n xs hs hown ⟨g, 0, none⟩ 1 1 cs.toList hx (by simpa using hl) (Cl.news hg rfl) h1 (by unfold maxLen; omega) ?_ hbase ?_
  · have : (n + 1) * bytes ≤ 1000001 * 1000 := Nat.mul_le_mul (by omega) hb
    omega
  · intro v' w' hown' hgr _
    obtain ⟨A, c, rfl⟩ := (Rd.own hown').form
    exact h A c w' hown' hgr
end Go.Proofs.YtcoeoggoaiebeaaDoor
