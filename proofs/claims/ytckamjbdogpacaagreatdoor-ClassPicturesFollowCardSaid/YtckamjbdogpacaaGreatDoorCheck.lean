/-
  class.Check accepts a picture whose blocks lie where the chunks' classes say.
-/
import Derived.Test.YtckamjbdogpacaaGreatDoorHead
import Derived.Test.YtckamjbdogpacaaGreatDoorStarts
namespace Go.Proofs.YtckamjbdogpacaaGreatDoor
open Go.RowKit

theorem spots_pre (heap : Int) (cls : List Nat) (k m : Nat) (h : k ≤ m) : ∃ r, spots heap cls m = spots heap cls k ++ r := by
  induction m with
  | zero =>
    obtain rfl : k = 0 := by omega
    exact ⟨[], by simp⟩
  | succ m ih =>
    by_cases hk : k = m + 1
    · subst hk; exact ⟨[], by simp⟩
    · obtain ⟨r, hr⟩ := ih (by omega)
      simp only [spots]
      cases cls[m]? with
      | none => exact ⟨r, hr⟩
      | some c => exact ⟨r ++ chunkSpots heap m (c % 5), by simp only [hr, List.append_assoc]⟩
theorem spotsN_get (base c s : Int) (n j : Nat) (h : j < n) : (spotsN base c s n)[j]? = some (base + j * s, c) := by
  induction n with
  | zero => omega
  | succ n ih =>
    rw [spotsN]
    by_cases hj : j < n
    · rw [List.getElem?_append_left (by rw [spotsN_length]; exact hj)]
      exact ih hj
    · obtain rfl : j = n := by omega
      rw [List.getElem?_append_right (by rw [spotsN_length]; omega), spotsN_length, Nat.sub_self]
      rfl
theorem block_at {bs : List Bk} {heap : Int} {cls : List Nat} {k m c : Nat} (hs : bs.map spot = spots heap cls m) (hk : k < m) (hc : cls[k]? = some c) (j : Nat) (hj : j < (chunkSpots heap k (c % 5)).length) :
    ∃ b, bs[(spots heap cls k).length + j]? = some b ∧ ((chunkSpots heap k (c % 5)).map (·.1))[j]? = some b.line ∧ b.cls = ((c % 5 : Nat) : Int) := by
  obtain ⟨r, hr⟩ := spots_pre heap cls (k + 1) m (by omega)
  have h1 : spots heap cls (k + 1) = spots heap cls k ++ chunkSpots heap k (c % 5) := by simp only [spots, hc]
  rw [h1, List.append_assoc] at hr
  have h2 : (bs.map spot)[(spots heap cls k).length + j]? = (chunkSpots heap k (c % 5))[j]? := by
    rw [hs, hr, List.getElem?_append_right (by omega), Nat.add_sub_cancel_left, List.getElem?_append_left hj]
  have h3 : (chunkSpots heap k (c % 5))[j]? = some (heap + 16 * k + j * ((2 ^ (c % 5) : Nat) : Int), ((c % 5 : Nat) : Int)) := by
    unfold chunkSpots at hj ⊢
    rw [spotsN_length] at hj
    exact spotsN_get _ _ _ _ j hj
  rw [h3, List.getElem?_map] at h2
  cases hb : bs[(spots heap cls k).length + j]? with
  | none => rw [hb] at h2; cases h2
  | some b =>
    rw [hb] at h2
    injection h2 with h2
    have e1 : b.line = heap + 16 * k + j * ((2 ^ (c % 5) : Nat) : Int) := congrArg Prod.fst h2
    have e2 : b.cls = ((c % 5 : Nat) : Int) := congrArg Prod.snd h2
    exact ⟨b, rfl, by rw [List.getElem?_map, h3, e1]; rfl, e2⟩
theorem picC_get (cls : List Nat) (m k : Nat) (h : k < m) : (picC cls m)[k]? = some (match cls[k]? with | none => -1 | some c => ((c % 5 : Nat) : Int)) := by
  induction m with
  | zero => omega
  | succ m ih =>
    rw [picC]
    by_cases hk : k < m
    · rw [List.getElem?_append_left (by rw [picC_length]; exact hk)]
      exact ih hk
    · obtain rfl : k = m := by omega
      rw [List.getElem?_append_right (by rw [picC_length]; omega), picC_length, Nat.sub_self]
      rfl
theorem drop_cons {bs : List Bk} {i : Nat} {x : Bk} (h : bs[i]? = some x) : bs.drop i = x :: bs.drop (i + 1) := by
  have hlt : i < bs.length := (List.getElem?_eq_some_iff.1 h).1
  rw [List.drop_eq_getElem_cons hlt]
  rw [List.getElem?_eq_getElem hlt] at h
  injection h with h
  rw [h]
theorem RdB.tail {w : World} {b o c : Nat} {x : Bk} {xs : List Bk} (h : RdB w (.slice (some ⟨b, o, none⟩) (x :: xs).length c) (x :: xs)) (hc : 1 < c) : RdB w (.slice (some ⟨b, o + 4, none⟩) xs.length (c - 1)) xs := by
  obtain ⟨h1, A, c', hv, hl, hm, hz, h2⟩ := h
  injection hv with hA _ hcc
  subst hcc
  obtain ⟨b', o', cur, fr, hA', hh, hcell⟩ := h2 (by simp)
  rw [hA'] at hA
  injection hA with hA
  injection hA with hb ho _
  subst hb ho
  refine ⟨bksCells_length xs, _, c - 1, rfl, by simp at hl; omega, by omega, by simp, fun _ => ⟨b, o + 4, cur, fr, rfl, hh, fun j u hu => ?_⟩⟩
  have := hcell (4 + j) u (by
    rw [bksCells, List.flatMap_cons, List.getElem?_append_right (by simp [bkCells])]
    simp only [bkCells, List.length_cons, List.length_nil, Nat.zero_add, Nat.reduceAdd, Nat.add_sub_cancel_left]
    exact hu)
  rw [show o + 4 + j = o + (4 + j) by omega]
  exact this
theorem RdB.zero {w : World} (A : Option Addr) (c : Nat) (hc : c ≤ maxLen) (hz : A = none → c = 0) : RdB w (.slice A 0 c) [] := ⟨rfl, A, c, rfl, Nat.zero_le _, hc, hz, fun h => by simp at h⟩

/-- What a chunk's class asks of the blocks. -/
theorem chunk_facts {bs : List Bk} {heap : Int} {cls : List Nat} {k m : Nat} (l0 l1 l2 l3 l4 l5 : Int) (hs : bs.map spot = spots heap cls m) (hk : k < m) (hm : m ≤ 200) (hh0 : 0 ≤ heap) (hh1 : heap ≤ 5000) :
    ∃ (cv : Int) (st : List Int), -1 ≤ cv ∧ cv ≤ 4 ∧ (picC cls m)[k]? = some cv ∧ st.length ≤ 16 ∧ (spots heap cls (k + 1)).length = (spots heap cls k).length + st.length ∧
      (∀ j, j < st.length → ∃ b, bs[(spots heap cls k).length + j]? = some b ∧ st[j]? = some b.line ∧ b.cls = cv) ∧
      ∀ w : World, Calls Tryz.prog 14 #[.agg #[.int .i64 l0, .int .i64 l1, .int .i64 l2, .int .i64 l3, .int .i64 l4, .int .i64 l5, .int .i64 heap, .int .i64 (m : Int)], .int .i64 (k : Int), .int .i64 cv] w (IntsPost w st) := by
  have hx := picC_get cls m k hk
  cases hck : cls[k]? with
  | none =>
    rw [hck] at hx
    refine ⟨-1, [], by omega, by omega, hx, by simp, by simp only [spots, hck, List.length_nil, Nat.add_zero], fun j hj => by simp at hj, fun w => starts_out w _ k (-1) (by omega)⟩
  | some c =>
    rw [hck] at hx
    have hl : (chunkSpots heap k (c % 5)).length = 16 / 2 ^ (c % 5) := spotsN_length _ _ _ _
    have hl2 : 16 / 2 ^ (c % 5) ≤ 16 := Nat.div_le_self _ _
    refine ⟨((c % 5 : Nat) : Int), (chunkSpots heap k (c % 5)).map (·.1), by omega, by omega, hx, by rw [List.length_map]; omega, by simp only [spots, hck, List.length_append, List.length_map], fun j hj => ?_, fun w => starts_calls w l0 l1 l2 l3 l4 l5 heap m k (c % 5) hk (by omega) hh0 hh1 (by omega)⟩
    rw [List.length_map] at hj
    exact block_at hs hk hck j hj

def CkRel1 (w : World) (lay : Array Value) (heap : Int) (cls : List Nat) (m : Nat) (bs : List Bk) (A3 : Option Addr) (c3 : Nat) (v5 v6 i : Value) (wr : World) : Prop :=
  ∃ (k n : Nat) (A : Option Addr) (c : Nat), k ≤ m ∧ i = .int .i64 k ∧ v6 = .slice A3 0 c3 ∧ v5 = .slice A n c ∧ n + (spots heap cls k).length = bs.length ∧ RdB wr (.slice A n c) (bs.drop (spots heap cls k).length) ∧
    Cl wr w.heap.size 29 lay ∧ Below w.heap.size w wr
def CkRel2 (w : World) (lay : Array Value) (bs : List Bk) (q : Nat) (sv : Value) (st : List Int) (A3 : Option Addr) (c3 : Nat) (v5 v6 i : Value) (wr : World) : Prop :=
  ∃ (j n : Nat) (A : Option Addr) (c : Nat), j ≤ st.length ∧ i = .int .i64 j ∧ v6 = .slice A3 0 c3 ∧ v5 = .slice A n c ∧ n + (q + j) = bs.length ∧ RdB wr (.slice A n c) (bs.drop (q + j)) ∧ RdI wr sv st ∧
    Cl wr w.heap.size 29 lay ∧ Below w.heap.size w wr

set_option maxRecDepth 100000 in
set_option maxHeartbeats 4000000 in
theorem check_calls (w : World) (l0 l1 l2 l3 l4 l5 heap : Int) (m : Nat) (ch bl bd : Value) (cls : List Nat) (bs : List Bk) (hC : RdI w ch (picC cls m)) (hR : RdB w bl bs) (hD : RdI w bd []) (hd : Hd w)
    (hm : m ≤ 200) (hh0 : 0 ≤ heap) (hh1 : heap ≤ 5000) (hn : bs.length ≤ 1000) (hs : bs.map spot = spots heap cls m) (hcan : ∀ b ∈ bs, CanB b) :
    Calls Tryz.prog 22 #[.agg #[.int .i64 l0, .int .i64 l1, .int .i64 l2, .int .i64 l3, .int .i64 l4, .int .i64 l5, .int .i64 heap, .int .i64 (m : Int)], .agg #[ch, bl, bd]] w fun e w' => e = .returned (.int .i64 0) ∧ Below w.heap.size w w' := by
  obtain ⟨A1, c1, rfl, _, hcC⟩ := hC.at_
  obtain ⟨A2, c2, rfl⟩ := Rd.form hR
  obtain ⟨A3, c3, rfl⟩ := Rd.form hD
  have hCL : (picC cls m).length = m := picC_length cls m
  have HS := Lib.hid hs
  have HCAN := Lib.hid hcan
  have HCL := Lib.hid hCL
  have hcl1 : (picC cls m).length ≤ m := by omega
  have hcl2 : m ≤ (picC cls m).length := by omega
  have bl0 : (((picC cls m).length : Int) != (m : Int)) = false := by simp [hCL]
  clear hs hcan hCL
  generalize hcs : picC cls m = cs at *
  have HCS := Lib.hid hcs
  clear hcs
  go_enter Tryz.func22, Tryz.ntmps22
  go_wp2_with fail
  go_quiet (fail)
  go_wp2_with fail
  go_loopw [5, 6, 24] (fun v5 v6 i wr => CkRel1 w #[.int .i64 l0, .int .i64 l1, .int .i64 l2, .int .i64 l3, .int .i64 l4, .int .i64 l5, .int .i64 heap, .int .i64 (m : Int)] heap cls m bs A3 c3 v5 v6 i wr) (fun _ _ i _ => m - (intOf i).toNat)
  case atStart => exact ⟨0, bs.length, A2, c2, Nat.zero_le _, rfl, rfl, rfl, rfl, hR.below (by (repeat (first | with_reducible exact Below.refl _ _ | with_reducible assumption | with_reducible refine below_drewN ?_ _ | with_reducible refine Below.drew ?_ | with_reducible refine Below.alloc ?_ (by first | omega | (simp; omega) | simp) _ | with_reducible refine Below.setCell ?_ (by first | omega | (simp; omega) | simp) _))), ((Cl.new _ _ _).alloc _).drewN _, by (repeat (first | with_reducible exact Below.refl _ _ | with_reducible assumption | with_reducible refine below_drewN ?_ _ | with_reducible refine Below.drew ?_ | with_reducible refine Below.alloc ?_ (by first | omega | (simp; omega) | simp) _ | with_reducible refine Below.setCell ?_ (by first | omega | (simp; omega) | simp) _))⟩
  case round =>
    obtain ⟨k, n, A, c, hk, rfl, rfl, rfl, hnk, hRk, hL, hb⟩ := hrel
    have HNK := Lib.hid hnk
    have hn1 : n ≤ bs.length := by omega
    clear hnk
    by_cases hlt : k < m
    · obtain ⟨bC, oC, rfl, hbC, hcell⟩ := hcC k (by omega)
      obtain ⟨cv, st, hv0, hv1, hxk, hst16, hlen, hblk, hST⟩ := chunk_facts l0 l1 l2 l3 l4 l5 HS.out hlt hm hh0 hh1
      rw [HCS.out] at hxk
      have dk := (hb.cell (p := ⟨bC, oC + k, none⟩) hbC).trans (hcell _ hxk)
      have hlk : k < cs.length := by omega
      have HLEN := Lib.hid hlen
      have HBLK := Lib.hid hblk
      have HST := Lib.hid hST
      clear hcC hcell hxk hlen hblk hST
      have hsL := hL.lt
      obtain ⟨y0, y1, y2, y3, y4, y5, y6, y7⟩ := hL.cells8
      obtain ⟨w1, hw1⟩ : ∃ x : World, x = wr := ⟨_, rfl⟩
      subst hw1
      obtain ⟨q, hq⟩ : ∃ q, q = (spots heap cls k).length := ⟨_, rfl⟩
      rw [← hq] at hRk HNK
      have HQ := Lib.hid hq
      have hqs : (spots heap cls k).length = q := hq.symm
      clear hq
      rw [hqs] at HLEN HBLK
      clear hqs
      go_wp2_with fail
      refine (HST.out _).mono ?_
      rintro e w2 ⟨A5, c5, rfl, hI, hb2⟩
      have hL2 := hL.below hb2 hL.lt
      have hR2 := hRk.below hb2
      have hB2 := hb.trans (hb2.mono hb.size)
      clear hb2 hL hRk hb y0 y1 y2 y3 y4 y5 y6 y7 dk HST
      go_wp2_with fail
      go_loopw [5, 6, 40] (fun v5 v6 i wr => CkRel2 w #[.int .i64 l0, .int .i64 l1, .int .i64 l2, .int .i64 l3, .int .i64 l4, .int .i64 l5, .int .i64 heap, .int .i64 (m : Int)] bs q (.slice A5 st.length c5) st A3 c3 v5 v6 i wr) (fun _ _ i _ => st.length - (intOf i).toNat)
      case atStart => exact ⟨0, n, A, c, Nat.zero_le _, rfl, rfl, rfl, HNK.out, hR2, hI, hL2, hB2⟩
      case round =>
        clear hI hL2 hR2 hB2
        clear HNK hn1
        obtain ⟨j, n, A, c, hj, rfl, rfl, rfl, hnj, hRj, hI, hL, hb⟩ := hrel
        obtain ⟨w3, hw3⟩ : ∃ x : World, x = wr := ⟨_, rfl⟩
        subst hw3
        have hn2 : n ≤ 1000 := by omega
        by_cases hlt2 : j < st.length
        · obtain ⟨x, hx, hxl, hxc⟩ := HBLK.out j hlt2
          have hCx := HCAN.out x (List.mem_of_getElem? hx)
          have hdr := drop_cons hx
          have hqj : q + j < bs.length := (List.getElem?_eq_some_iff.1 hx).1
          have hn0 : 0 < n := by omega
          have hnd : (bs.drop (q + (j + 1))).length + 1 = n := by rw [List.length_drop]; omega
          rw [hdr] at hRj
          obtain ⟨Ai, ci, hvi, _, hci⟩ := hI.at_
          obtain ⟨bi, oi, hAi, hbi, hcl⟩ := hci j hlt2
          injection hvi with e1 e2 e3
          subst e3
          subst hAi
          subst e1
          have di := hcl _ hxl
          obtain ⟨Ab, cb, hvb, hlc, hcb⟩ := RdB.at_ hRj
          obtain ⟨bb, ob, hAb, hbb, hcx⟩ := hcb 0 (by simp)
          injection hvb with f1 f2 f3
          subst hAb
          subst f1
          subst f3
          obtain ⟨z0, z1, z2, z3⟩ := hcx x rfl
          simp only [Nat.zero_mul, Nat.add_zero] at z0 z1 z2 z3
          have bxc : (x.cls == cv) = true := by simp [hxc]
          have bxl : (x.line == x.line) = true := by simp
          have hcp1 : n ≤ c := by rw [f2]; exact hlc
          have hm1 : c ≤ maxLen := by obtain ⟨_, _, _, hv, _, hm, _⟩ := hRj; injection hv with _ _ hv; rw [hv]; exact hm
          have hmx : c ≤ 9223372036854775807 := by unfold maxLen at hm1; omega
          have hd3 := hd.below hb
          have HF2 := Lib.hid f2
          have HND := Lib.hid hnd
          have HNJ := Lib.hid hnj
          clear hnj hx hxl hxc hdr e2 f2 hci hcl hcb hcx hlc hnd
          go_wp2_with fail
          refine (can_yes _ x hd3 hCx).mono ?_
          rintro e w4 ⟨rfl, hb4⟩
          have hL4 := hL.below hb4 hL.lt
          have hI4 := hI.below hb4
          have hB4 := hb.trans (hb4.mono hb.size)
          have hR4 := hRj.below hb4
          rw [HF2.out] at hR4
          clear hb4 hL hI hb hRj di z0 z1 z2 z3
          by_cases hc1 : c = 1
          · subst hc1
            have hn3 : n = 1 := by omega
            have hE : bs.drop (q + (j + 1)) = [] := by
              have := HND.out
              exact List.eq_nil_of_length_eq_zero (by omega)
            have HE := Lib.hid hE
            clear hE
            subst hn3
            go_wp2_with fail
            exact ⟨⟨j + 1, 0, some ⟨bb, ob, none⟩, 0, by omega, by go_num, rfl, rfl, by have := HNJ.out; omega, by rw [HE.out]; exact RdB.zero _ 0 (by unfold maxLen; omega) (fun _ => rfl), hI4, hL4, hB4⟩, by simp [intOf]; omega⟩
          · go_wp2_with fail
            refine ⟨⟨j + 1, n - 1, some ⟨bb, ob + 4, none⟩, c - 1, by omega, by go_num, rfl, rfl, by have := HNJ.out; omega, ?_, hI4, hL4, hB4⟩, by simp [intOf]; omega⟩
            have h9 := RdB.tail hR4 (by omega)
            rw [show n - 1 = (bs.drop (q + (j + 1))).length by have := HND.out; omega]
            exact h9
        · have hjl : j = st.length := by omega
          have hq2 : q + j = (spots heap cls (k + 1)).length := by rw [HLEN.out, hjl]
          rw [hq2] at hRj hnj
          have HNJ := Lib.hid hnj
          clear hjl hq2 hnj
          go_wp2_with fail
          go_roundw
          case rel => exact ⟨k + 1, n, A, c, by omega, by go_num, rfl, rfl, HNJ.out, hRj, hL, hb⟩
          case measure => simp [intOf]; omega
    · obtain rfl : k = m := by omega
      have hz : n = 0 := by
        have h1 := HNK.out
        have h2 : (bs.map spot).length = (spots heap cls k).length := by rw [HS.out]
        rw [List.length_map] at h2
        omega
      subst hz
      go_wp2_with fail
      go_ret
      exact ⟨rfl, hb⟩
end Go.Proofs.YtckamjbdogpacaaGreatDoor
