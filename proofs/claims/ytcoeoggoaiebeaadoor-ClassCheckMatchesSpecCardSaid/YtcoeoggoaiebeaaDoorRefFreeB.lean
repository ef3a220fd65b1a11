/-
  The specification's Free: its walk.
-/
import Derived.Test.YtcoeoggoaiebeaaDoorRefFree
namespace Go.Proofs.YtcoeoggoaiebeaaDoor
open Go.RowKit
open Go.Sort (swp PermIn SortedIn SWO swp_permIn Ins swp_right swp_size)
set_option linter.unusedSimpArgs false
set_option linter.unusedVariables false

theorem Cl.put4 {w : World} {B g o : Nat} {t : TypeId} {cs : Array Value} {x : Bk} (h : Cl w B t cs) (hne : B ≠ g) : Cl (put4 w g o x) B t cs := (((h.far hne _).far hne _).far hne _).far hne _

def RfRel (w : World) (pic : Array Value) (bs : List Bk) (c : Int) (v5 iv : Value) (wr : World) : Prop :=
  ∃ (i m : Nat) (A : Option Addr) (cp : Nat) (M : List Bk), i ≤ bs.length ∧ iv = .int .i64 i ∧ v5 = .slice A m cp ∧ M.length = m ∧ m ≤ i ∧ wr.ownsRow (w.heap.size + 1) 53 4 (.slice A m cp) m (bksCells M) ∧
    M.Perm ((bs.take i).filter (frB c)) ∧ M.Pairwise (fun x y => ltB y x = false) ∧ Cl wr w.heap.size 45 pic ∧ Below w.heap.size w wr
def RfRel2 (w : World) (pic : Array Value) (B g cp m : Nat) (x : Bk) (M : List Bk) (kv : Value) (wr : World) : Prop :=
  ∃ (k : Nat) (d : Array Bk), kv = .int .i64 k ∧ k ≤ m ∧ d.size = m + 1 ∧ OwnB wr (w.heap.size + 1) g cp d.toList ∧ d[k]! = x ∧ Ins ltB 0 k m d ∧ d.toList.Perm (M ++ [x]) ∧ Cl wr B 53 #[.int .i64 (Bk.line x), .int .i64 (Bk.cls x), .int .i64 (Bk.kind x), .int .i64 (Bk.gen x)] ∧ Cl wr w.heap.size 45 pic ∧ Below w.heap.size w wr

set_option maxRecDepth 100000 in
set_option maxHeartbeats 4000000 in
theorem rfree_calls (w : World) (ch bl bd : Value) (bs : List Bk) (c : Int) {te : TypeId} (hR : Rd w te 4 bl bs.length (bksCells bs)) (hn : bs.length ≤ 150) :
    Calls Tryd.prog 25 #[.agg #[ch, bl, bd], .int .i64 c] w (FreePost w (bs.filter (frB c))) := by
  obtain ⟨i0, hi0, hz0, hz1, hz2⟩ := info_parts blk_info
  obtain ⟨Ab, cb, rfl, _, hcell⟩ := Rd.atB hR
  obtain ⟨n, hln⟩ : ∃ n, bs.length = n := ⟨_, rfl⟩
  rw [hln] at hcell ⊢
  have HLN := Lib.hid hln
  have hn' : n ≤ 150 := by omega
  clear hln hn hR
  go_enter Tryd.func25, Tryd.ntmps25
  go_wp2_with fail
  go_loopw [5, 6, 7, 8] (fun v5 i _ _ wr => RfRel w #[ch, .slice Ab n cb, bd] bs c v5 i wr) (fun _ i _ _ _ => n - (intOf i).toNat)
  case atStart => exact ⟨0, 0, none, 0, [], Nat.zero_le _, rfl, rfl, rfl, Nat.le_refl _, World.ownsRow_nil _ _ _ _, by simp, List.Pairwise.nil, Cl.new _ _ _, by (repeat (first | with_reducible exact Below.refl _ _ | with_reducible assumption | with_reducible refine below_drewN ?_ _ | with_reducible refine Below.drew ?_ | with_reducible refine Below.alloc ?_ (by first | omega | (simp; omega) | simp) _ | with_reducible refine Below.setCell ?_ (by first | omega | (simp; omega) | simp) _))⟩
  case round =>
    obtain ⟨i, m, A, cp, M, hi, rfl, rfl, hM, hmi, hown, hP, hS, hpic, hb⟩ := hrel
    rw [HLN.out] at hi
    have HM := Lib.hid hM
    have HP := Lib.hid hP
    have HS := Lib.hid hS
    clear hM hP hS
    have hl0 := hpic.lt
    obtain ⟨⟨q0, q1, q2⟩, -⟩ := hpic.has3
    by_cases hlt : i < n
    · obtain ⟨b, o, rfl, hlb, hc⟩ := hcell i hlt
      obtain ⟨x, hx⟩ : ∃ x, bs[i]? = some x := ⟨_, List.getElem?_eq_getElem (by rw [HLN.out]; exact hlt)⟩
      obtain ⟨c0, c1, c2, c3⟩ := hc x hx
      have d0 := (hb.cell (p := ⟨b, o + i * 4, none⟩) hlb).trans c0
      have d1 := (hb.cell (p := ⟨b, o + i * 4 + 1, none⟩) hlb).trans c1
      have d2 := (hb.cell (p := ⟨b, o + i * 4 + 2, none⟩) hlb).trans c2
      have d3 := (hb.cell (p := ⟨b, o + i * 4 + 3, none⟩) hlb).trans c3
      have HX := Lib.hid hx
      have hTk : (bs.take (i + 1)).filter (frB c) = (bs.take i).filter (frB c) ++ [x].filter (frB c) := by
        rw [List.take_add_one, hx, List.filter_append]; rfl
      have HTK := Lib.hid hTk
      have hlb2 : b < wr.heap.size := Nat.lt_of_lt_of_le hlb hb.size
      clear hc c0 c1 c2 c3 hx hTk hcell
      cases hq : frB c x
      · have hno : x.cls = c → ¬ x.kind = 0 := by
          intro h1 h2
          simp [frB, freeB, h1, h2] at hq
        have HF : Hid ((bs.take (i + 1)).filter (frB c) = (bs.take i).filter (frB c)) := by
          show _ = _
          rw [HTK.out]
          simp [hq]
        clear hq
        by_cases h1 : x.cls = c
        · have b1 : (x.cls != c) = false := by simp [h1]
          have b2 : (x.kind != 0) = true := by simp [hno h1]
          clear hno h1
          go_wp2_with fail
          go_roundw
          case rel => exact ⟨i + 1, m, A, cp, M, by rw [HLN.out]; omega, by go_num, rfl, HM.out, by omega, hown.alloc _, by rw [HF.out]; exact HP.out, HS.out, hpic.alloc _, by (repeat (first | with_reducible exact Below.refl _ _ | with_reducible assumption | with_reducible refine below_drewN ?_ _ | with_reducible refine Below.drew ?_ | with_reducible refine Below.alloc ?_ (by first | omega | (simp; omega) | simp) _ | with_reducible refine Below.setCell ?_ (by first | omega | (simp; omega) | simp) _))⟩
          case measure => simp [intOf]; omega
        · have b1 : (x.cls != c) = true := by simp [h1]
          clear hno h1
          go_wp2_with fail
          go_roundw
          case rel => exact ⟨i + 1, m, A, cp, M, by rw [HLN.out]; omega, by go_num, rfl, HM.out, by omega, hown.alloc _, by rw [HF.out]; exact HP.out, HS.out, hpic.alloc _, by (repeat (first | with_reducible exact Below.refl _ _ | with_reducible assumption | with_reducible refine below_drewN ?_ _ | with_reducible refine Below.drew ?_ | with_reducible refine Below.alloc ?_ (by first | omega | (simp; omega) | simp) _ | with_reducible refine Below.setCell ?_ (by first | omega | (simp; omega) | simp) _))⟩
          case measure => simp [intOf]; omega
      · have h1 : x.cls = c ∧ x.kind = 0 := by simpa [frB, freeB] using hq
        have b1 : (x.cls != c) = false := by simp [h1.1]
        have b2 : (x.kind != 0) = false := by simp [h1.2]
        have HF : Hid ((bs.take (i + 1)).filter (frB c) = (bs.take i).filter (frB c) ++ [x]) := by
          show _ = _
          rw [HTK.out]
          simp [hq]
        clear hq h1
        go_upto_region 7 with (fail)
        generalize hwn : wr.alloc (.cells #[.int .i64 (Bk.line x), .int .i64 (Bk.cls x), .int .i64 (Bk.kind x), .int .i64 (Bk.gen x)] 53) = wn
        have hBox : Cl wn wr.heap.size 53 #[.int .i64 (Bk.line x), .int .i64 (Bk.cls x), .int .i64 (Bk.kind x), .int .i64 (Bk.gen x)] := by rw [← hwn]; exact Cl.new _ _ _
        have hownn : wn.ownsRow (w.heap.size + 1) 53 4 (.slice A m cp) m (bksCells M) := by rw [← hwn]; exact hown.alloc _
        have hpicn : Cl wn w.heap.size 45 #[ch, .slice (some ⟨b, o, none⟩) n cb, bd] := by rw [← hwn]; exact hpic.alloc _
        have hbn : Below w.heap.size w wn := by rw [← hwn]; (repeat (first | with_reducible exact Below.refl _ _ | with_reducible assumption | with_reducible refine below_drewN ?_ _ | with_reducible refine Below.drew ?_ | with_reducible refine Below.alloc ?_ (by first | omega | (simp; omega) | simp) _ | with_reducible refine Below.setCell ?_ (by first | omega | (simp; omega) | simp) _))
        have hBn : ∀ g, (Value.slice A m cp).ownBlock = some g → g < wr.heap.size ∧ w.heap.size + 1 ≤ g := fun g hg => by
          rcases hown.2 with ⟨h0, _⟩ | ⟨g', cap, cur, hv, hbg, hh, _⟩
          · rw [h0] at hg; simp [Value.ownBlock] at hg
          · rw [hv] at hg
            simp only [Value.ownBlock, Option.some.injEq] at hg
            rw [← hg]
            exact ⟨lt_of_heap hh, hbg⟩
        have HBN := Lib.hid hBn
        clear hwn hBn hown hpic hb q0 q1 q2 d0 d1 d2 d3
        generalize wr.heap.size = B at *
        have hlB := hBox.lt
        have hln := hpicn.lt
        obtain ⟨⟨y0, y1, y2, y3⟩, -⟩ := hBox.has4
        go_wp2_with (at_builtin; refine wpList_append1g rfl (.tmp 30) (.tmp 32) 43 rfl (w.heap.size + 1) 53 i0 _ 4 32 Tryd.underlying43 hi0 hz0 hz1 hz2 rfl (by decide) (by decide) (.slice A m cp) m (bksCells M) rfl (hownn.alloc _) (by omega) wn.heap.size #[.int .i64 (Bk.line x), .int .i64 (Bk.cls x), .int .i64 (Bk.kind x), .int .i64 (Bk.gen x)] rfl (Cl.new_ _ _ _ _ (by simp)) rfl (by simp [Value.oneCell']) (by simp; omega) ?_; intro Aq cq wq ownq grq)
        have hBoxq : Cl wq B 53 #[.int .i64 (Bk.line x), .int .i64 (Bk.cls x), .int .i64 (Bk.kind x), .int .i64 (Bk.gen x)] := Cl.grown (hBox.alloc _) grq (fun h => by have := (HBN.out B h.symm).1; omega)
        have hpicq : Cl wq w.heap.size 45 #[ch, .slice (some ⟨b, o, none⟩) n cb, bd] := Cl.grown (hpicn.alloc _) grq (fun h => by have := (HBN.out _ h.symm).2; omega)
        have hbq : Below w.heap.size w wq := Below.grown (show Below w.heap.size w (wn.alloc (.cells #[.int .i64 (Bk.line x), .int .i64 (Bk.cls x), .int .i64 (Bk.kind x), .int .i64 (Bk.gen x)] 53)) by (repeat (first | with_reducible exact Below.refl _ _ | with_reducible assumption | with_reducible refine below_drewN ?_ _ | with_reducible refine Below.drew ?_ | with_reducible refine Below.alloc ?_ (by first | omega | (simp; omega) | simp) _ | with_reducible refine Below.setCell ?_ (by first | omega | (simp; omega) | simp) _))) grq (by simp; omega) (fun k hk => by have := (HBN.out k hk).2; omega)
        have hlen : (M ++ [x]).length = m + 1 := by rw [List.length_append, HM.out]; rfl
        have hown2 : wq.ownsRow (w.heap.size + 1) 53 4 (.slice Aq (M ++ [x]).length cq) (M ++ [x]).length (bksCells (M ++ [x])) := by rw [bksCells_snoc, hlen]; exact ownq
        obtain ⟨g, cp', hv, hO⟩ := OwnB.of hown2 (by rw [hlen]; omega)
        rw [hlen] at hv
        injection hv with e1 _ e3
        subst e1
        subst e3
        have HLEN := Lib.hid hlen
        clear ownq grq hown2 hownn hpicn hbn hBox hlen HBN y0 y1 y2 y3 hlB hln
        by_cases hm0 : m = 0
        · subst hm0
          have hMn : M = [] := List.eq_nil_of_length_eq_zero HM.out
          have HMN := Lib.hid hMn
          have HO := Lib.hid hO.own
          clear hMn hO
          refine wp_loop_rounds 1 ?_
          rw [rounds_succ]
          go_wp2_with fail
          go_quiet (fail)
          go_wp2_with fail
          go_roundw
          case rel => exact ⟨i + 1, 1, some ⟨g, 0, none⟩, cq, M ++ [x], by rw [HLN.out]; omega, by go_num, rfl, HLEN.out, by omega, by have h9 := HO.out; rw [HLEN.out] at h9; exact h9, by rw [HF.out]; exact HP.out.append_right [x], by rw [HMN.out]; exact List.pairwise_singleton _ _, hpicq, by (repeat (first | with_reducible exact Below.refl _ _ | with_reducible assumption | with_reducible refine below_drewN ?_ _ | with_reducible refine Below.drew ?_ | with_reducible refine Below.alloc ?_ (by first | omega | (simp; omega) | simp) _ | with_reducible refine Below.setCell ?_ (by first | omega | (simp; omega) | simp) _))⟩
          case measure => simp [intOf]; omega
        · go_loopw [8] (fun k wr => RfRel2 w #[ch, .slice (some ⟨b, o, none⟩) n cb, bd] B g cq m x M k wr) (fun k _ => (intOf k).toNat)
          case atStart => exact ⟨m, (M ++ [x]).toArray, by first | rfl | go_num, Nat.le_refl _, by simpa using HLEN.out, hO, by rw [← HM.out]; exact last_at, by rw [← HM.out]; exact ins_start HS.out, List.Perm.refl _, hBoxq, hpicq, hbq⟩
          case round =>
            clear hO hBoxq hpicq hbq
            obtain ⟨k, d, rfl, hkm, hds, hO, hdk, hIn, hPm, hBx, hpic, hb⟩ := hrel
            have HDS := Lib.hid hds
            have HDK := Lib.hid hdk
            have HIN := Lib.hid hIn
            have HPM := Lib.hid hPm
            clear hds hdk hIn hPm
            have hgO := hO.row.lt
            have hlBx := hBx.lt
            have hlpc := hpic.lt
            obtain ⟨w3, hw3⟩ : ∃ z : World, z = wr := ⟨_, rfl⟩
            subst hw3
            by_cases hk0 : 0 < k
            · obtain ⟨q, hq⟩ : ∃ q : Nat, k = q + 1 := ⟨k - 1, by omega⟩
              have hqe : (k : Int) - 1 = (q : Int) := by omega
              have hqw : IntKind.i64.wrap (q : Int) = (q : Int) := IntWalk.i64_in _ (by omega)
              have iq0 : (0 : Int) ≤ (q : Int) := by omega
              have hqm : q < m + 1 := by omega
              have iq1 : (q : Int) < (m : Int) + 1 := by omega
              have ik1 : (k : Int) < (m : Int) + 1 := by omega
              have ik0 : (0 : Int) ≤ (k : Int) := by omega
              have hkm1 : k < m + 1 := by omega
              have hqk : q < k := by omega
              have HQ := Lib.hid hq
              clear hq
              have hqz : q < d.size := by rw [HDS.out]; exact hqm
              have hkz : k < d.size := by rw [HDS.out]; exact hkm1
              obtain ⟨y, hy⟩ : ∃ y : Bk, d[q]! = y := ⟨_, rfl⟩
              have HY := Lib.hid hy
              have HYl : Hid (d.toList[q]? = some y) := by show d.toList[q]? = some y; rw [← hy, getElem!_pos d q hqz]; simp [hqz]
              clear hy
              have hapt : B ≠ g := hO.apart hBx (by have := HDS.out; simp; omega)
              obtain ⟨⟨bx0, bx1, bx2, bx3⟩, -⟩ := hBx.has4
              obtain ⟨yy0, yy1, yy2, yy3⟩ := RowB.four hO.row HYl
              cases hlt9 : ltB x y
              · go_wp2_with fail
                go_region_held3 (fun w' => w'.cell? ⟨B, 0, none⟩ = some (.int .i64 x.line) ∧ w'.cell? ⟨B, 1, none⟩ = some (.int .i64 x.cls) ∧ w'.cell? ⟨B, 2, none⟩ = some (.int .i64 x.kind) ∧ w'.cell? ⟨B, 3, none⟩ = some (.int .i64 x.gen) ∧ w'.cell? ⟨g, q * 4, none⟩ = some (.int .i64 y.line) ∧ w'.cell? ⟨g, q * 4 + 1, none⟩ = some (.int .i64 y.cls) ∧ w'.cell? ⟨g, q * 4 + 2, none⟩ = some (.int .i64 y.kind) ∧ w'.cell? ⟨g, q * 4 + 3, none⟩ = some (.int .i64 y.gen)) (go_keep)
                  (first
                    | (go_at_call 48; refine (ahead_calls _ x y).mono ?_; rintro e wa ⟨rfl, ba0⟩; rw [hlt9]; (have ba : Below w3.heap.size w3 wa := (by first | exact below_of_drew ba0 | exact ba0)); (have oA := OwnB.below hO ba hgO); (have bxA := Cl.below hBx ba hBx.lt); (have pcA := Cl.below hpic ba hpic.lt); (have bxc := (Cl.has4 bxA).1); (have qb := RowB.four (OwnB.row oA) HYl)))
                clear bx0 bx1 bx2 bx3 yy0 yy1 yy2 yy3 bxc qb hqz hkz
                have HSD : Hid (d.toList.Pairwise (fun x y => ltB y x = false)) := by
                  refine sorted_list HDS.out (HIN.out.stop swoB (.inr ?_))
                  rw [show k - 1 = q by have := HQ.out; omega, HDK.out, HY.out]
                  exact hlt9
                have hBa : Below w.heap.size w wa := hb.trans (ba.mono hb.size)
                have HOW : Hid (wa.ownsRow (w.heap.size + 1) 53 4 (.slice (some ⟨g, 0, none⟩) (m + 1) cq) (m + 1) (bksCells d.toList)) := by
                  have h9 := oA.own
                  rw [show d.toList.length = m + 1 by rw [← HDS.out]; simp] at h9
                  exact h9
                clear hO hb ba hBx hpic oA hlt9
                go_wp2_with fail
                go_roundw
                case rel => exact ⟨i + 1, m + 1, some ⟨g, 0, none⟩, cq, d.toList, by rw [HLN.out]; omega, by go_num, rfl, by rw [← HDS.out]; simp, by omega, HOW.out, by rw [HF.out]; exact HPM.out.trans ((HP.out.append_right [x])), HSD.out, pcA, by (repeat (first | with_reducible exact Below.refl _ _ | with_reducible assumption | with_reducible refine below_drewN ?_ _ | with_reducible refine Below.drew ?_ | with_reducible refine Below.alloc ?_ (by first | omega | (simp; omega) | simp) _ | with_reducible refine Below.setCell ?_ (by first | omega | (simp; omega) | simp) _))⟩
                case measure => simp [intOf]; omega
              · go_wp2_with fail
                go_region_held3 (fun w' => w'.cell? ⟨B, 0, none⟩ = some (.int .i64 x.line) ∧ w'.cell? ⟨B, 1, none⟩ = some (.int .i64 x.cls) ∧ w'.cell? ⟨B, 2, none⟩ = some (.int .i64 x.kind) ∧ w'.cell? ⟨B, 3, none⟩ = some (.int .i64 x.gen) ∧ w'.cell? ⟨g, q * 4, none⟩ = some (.int .i64 y.line) ∧ w'.cell? ⟨g, q * 4 + 1, none⟩ = some (.int .i64 y.cls) ∧ w'.cell? ⟨g, q * 4 + 2, none⟩ = some (.int .i64 y.kind) ∧ w'.cell? ⟨g, q * 4 + 3, none⟩ = some (.int .i64 y.gen)) (go_keep)
                  (first
                    | (go_at_call 48; refine (ahead_calls _ x y).mono ?_; rintro e wa ⟨rfl, ba0⟩; rw [hlt9]; (have ba : Below w3.heap.size w3 wa := (by first | exact below_of_drew ba0 | exact ba0)); (have oA := OwnB.below hO ba hgO); (have bxA := Cl.below hBx ba hBx.lt); (have pcA := Cl.below hpic ba hpic.lt); (have bxc := (Cl.has4 bxA).1); (have qb := RowB.four (OwnB.row oA) HYl)))
                have hBa : Below w.heap.size w wa := hb.trans (ba.mono hb.size)
                have hF := oA.swap hkz hqz
                rw [HDK.out, HY.out] at hF
                have HFF := Lib.hid hF
                have HIN2 : Hid (Ins ltB 0 q m (swp d k q)) := by
                  have h8 := HIN.out
                  have h7 := HQ.out
                  show Ins ltB 0 q m (swp d k q)
                  rw [h7] at h8 ⊢
                  refine h8.step ?_ (Nat.zero_le _) (by omega)
                  rw [← h7, HDK.out, HY.out]
                  exact hlt9
                have HDK2 : Hid ((swp d k q)[q]! = x) := by show _ = _; rw [swp_right d k q hqz]; exact HDK.out
                have HPM2 : Hid ((swp d k q).toList.Perm (M ++ [x])) := (swp_perm hkz hqz).trans HPM.out
                have HDS2 : Hid ((swp d k q).size = m + 1) := by show _ = _; rw [swp_size]; exact HDS.out
                have hgA := oA.row.lt
                have hlBA := bxA.lt
                have frz := RowB.free oA.row
                have f0 := frz (k * 4)
                have f1 := frz (k * 4 + 1)
                have f2 := frz (k * 4 + 2)
                have f3 := frz (k * 4 + 3)
                have h0 := frz (q * 4)
                have h1 := frz (q * 4 + 1)
                have h2 := frz (q * 4 + 2)
                have h3 := frz (q * 4 + 3)
                have HXl : Hid (d.toList[k]? = some x) := by show d.toList[k]? = some x; rw [← HDK.out, getElem!_pos d k hkz]; simp [hkz]
                obtain ⟨xx0, xx1, xx2, xx3⟩ := RowB.four oA.row HXl
                obtain ⟨yz0, yz1, yz2, yz3⟩ := qb
                obtain ⟨bz0, bz1, bz2, bz3⟩ := bxc
                clear bx0 bx1 bx2 bx3 yy0 yy1 yy2 yy3 hqz hkz hF frz hlt9 hO hb ba hBx hpic HYl HXl
                have hapt' : ¬ g = B := fun h => hapt h.symm
                have hneg : w.heap.size ≠ g := by have := oA.1; omega
                have hge : w.heap.size ≤ g := by have := oA.1; omega
                go_wp2_with fail
                go_roundw
                case rel => exact ⟨q, swp d k q, rfl, by omega, HDS2.out, HFF.out, HDK2.out, HIN2.out, HPM2.out, Cl.put4 (Cl.put4 bxA hapt) hapt, Cl.put4 (Cl.put4 pcA hneg) hneg, by (repeat (first | with_reducible exact Below.refl _ _ | with_reducible assumption | with_reducible refine below_drewN ?_ _ | with_reducible refine Below.drew ?_ | with_reducible refine Below.alloc ?_ (by first | omega | (simp; omega) | simp) _ | with_reducible refine Below.setCell ?_ (by first | omega | (simp; omega) | simp) _))⟩
                case measure => have := HQ.out; simp [intOf]; omega
            · have hk00 : k = 0 := by omega
              have HSD : Hid (d.toList.Pairwise (fun x y => ltB y x = false)) := sorted_list HDS.out (HIN.out.stop swoB (.inl (by omega)))
              have HOW : Hid (w3.ownsRow (w.heap.size + 1) 53 4 (.slice (some ⟨g, 0, none⟩) (m + 1) cq) (m + 1) (bksCells d.toList)) := by
                have h9 := hO.own
                rw [show d.toList.length = m + 1 by rw [← HDS.out]; simp] at h9
                exact h9
              subst hk00
              go_wp2_with fail
              go_quiet (fail)
              go_wp2_with fail
              go_roundw
              case rel => exact ⟨i + 1, m + 1, some ⟨g, 0, none⟩, cq, d.toList, by rw [HLN.out]; omega, by go_num, rfl, by rw [← HDS.out]; simp, by omega, HOW.out, by rw [HF.out]; exact HPM.out.trans ((HP.out.append_right [x])), HSD.out, hpic.drewN _, by (repeat (first | with_reducible exact Below.refl _ _ | with_reducible assumption | with_reducible refine below_drewN ?_ _ | with_reducible refine Below.drew ?_ | with_reducible refine Below.alloc ?_ (by first | omega | (simp; omega) | simp) _ | with_reducible refine Below.setCell ?_ (by first | omega | (simp; omega) | simp) _))⟩
              case measure => simp [intOf]; omega
    · have hin : i = n := by omega
      have HT : Hid (M.Perm (bs.filter (frB c))) := by
        have h9 := HP.out
        rw [List.take_of_length_le (by rw [HLN.out]; omega)] at h9
        exact h9
      have HRD : Hid (RdB wr (.slice A M.length cp) M) := by show RdB wr (.slice A M.length cp) M; unfold RdB; rw [HM.out]; exact Rd.own hown
      clear hin
      go_wp2_with fail
      go_ret
      exact ⟨A, cp, M, by rw [HM.out]; rfl, HRD.out, HT.out, HS.out, hb⟩
end Go.Proofs.YtcoeoggoaiebeaaDoor
