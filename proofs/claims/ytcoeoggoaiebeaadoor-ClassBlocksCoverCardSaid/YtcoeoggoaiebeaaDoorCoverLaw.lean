/-
  The law ClassBlocksCover returns true.
-/
import Derived.Test.YtcoeoggoaiebeaaDoorSan
import Derived.Test.YtcoeoggoaiebeaaDoorCheck
namespace Go.Proofs.YtcoeoggoaiebeaaDoor
open Go.RowKit
set_option linter.unusedSimpArgs false
set_option linter.unusedVariables false

theorem plan40 (w : World) (L : Nat) (h1 : 64 ≤ L) (h2 : L ≤ 103) :
    Calls Tryd.prog 13 #[.int .i64 (L : Int)] w fun e w' => e = .returned (.tuple #[.agg #[.int .i64 (L : Int), .int .i64 2, .int .i64 8, .int .i64 10, .int .i64 4, .int .i64 14, .int .i64 16, .int .i64 ((L / 16 - 1 : Nat) : Int)], .int .i64 0]) ∧ Below w.heap.size w w' := by
  refine (plan_a w L h1 (by omega) (by omega)).mono ?_
  rintro e w' ⟨rfl, hb⟩
  have e1 : upTo16 (planStart L 8 4) = 16 := by unfold upTo16 planStart; omega
  have e2 : ((L : Int) - 16) / 16 = ((L / 16 - 1 : Nat) : Int) := by omega
  rw [e1, e2]
  exact ⟨rfl, hb⟩

/-- How often the block's first line was met among the first 'i' starts. -/
def CovRel (w : World) (gL : Nat) (lay : Array Value) (v : Value) (zs : List Int) (f m : Nat) (n i : Value) (wr : World) : Prop :=
  ∃ j : Nat, j ≤ m ∧ i = .int .i64 j ∧ n = .int .i64 (if f < j then 1 else 0) ∧ RdI wr v zs ∧ Cl wr gL 31 lay ∧ Below w.heap.size w wr
theorem chunk_get (heap : Int) (k c j : Nat) (h : j < 16 / 2 ^ c) : ((chunkSpots heap k c).map (·.1))[j]? = some (heap + 16 * k + j * ((2 ^ c : Nat) : Int)) := by
  have h1 : (chunkSpots heap k c)[j]? = some (heap + 16 * k + j * ((2 ^ c : Nat) : Int), (c : Int)) := spotsN_get _ _ _ _ j h
  rw [List.getElem?_map, h1]
  rfl

set_option maxRecDepth 100000 in
set_option maxHeartbeats 400000 in
theorem cover0 (w : World) (n ch c ln : Nat) (hn : n < 256) (hch : ch < 256) (hc : c < 256) (hln : ln < 256) (hc5 : (c : Int) % 5 = 0) (hd : Hd w) (hp : Pt w) :
    Calls Tryd.prog 6 #[.int .u8 (n : Int), .int .u8 (ch : Int), .int .u8 (c : Int), .int .u8 (ln : Int)] w fun e w' => e = .returned (.bool true) ∧ Below w.heap.size w w' := by
  obtain ⟨L, hL⟩ : ∃ L : Nat, 64 + n % 40 = L := ⟨_, rfl⟩
  have hLe : 64 + (n : Int) % 40 = (L : Int) := by omega
  have hL1 : 64 ≤ L := by omega
  have hL2 : L ≤ 103 := by omega
  clear hL
  go_enter Tryd.func6, Tryd.ntmps6
  go_wp2_with fail
  refine (sanity_calls _ hd hp).mono ?_
  rintro e w1 ⟨rfl, hB⟩
  clear hd hp
  go_upto_region 3 with (fail)
  clear hLe
  go_wp2_with fail
  refine (plan40 _ L hL1 hL2).mono ?_
  rintro e w2 ⟨rfl, hb⟩
  replace hB := hB.trans (hb.mono hB.size)
  clear hb
  obtain ⟨chunks, hK⟩ : ∃ chunks, L / 16 - 1 = chunks := ⟨_, rfl⟩
  rw [hK]
  have hK3 : chunks = 3 ∨ chunks = 4 ∨ chunks = 5 := by omega
  clear hK
  go_upto_region 4 with (fail)
  generalize hwn : w2.alloc (.cells #[.int .i64 (L : Int), .int .i64 2, .int .i64 8, .int .i64 10, .int .i64 4, .int .i64 14, .int .i64 16, .int .i64 (chunks : Int)] 31) = w3
  have hC : Cl w3 w2.heap.size 31 #[.int .i64 (L : Int), .int .i64 2, .int .i64 8, .int .i64 10, .int .i64 4, .int .i64 14, .int .i64 16, .int .i64 (chunks : Int)] := by rw [← hwn]; exact Cl.new _ _ _
  replace hB : Below w.heap.size w w3 := hB.trans (Below.mono (by rw [← hwn]; (repeat (first | with_reducible exact Below.refl _ _ | with_reducible assumption | with_reducible refine below_drewN ?_ _ | with_reducible refine Below.drew ?_ | with_reducible refine Below.alloc ?_ (by first | omega | (simp; omega) | simp) _ | with_reducible refine Below.setCell ?_ (by first | omega | (simp; omega) | simp) _))) hB.size)
  clear hwn
  generalize w2.heap.size = gL at *
  go_wp2_with fail
  refine (new_calls _ L (by omega) (by omega)).mono ?_
  rintro e w4 ⟨gm, rfl, hM, hb⟩
  replace hC := hC.below hb hC.lt
  have hbase : w3.heap.size ≤ w4.heap.size := hb.size
  have hwb : w.heap.size ≤ w3.heap.size := hB.size
  replace hB := hB.trans (hb.mono hB.size)
  clear hb
  generalize w3.heap.size = base at *
  go_upto_region 7 with (fail)
  go_cut [14] (fun s wx => ∃ k : Nat, k < chunks ∧ s = .int .i64 (k : Int) ∧ w4 = wx)
  case first =>
    have ll := hC.lt
    obtain ⟨y0, y1, y2, y3, y4, y5, y6, y7⟩ := hC.cells8
    rcases hK3 with rfl | rfl | rfl
    · go_wp2_with fail
      go_meet
      exact ⟨ch % 3, by omega, by simp, rfl⟩
    · go_wp2_with fail
      go_meet
      exact ⟨ch % 4, by omega, by simp, rfl⟩
    · go_wp2_with fail
      go_meet
      exact ⟨ch % 5, by omega, by simp, rfl⟩
  case rest =>
    obtain ⟨k, hk, rfl, hw4⟩ := hcut
    subst hw4
    have hk8 : chunks ≤ 5 := by omega
    clear hK3
    have ll := hC.lt
    obtain ⟨y0, y1, y2, y3, y4, y5, y6, y7⟩ := hC.cells8
    obtain ⟨t, ht⟩ : ∃ t : Nat, ln % 16 = t := ⟨_, rfl⟩
    have hte : (ln : Int) % 16 = (t : Int) := by omega
    have ht16 : t < 16 := by omega
    clear ht
    go_wp2_with fail
    refine (store_calls base w4 gm L 14 k (112 + (k : Int)) 1 (fun _ => []) 0 hM (by omega) (by omega) (by omega) (by omega) (by omega) (by omega) (by omega) (by omega) (by simp) hbase).mono ?_
    rintro e w5 ⟨rfl, hM5, hg5⟩
    have hC5 := hg5.cl hC (by decide)
    have hB5 := hg5.below hB (by have := hB.size; omega) hwb
    have hb5 : base ≤ w5.heap.size := Nat.le_trans hbase hg5.size
    clear hM hg5 hC hB y0 y1 y2 y3 y4 y5 y6 y7 ll hbase
    have ll := hC5.lt
    obtain ⟨y0, y1, y2, y3, y4, y5, y6, y7⟩ := hC5.cells8
    obtain ⟨f, hf⟩ : ∃ f : Nat, t / 1 = f := ⟨_, rfl⟩
    go_wp2_with fail
    refine (Of_calls base w5 gm L 14 k 0 1 _ _ hM5 (L : Int) 2 8 10 4 14 16 (chunks : Int) (16 + 16 * (k : Int) + (t : Int)) (k : Int) (by omega) (by omega) (by omega) (by omega) (by omega) (by omega) (by omega) (by omega) (by omega) (by omega) (by omega) (by omega) (by omega) (by omega) (by rw [upd_self]; simp; omega) (by rw [upd_self, List.nil_append]; simp [sh]) (by omega) rfl).mono ?_
    rintro e w6 ⟨rfl, hb6⟩
    have hfe : 16 + 16 * (k : Int) + (t : Int) - (16 + 16 * (k : Int) + (t : Int) - 16) % ((1 : Nat) : Int) = 16 + 16 * (k : Int) + (f:Int) := by omega
    rw [hfe]
    clear hfe
    have hC6 := hC5.below hb6 hC5.lt
    have hB6 := hB5.trans (hb6.mono hB5.size)
    clear hC5 hB5 hb6 y0 y1 y2 y3 y4 y5 y6 y7 ll hM5 hb5
    have ll := hC6.lt
    obtain ⟨y0, y1, y2, y3, y4, y5, y6, y7⟩ := hC6.cells8
    go_wp2_with fail
    refine (starts0 w6 (L : Int) 2 8 10 4 14 16 chunks k hk (by omega) (by omega) (by omega)).mono ?_
    rintro e w7 ⟨A, cp, rfl, hI, hb7⟩
    have hC7 := hC6.below hb7 hC6.lt
    have hB7 := hB6.trans (hb7.mono hB6.size)
    clear hC6 hB6 hb7 y0 y1 y2 y3 y4 y5 y6 y7 ll hc5 hte
    have hzg : ∀ j : Nat, j < 16 → ((chunkSpots 16 k 0).map (·.1))[j]? = some (16 + 16 * (k : Int) + (j:Int)) := fun j hj => by rw [chunk_get 16 k 0 j hj]; simp
    have hzl : ((chunkSpots 16 k 0).map (·.1)).length = 16 := by rw [List.length_map]; exact spotsN_length _ _ _ _
    generalize (chunkSpots 16 k 0).map (·.1) = zs at *
    rw [hzl]
    rw [hzl] at hI
    have hf1 : 16 + 16 * (k : Int) + (f:Int) ≤ 16 + 16 * (k : Int) + (t : Int) := by omega
    have hf2 : 16 + 16 * (k : Int) + (t : Int) < 16 + 16 * (k : Int) + (f:Int) + 1 := by omega
    have hfm : f < 16 := by omega
    have HG := Lib.hid hzg
    have HL := Lib.hid hzl
    clear hzg hzl hf
    go_wp2_with fail
    go_loopw [20, 21] (fun n i wr => CovRel w gL #[.int .i64 (L : Int), .int .i64 2, .int .i64 8, .int .i64 10, .int .i64 4, .int .i64 14, .int .i64 16, .int .i64 (chunks : Int)] (.slice A 16 cp) zs f 16 n i wr) (fun _ i _ => 16 - (intOf i).toNat)
    case atStart => exact ⟨0, by omega, rfl, by simp, hI, hC7, hB7⟩
    case round =>
      clear hI hC7 hB7
      obtain ⟨j, hj, rfl, rfl, hI, hC, hb⟩ := hrel
      have ll := hC.lt
      by_cases hlt : j < 16
      · have y6 := hC.cell 6
        simp only [List.getElem?_toArray, List.getElem?_cons_succ, List.getElem?_cons_zero] at y6
        obtain ⟨A1, c1, hv, _, hcell⟩ := hI.at_
        rw [HL.out] at hv hcell
        injection hv with e1 _ e3
        obtain ⟨b, o, hA, hbl, hc⟩ := hcell j hlt
        rw [hA] at e1
        subst e1
        have d0 := hc _ (HG.out j hlt)
        clear hcell hc hA e3
        have n1 : (if f < j + 1 then (1 : Int) else 0) = (if f < j then (1 : Int) else 0) + (if j = f then 1 else 0) := by
          repeat' split
          all_goals first | rfl | omega
        have N1 := Lib.hid n1
        clear n1
        by_cases hjf : j = f
        · have n2 : (if f < j then (1 : Int) else 0) = 0 := if_neg (by omega)
          rw [n2] at N1 ⊢
          rw [if_pos hjf] at N1
          have b1 : ((16 + 16 * (k : Int) + (j:Int) : Int) == 16 + 16 * (k : Int) + (f:Int)) = true := by simp [hjf]
          clear hjf
          go_wp2_with fail
          go_quiet (fail)
          go_wp2_with fail
          go_roundw
          case rel => exact ⟨j + 1, by omega, by go_num, by rw [N1.out]; rfl, hI.below (by (repeat (first | with_reducible exact Below.refl _ _ | with_reducible assumption | with_reducible refine below_drewN ?_ _ | with_reducible refine Below.drew ?_ | with_reducible refine Below.alloc ?_ (by first | omega | (simp; omega) | simp) _ | with_reducible refine Below.setCell ?_ (by first | omega | (simp; omega) | simp) _))), hC.drewN _, by (repeat (first | with_reducible exact Below.refl _ _ | with_reducible assumption | with_reducible refine below_drewN ?_ _ | with_reducible refine Below.drew ?_ | with_reducible refine Below.alloc ?_ (by first | omega | (simp; omega) | simp) _ | with_reducible refine Below.setCell ?_ (by first | omega | (simp; omega) | simp) _))⟩
          case measure => simp [intOf]; omega
        · have b1 : ((16 + 16 * (k : Int) + (j:Int) : Int) == 16 + 16 * (k : Int) + (f:Int)) = false := by simp; omega
          rw [if_neg hjf, Int.add_zero] at N1
          generalize (if f < j then (1 : Int) else 0) = q at *
          go_wp2_with fail
          go_quiet (fail)
          go_wp2_with fail
          go_roundw
          case rel => exact ⟨j + 1, by omega, by go_num, by rw [N1.out], hI.below (by (repeat (first | with_reducible exact Below.refl _ _ | with_reducible assumption | with_reducible refine below_drewN ?_ _ | with_reducible refine Below.drew ?_ | with_reducible refine Below.alloc ?_ (by first | omega | (simp; omega) | simp) _ | with_reducible refine Below.setCell ?_ (by first | omega | (simp; omega) | simp) _))), hC.drewN _, by (repeat (first | with_reducible exact Below.refl _ _ | with_reducible assumption | with_reducible refine below_drewN ?_ _ | with_reducible refine Below.drew ?_ | with_reducible refine Below.alloc ?_ (by first | omega | (simp; omega) | simp) _ | with_reducible refine Below.setCell ?_ (by first | omega | (simp; omega) | simp) _))⟩
          case measure => simp [intOf]; omega
      · obtain rfl : j = 16 := by omega
        rw [if_pos hfm]
        go_wp2_with fail
        go_ret
        exact ⟨rfl, hb⟩
set_option maxRecDepth 100000 in
set_option maxHeartbeats 400000 in
theorem cover1 (w : World) (n ch c ln : Nat) (hn : n < 256) (hch : ch < 256) (hc : c < 256) (hln : ln < 256) (hc5 : (c : Int) % 5 = 1) (hd : Hd w) (hp : Pt w) :
    Calls Tryd.prog 6 #[.int .u8 (n : Int), .int .u8 (ch : Int), .int .u8 (c : Int), .int .u8 (ln : Int)] w fun e w' => e = .returned (.bool true) ∧ Below w.heap.size w w' := by
  obtain ⟨L, hL⟩ : ∃ L : Nat, 64 + n % 40 = L := ⟨_, rfl⟩
  have hLe : 64 + (n : Int) % 40 = (L : Int) := by omega
  have hL1 : 64 ≤ L := by omega
  have hL2 : L ≤ 103 := by omega
  clear hL
  go_enter Tryd.func6, Tryd.ntmps6
  go_wp2_with fail
  refine (sanity_calls _ hd hp).mono ?_
  rintro e w1 ⟨rfl, hB⟩
  clear hd hp
  go_upto_region 3 with (fail)
  clear hLe
  go_wp2_with fail
  refine (plan40 _ L hL1 hL2).mono ?_
  rintro e w2 ⟨rfl, hb⟩
  replace hB := hB.trans (hb.mono hB.size)
  clear hb
  obtain ⟨chunks, hK⟩ : ∃ chunks, L / 16 - 1 = chunks := ⟨_, rfl⟩
  rw [hK]
  have hK3 : chunks = 3 ∨ chunks = 4 ∨ chunks = 5 := by omega
  clear hK
  go_upto_region 4 with (fail)
  generalize hwn : w2.alloc (.cells #[.int .i64 (L : Int), .int .i64 2, .int .i64 8, .int .i64 10, .int .i64 4, .int .i64 14, .int .i64 16, .int .i64 (chunks : Int)] 31) = w3
  have hC : Cl w3 w2.heap.size 31 #[.int .i64 (L : Int), .int .i64 2, .int .i64 8, .int .i64 10, .int .i64 4, .int .i64 14, .int .i64 16, .int .i64 (chunks : Int)] := by rw [← hwn]; exact Cl.new _ _ _
  replace hB : Below w.heap.size w w3 := hB.trans (Below.mono (by rw [← hwn]; (repeat (first | with_reducible exact Below.refl _ _ | with_reducible assumption | with_reducible refine below_drewN ?_ _ | with_reducible refine Below.drew ?_ | with_reducible refine Below.alloc ?_ (by first | omega | (simp; omega) | simp) _ | with_reducible refine Below.setCell ?_ (by first | omega | (simp; omega) | simp) _))) hB.size)
  clear hwn
  generalize w2.heap.size = gL at *
  go_wp2_with fail
  refine (new_calls _ L (by omega) (by omega)).mono ?_
  rintro e w4 ⟨gm, rfl, hM, hb⟩
  replace hC := hC.below hb hC.lt
  have hbase : w3.heap.size ≤ w4.heap.size := hb.size
  have hwb : w.heap.size ≤ w3.heap.size := hB.size
  replace hB := hB.trans (hb.mono hB.size)
  clear hb
  generalize w3.heap.size = base at *
  go_upto_region 7 with (fail)
  go_cut [14] (fun s wx => ∃ k : Nat, k < chunks ∧ s = .int .i64 (k : Int) ∧ w4 = wx)
  case first =>
    have ll := hC.lt
    obtain ⟨y0, y1, y2, y3, y4, y5, y6, y7⟩ := hC.cells8
    rcases hK3 with rfl | rfl | rfl
    · go_wp2_with fail
      go_meet
      exact ⟨ch % 3, by omega, by simp, rfl⟩
    · go_wp2_with fail
      go_meet
      exact ⟨ch % 4, by omega, by simp, rfl⟩
    · go_wp2_with fail
      go_meet
      exact ⟨ch % 5, by omega, by simp, rfl⟩
  case rest =>
    obtain ⟨k, hk, rfl, hw4⟩ := hcut
    subst hw4
    have hk8 : chunks ≤ 5 := by omega
    clear hK3
    have ll := hC.lt
    obtain ⟨y0, y1, y2, y3, y4, y5, y6, y7⟩ := hC.cells8
    obtain ⟨t, ht⟩ : ∃ t : Nat, ln % 16 = t := ⟨_, rfl⟩
    have hte : (ln : Int) % 16 = (t : Int) := by omega
    have ht16 : t < 16 := by omega
    clear ht
    go_wp2_with fail
    refine (store_calls base w4 gm L 14 k (112 + (k : Int)) 2 (fun _ => []) 0 hM (by omega) (by omega) (by omega) (by omega) (by omega) (by omega) (by omega) (by omega) (by simp) hbase).mono ?_
    rintro e w5 ⟨rfl, hM5, hg5⟩
    have hC5 := hg5.cl hC (by decide)
    have hB5 := hg5.below hB (by have := hB.size; omega) hwb
    have hb5 : base ≤ w5.heap.size := Nat.le_trans hbase hg5.size
    clear hM hg5 hC hB y0 y1 y2 y3 y4 y5 y6 y7 ll hbase
    have ll := hC5.lt
    obtain ⟨y0, y1, y2, y3, y4, y5, y6, y7⟩ := hC5.cells8
    obtain ⟨f, hf⟩ : ∃ f : Nat, t / 2 = f := ⟨_, rfl⟩
    go_wp2_with fail
    refine (Of_calls base w5 gm L 14 k 1 2 _ _ hM5 (L : Int) 2 8 10 4 14 16 (chunks : Int) (16 + 16 * (k : Int) + (t : Int)) (k : Int) (by omega) (by omega) (by omega) (by omega) (by omega) (by omega) (by omega) (by omega) (by omega) (by omega) (by omega) (by omega) (by omega) (by omega) (by rw [upd_self]; simp; omega) (by rw [upd_self, List.nil_append]; simp [sh]) (by omega) rfl).mono ?_
    rintro e w6 ⟨rfl, hb6⟩
    have hfe : 16 + 16 * (k : Int) + (t : Int) - (16 + 16 * (k : Int) + (t : Int) - 16) % ((2 : Nat) : Int) = 16 + 16 * (k : Int) + (f:Int)*2 := by omega
    rw [hfe]
    clear hfe
    have hC6 := hC5.below hb6 hC5.lt
    have hB6 := hB5.trans (hb6.mono hB5.size)
    clear hC5 hB5 hb6 y0 y1 y2 y3 y4 y5 y6 y7 ll hM5 hb5
    have ll := hC6.lt
    obtain ⟨y0, y1, y2, y3, y4, y5, y6, y7⟩ := hC6.cells8
    go_wp2_with fail
    refine (starts1 w6 (L : Int) 2 8 10 4 14 16 chunks k hk (by omega) (by omega) (by omega)).mono ?_
    rintro e w7 ⟨A, cp, rfl, hI, hb7⟩
    have hC7 := hC6.below hb7 hC6.lt
    have hB7 := hB6.trans (hb7.mono hB6.size)
    clear hC6 hB6 hb7 y0 y1 y2 y3 y4 y5 y6 y7 ll hc5 hte
    have hzg : ∀ j : Nat, j < 8 → ((chunkSpots 16 k 1).map (·.1))[j]? = some (16 + 16 * (k : Int) + (j:Int)*2) := fun j hj => by rw [chunk_get 16 k 1 j hj]; simp
    have hzl : ((chunkSpots 16 k 1).map (·.1)).length = 8 := by rw [List.length_map]; exact spotsN_length _ _ _ _
    generalize (chunkSpots 16 k 1).map (·.1) = zs at *
    rw [hzl]
    rw [hzl] at hI
    have hf1 : 16 + 16 * (k : Int) + (f:Int)*2 ≤ 16 + 16 * (k : Int) + (t : Int) := by omega
    have hf2 : 16 + 16 * (k : Int) + (t : Int) < 16 + 16 * (k : Int) + (f:Int)*2 + 2 := by omega
    have hfm : f < 8 := by omega
    have HG := Lib.hid hzg
    have HL := Lib.hid hzl
    clear hzg hzl hf
    go_wp2_with fail
    go_loopw [20, 21] (fun n i wr => CovRel w gL #[.int .i64 (L : Int), .int .i64 2, .int .i64 8, .int .i64 10, .int .i64 4, .int .i64 14, .int .i64 16, .int .i64 (chunks : Int)] (.slice A 8 cp) zs f 8 n i wr) (fun _ i _ => 8 - (intOf i).toNat)
    case atStart => exact ⟨0, by omega, rfl, by simp, hI, hC7, hB7⟩
    case round =>
      clear hI hC7 hB7
      obtain ⟨j, hj, rfl, rfl, hI, hC, hb⟩ := hrel
      have ll := hC.lt
      by_cases hlt : j < 8
      · have y6 := hC.cell 6
        simp only [List.getElem?_toArray, List.getElem?_cons_succ, List.getElem?_cons_zero] at y6
        obtain ⟨A1, c1, hv, _, hcell⟩ := hI.at_
        rw [HL.out] at hv hcell
        injection hv with e1 _ e3
        obtain ⟨b, o, hA, hbl, hc⟩ := hcell j hlt
        rw [hA] at e1
        subst e1
        have d0 := hc _ (HG.out j hlt)
        clear hcell hc hA e3
        have n1 : (if f < j + 1 then (1 : Int) else 0) = (if f < j then (1 : Int) else 0) + (if j = f then 1 else 0) := by
          repeat' split
          all_goals first | rfl | omega
        have N1 := Lib.hid n1
        clear n1
        by_cases hjf : j = f
        · have n2 : (if f < j then (1 : Int) else 0) = 0 := if_neg (by omega)
          rw [n2] at N1 ⊢
          rw [if_pos hjf] at N1
          have b1 : ((16 + 16 * (k : Int) + (j:Int)*2 : Int) == 16 + 16 * (k : Int) + (f:Int)*2) = true := by simp [hjf]
          clear hjf
          go_wp2_with fail
          go_quiet (fail)
          go_wp2_with fail
          go_roundw
          case rel => exact ⟨j + 1, by omega, by go_num, by rw [N1.out]; rfl, hI.below (by (repeat (first | with_reducible exact Below.refl _ _ | with_reducible assumption | with_reducible refine below_drewN ?_ _ | with_reducible refine Below.drew ?_ | with_reducible refine Below.alloc ?_ (by first | omega | (simp; omega) | simp) _ | with_reducible refine Below.setCell ?_ (by first | omega | (simp; omega) | simp) _))), hC.drewN _, by (repeat (first | with_reducible exact Below.refl _ _ | with_reducible assumption | with_reducible refine below_drewN ?_ _ | with_reducible refine Below.drew ?_ | with_reducible refine Below.alloc ?_ (by first | omega | (simp; omega) | simp) _ | with_reducible refine Below.setCell ?_ (by first | omega | (simp; omega) | simp) _))⟩
          case measure => simp [intOf]; omega
        · have b1 : ((16 + 16 * (k : Int) + (j:Int)*2 : Int) == 16 + 16 * (k : Int) + (f:Int)*2) = false := by simp; omega
          rw [if_neg hjf, Int.add_zero] at N1
          generalize (if f < j then (1 : Int) else 0) = q at *
          go_wp2_with fail
          go_quiet (fail)
          go_wp2_with fail
          go_roundw
          case rel => exact ⟨j + 1, by omega, by go_num, by rw [N1.out], hI.below (by (repeat (first | with_reducible exact Below.refl _ _ | with_reducible assumption | with_reducible refine below_drewN ?_ _ | with_reducible refine Below.drew ?_ | with_reducible refine Below.alloc ?_ (by first | omega | (simp; omega) | simp) _ | with_reducible refine Below.setCell ?_ (by first | omega | (simp; omega) | simp) _))), hC.drewN _, by (repeat (first | with_reducible exact Below.refl _ _ | with_reducible assumption | with_reducible refine below_drewN ?_ _ | with_reducible refine Below.drew ?_ | with_reducible refine Below.alloc ?_ (by first | omega | (simp; omega) | simp) _ | with_reducible refine Below.setCell ?_ (by first | omega | (simp; omega) | simp) _))⟩
          case measure => simp [intOf]; omega
      · obtain rfl : j = 8 := by omega
        rw [if_pos hfm]
        go_wp2_with fail
        go_ret
        exact ⟨rfl, hb⟩
set_option maxRecDepth 100000 in
set_option maxHeartbeats 400000 in
theorem cover2 (w : World) (n ch c ln : Nat) (hn : n < 256) (hch : ch < 256) (hc : c < 256) (hln : ln < 256) (hc5 : (c : Int) % 5 = 2) (hd : Hd w) (hp : Pt w) :
    Calls Tryd.prog 6 #[.int .u8 (n : Int), .int .u8 (ch : Int), .int .u8 (c : Int), .int .u8 (ln : Int)] w fun e w' => e = .returned (.bool true) ∧ Below w.heap.size w w' := by
  obtain ⟨L, hL⟩ : ∃ L : Nat, 64 + n % 40 = L := ⟨_, rfl⟩
  have hLe : 64 + (n : Int) % 40 = (L : Int) := by omega
  have hL1 : 64 ≤ L := by omega
  have hL2 : L ≤ 103 := by omega
  clear hL
  go_enter Tryd.func6, Tryd.ntmps6
  go_wp2_with fail
  refine (sanity_calls _ hd hp).mono ?_
  rintro e w1 ⟨rfl, hB⟩
  clear hd hp
  go_upto_region 3 with (fail)
  clear hLe
  go_wp2_with fail
  refine (plan40 _ L hL1 hL2).mono ?_
  rintro e w2 ⟨rfl, hb⟩
  replace hB := hB.trans (hb.mono hB.size)
  clear hb
  obtain ⟨chunks, hK⟩ : ∃ chunks, L / 16 - 1 = chunks := ⟨_, rfl⟩
  rw [hK]
  have hK3 : chunks = 3 ∨ chunks = 4 ∨ chunks = 5 := by omega
  clear hK
  go_upto_region 4 with (fail)
  generalize hwn : w2.alloc (.cells #[.int .i64 (L : Int), .int .i64 2, .int .i64 8, .int .i64 10, .int .i64 4, .int .i64 14, .int .i64 16, .int .i64 (chunks : Int)] 31) = w3
  have hC : Cl w3 w2.heap.size 31 #[.int .i64 (L : Int), .int .i64 2, .int .i64 8, .int .i64 10, .int .i64 4, .int .i64 14, .int .i64 16, .int .i64 (chunks : Int)] := by rw [← hwn]; exact Cl.new _ _ _
  replace hB : Below w.heap.size w w3 := hB.trans (Below.mono (by rw [← hwn]; (repeat (first | with_reducible exact Below.refl _ _ | with_reducible assumption | with_reducible refine below_drewN ?_ _ | with_reducible refine Below.drew ?_ | with_reducible refine Below.alloc ?_ (by first | omega | (simp; omega) | simp) _ | with_reducible refine Below.setCell ?_ (by first | omega | (simp; omega) | simp) _))) hB.size)
  clear hwn
  generalize w2.heap.size = gL at *
  go_wp2_with fail
  refine (new_calls _ L (by omega) (by omega)).mono ?_
  rintro e w4 ⟨gm, rfl, hM, hb⟩
  replace hC := hC.below hb hC.lt
  have hbase : w3.heap.size ≤ w4.heap.size := hb.size
  have hwb : w.heap.size ≤ w3.heap.size := hB.size
  replace hB := hB.trans (hb.mono hB.size)
  clear hb
  generalize w3.heap.size = base at *
  go_upto_region 7 with (fail)
  go_cut [14] (fun s wx => ∃ k : Nat, k < chunks ∧ s = .int .i64 (k : Int) ∧ w4 = wx)
  case first =>
    have ll := hC.lt
    obtain ⟨y0, y1, y2, y3, y4, y5, y6, y7⟩ := hC.cells8
    rcases hK3 with rfl | rfl | rfl
    · go_wp2_with fail
      go_meet
      exact ⟨ch % 3, by omega, by simp, rfl⟩
    · go_wp2_with fail
      go_meet
      exact ⟨ch % 4, by omega, by simp, rfl⟩
    · go_wp2_with fail
      go_meet
      exact ⟨ch % 5, by omega, by simp, rfl⟩
  case rest =>
    obtain ⟨k, hk, rfl, hw4⟩ := hcut
    subst hw4
    have hk8 : chunks ≤ 5 := by omega
    clear hK3
    have ll := hC.lt
    obtain ⟨y0, y1, y2, y3, y4, y5, y6, y7⟩ := hC.cells8
    obtain ⟨t, ht⟩ : ∃ t : Nat, ln % 16 = t := ⟨_, rfl⟩
    have hte : (ln : Int) % 16 = (t : Int) := by omega
    have ht16 : t < 16 := by omega
    clear ht
    go_wp2_with fail
    refine (store_calls base w4 gm L 14 k (112 + (k : Int)) 3 (fun _ => []) 0 hM (by omega) (by omega) (by omega) (by omega) (by omega) (by omega) (by omega) (by omega) (by simp) hbase).mono ?_
    rintro e w5 ⟨rfl, hM5, hg5⟩
    have hC5 := hg5.cl hC (by decide)
    have hB5 := hg5.below hB (by have := hB.size; omega) hwb
    have hb5 : base ≤ w5.heap.size := Nat.le_trans hbase hg5.size
    clear hM hg5 hC hB y0 y1 y2 y3 y4 y5 y6 y7 ll hbase
    have ll := hC5.lt
    obtain ⟨y0, y1, y2, y3, y4, y5, y6, y7⟩ := hC5.cells8
    obtain ⟨f, hf⟩ : ∃ f : Nat, t / 4 = f := ⟨_, rfl⟩
    go_wp2_with fail
    refine (Of_calls base w5 gm L 14 k 2 4 _ _ hM5 (L : Int) 2 8 10 4 14 16 (chunks : Int) (16 + 16 * (k : Int) + (t : Int)) (k : Int) (by omega) (by omega) (by omega) (by omega) (by omega) (by omega) (by omega) (by omega) (by omega) (by omega) (by omega) (by omega) (by omega) (by omega) (by rw [upd_self]; simp; omega) (by rw [upd_self, List.nil_append]; simp [sh]) (by omega) rfl).mono ?_
    rintro e w6 ⟨rfl, hb6⟩
    have hfe : 16 + 16 * (k : Int) + (t : Int) - (16 + 16 * (k : Int) + (t : Int) - 16) % ((4 : Nat) : Int) = 16 + 16 * (k : Int) + (f:Int)*4 := by omega
    rw [hfe]
    clear hfe
    have hC6 := hC5.below hb6 hC5.lt
    have hB6 := hB5.trans (hb6.mono hB5.size)
    clear hC5 hB5 hb6 y0 y1 y2 y3 y4 y5 y6 y7 ll hM5 hb5
    have ll := hC6.lt
    obtain ⟨y0, y1, y2, y3, y4, y5, y6, y7⟩ := hC6.cells8
    go_wp2_with fail
    refine (starts2 w6 (L : Int) 2 8 10 4 14 16 chunks k hk (by omega) (by omega) (by omega)).mono ?_
    rintro e w7 ⟨A, cp, rfl, hI, hb7⟩
    have hC7 := hC6.below hb7 hC6.lt
    have hB7 := hB6.trans (hb7.mono hB6.size)
    clear hC6 hB6 hb7 y0 y1 y2 y3 y4 y5 y6 y7 ll hc5 hte
    have hzg : ∀ j : Nat, j < 4 → ((chunkSpots 16 k 2).map (·.1))[j]? = some (16 + 16 * (k : Int) + (j:Int)*4) := fun j hj => by rw [chunk_get 16 k 2 j hj]; simp
    have hzl : ((chunkSpots 16 k 2).map (·.1)).length = 4 := by rw [List.length_map]; exact spotsN_length _ _ _ _
    generalize (chunkSpots 16 k 2).map (·.1) = zs at *
    rw [hzl]
    rw [hzl] at hI
    have hf1 : 16 + 16 * (k : Int) + (f:Int)*4 ≤ 16 + 16 * (k : Int) + (t : Int) := by omega
    have hf2 : 16 + 16 * (k : Int) + (t : Int) < 16 + 16 * (k : Int) + (f:Int)*4 + 4 := by omega
    have hfm : f < 4 := by omega
    have HG := Lib.hid hzg
    have HL := Lib.hid hzl
    clear hzg hzl hf
    go_wp2_with fail
    go_loopw [20, 21] (fun n i wr => CovRel w gL #[.int .i64 (L : Int), .int .i64 2, .int .i64 8, .int .i64 10, .int .i64 4, .int .i64 14, .int .i64 16, .int .i64 (chunks : Int)] (.slice A 4 cp) zs f 4 n i wr) (fun _ i _ => 4 - (intOf i).toNat)
    case atStart => exact ⟨0, by omega, rfl, by simp, hI, hC7, hB7⟩
    case round =>
      clear hI hC7 hB7
      obtain ⟨j, hj, rfl, rfl, hI, hC, hb⟩ := hrel
      have ll := hC.lt
      by_cases hlt : j < 4
      · have y6 := hC.cell 6
        simp only [List.getElem?_toArray, List.getElem?_cons_succ, List.getElem?_cons_zero] at y6
        obtain ⟨A1, c1, hv, _, hcell⟩ := hI.at_
        rw [HL.out] at hv hcell
        injection hv with e1 _ e3
        obtain ⟨b, o, hA, hbl, hc⟩ := hcell j hlt
        rw [hA] at e1
        subst e1
        have d0 := hc _ (HG.out j hlt)
        clear hcell hc hA e3
        have n1 : (if f < j + 1 then (1 : Int) else 0) = (if f < j then (1 : Int) else 0) + (if j = f then 1 else 0) := by
          repeat' split
          all_goals first | rfl | omega
        have N1 := Lib.hid n1
        clear n1
        by_cases hjf : j = f
        · have n2 : (if f < j then (1 : Int) else 0) = 0 := if_neg (by omega)
          rw [n2] at N1 ⊢
          rw [if_pos hjf] at N1
          have b1 : ((16 + 16 * (k : Int) + (j:Int)*4 : Int) == 16 + 16 * (k : Int) + (f:Int)*4) = true := by simp [hjf]
          clear hjf
          go_wp2_with fail
          go_quiet (fail)
          go_wp2_with fail
          go_roundw
          case rel => exact ⟨j + 1, by omega, by go_num, by rw [N1.out]; rfl, hI.below (by (repeat (first | with_reducible exact Below.refl _ _ | with_reducible assumption | with_reducible refine below_drewN ?_ _ | with_reducible refine Below.drew ?_ | with_reducible refine Below.alloc ?_ (by first | omega | (simp; omega) | simp) _ | with_reducible refine Below.setCell ?_ (by first | omega | (simp; omega) | simp) _))), hC.drewN _, by (repeat (first | with_reducible exact Below.refl _ _ | with_reducible assumption | with_reducible refine below_drewN ?_ _ | with_reducible refine Below.drew ?_ | with_reducible refine Below.alloc ?_ (by first | omega | (simp; omega) | simp) _ | with_reducible refine Below.setCell ?_ (by first | omega | (simp; omega) | simp) _))⟩
          case measure => simp [intOf]; omega
        · have b1 : ((16 + 16 * (k : Int) + (j:Int)*4 : Int) == 16 + 16 * (k : Int) + (f:Int)*4) = false := by simp; omega
          rw [if_neg hjf, Int.add_zero] at N1
          generalize (if f < j then (1 : Int) else 0) = q at *
          go_wp2_with fail
          go_quiet (fail)
          go_wp2_with fail
          go_roundw
          case rel => exact ⟨j + 1, by omega, by go_num, by rw [N1.out], hI.below (by (repeat (first | with_reducible exact Below.refl _ _ | with_reducible assumption | with_reducible refine below_drewN ?_ _ | with_reducible refine Below.drew ?_ | with_reducible refine Below.alloc ?_ (by first | omega | (simp; omega) | simp) _ | with_reducible refine Below.setCell ?_ (by first | omega | (simp; omega) | simp) _))), hC.drewN _, by (repeat (first | with_reducible exact Below.refl _ _ | with_reducible assumption | with_reducible refine below_drewN ?_ _ | with_reducible refine Below.drew ?_ | with_reducible refine Below.alloc ?_ (by first | omega | (simp; omega) | simp) _ | with_reducible refine Below.setCell ?_ (by first | omega | (simp; omega) | simp) _))⟩
          case measure => simp [intOf]; omega
      · obtain rfl : j = 4 := by omega
        rw [if_pos hfm]
        go_wp2_with fail
        go_ret
        exact ⟨rfl, hb⟩
set_option maxRecDepth 100000 in
set_option maxHeartbeats 400000 in
theorem cover3 (w : World) (n ch c ln : Nat) (hn : n < 256) (hch : ch < 256) (hc : c < 256) (hln : ln < 256) (hc5 : (c : Int) % 5 = 3) (hd : Hd w) (hp : Pt w) :
    Calls Tryd.prog 6 #[.int .u8 (n : Int), .int .u8 (ch : Int), .int .u8 (c : Int), .int .u8 (ln : Int)] w fun e w' => e = .returned (.bool true) ∧ Below w.heap.size w w' := by
  obtain ⟨L, hL⟩ : ∃ L : Nat, 64 + n % 40 = L := ⟨_, rfl⟩
  have hLe : 64 + (n : Int) % 40 = (L : Int) := by omega
  have hL1 : 64 ≤ L := by omega
  have hL2 : L ≤ 103 := by omega
  clear hL
  go_enter Tryd.func6, Tryd.ntmps6
  go_wp2_with fail
  refine (sanity_calls _ hd hp).mono ?_
  rintro e w1 ⟨rfl, hB⟩
  clear hd hp
  go_upto_region 3 with (fail)
  clear hLe
  go_wp2_with fail
  refine (plan40 _ L hL1 hL2).mono ?_
  rintro e w2 ⟨rfl, hb⟩
  replace hB := hB.trans (hb.mono hB.size)
  clear hb
  obtain ⟨chunks, hK⟩ : ∃ chunks, L / 16 - 1 = chunks := ⟨_, rfl⟩
  rw [hK]
  have hK3 : chunks = 3 ∨ chunks = 4 ∨ chunks = 5 := by omega
  clear hK
  go_upto_region 4 with (fail)
  generalize hwn : w2.alloc (.cells #[.int .i64 (L : Int), .int .i64 2, .int .i64 8, .int .i64 10, .int .i64 4, .int .i64 14, .int .i64 16, .int .i64 (chunks : Int)] 31) = w3
  have hC : Cl w3 w2.heap.size 31 #[.int .i64 (L : Int), .int .i64 2, .int .i64 8, .int .i64 10, .int .i64 4, .int .i64 14, .int .i64 16, .int .i64 (chunks : Int)] := by rw [← hwn]; exact Cl.new _ _ _
  replace hB : Below w.heap.size w w3 := hB.trans (Below.mono (by rw [← hwn]; (repeat (first | with_reducible exact Below.refl _ _ | with_reducible assumption | with_reducible refine below_drewN ?_ _ | with_reducible refine Below.drew ?_ | with_reducible refine Below.alloc ?_ (by first | omega | (simp; omega) | simp) _ | with_reducible refine Below.setCell ?_ (by first | omega | (simp; omega) | simp) _))) hB.size)
  clear hwn
  generalize w2.heap.size = gL at *
  go_wp2_with fail
  refine (new_calls _ L (by omega) (by omega)).mono ?_
  rintro e w4 ⟨gm, rfl, hM, hb⟩
  replace hC := hC.below hb hC.lt
  have hbase : w3.heap.size ≤ w4.heap.size := hb.size
  have hwb : w.heap.size ≤ w3.heap.size := hB.size
  replace hB := hB.trans (hb.mono hB.size)
  clear hb
  generalize w3.heap.size = base at *
  go_upto_region 7 with (fail)
  go_cut [14] (fun s wx => ∃ k : Nat, k < chunks ∧ s = .int .i64 (k : Int) ∧ w4 = wx)
  case first =>
    have ll := hC.lt
    obtain ⟨y0, y1, y2, y3, y4, y5, y6, y7⟩ := hC.cells8
    rcases hK3 with rfl | rfl | rfl
    · go_wp2_with fail
      go_meet
      exact ⟨ch % 3, by omega, by simp, rfl⟩
    · go_wp2_with fail
      go_meet
      exact ⟨ch % 4, by omega, by simp, rfl⟩
    · go_wp2_with fail
      go_meet
      exact ⟨ch % 5, by omega, by simp, rfl⟩
  case rest =>
    obtain ⟨k, hk, rfl, hw4⟩ := hcut
    subst hw4
    have hk8 : chunks ≤ 5 := by omega
    clear hK3
    have ll := hC.lt
    obtain ⟨y0, y1, y2, y3, y4, y5, y6, y7⟩ := hC.cells8
    obtain ⟨t, ht⟩ : ∃ t : Nat, ln % 16 = t := ⟨_, rfl⟩
    have hte : (ln : Int) % 16 = (t : Int) := by omega
    have ht16 : t < 16 := by omega
    clear ht
    go_wp2_with fail
    refine (store_calls base w4 gm L 14 k (112 + (k : Int)) 4 (fun _ => []) 0 hM (by omega) (by omega) (by omega) (by omega) (by omega) (by omega) (by omega) (by omega) (by simp) hbase).mono ?_
    rintro e w5 ⟨rfl, hM5, hg5⟩
    have hC5 := hg5.cl hC (by decide)
    have hB5 := hg5.below hB (by have := hB.size; omega) hwb
    have hb5 : base ≤ w5.heap.size := Nat.le_trans hbase hg5.size
    clear hM hg5 hC hB y0 y1 y2 y3 y4 y5 y6 y7 ll hbase
    have ll := hC5.lt
    obtain ⟨y0, y1, y2, y3, y4, y5, y6, y7⟩ := hC5.cells8
    obtain ⟨f, hf⟩ : ∃ f : Nat, t / 8 = f := ⟨_, rfl⟩
    go_wp2_with fail
    refine (Of_calls base w5 gm L 14 k 3 8 _ _ hM5 (L : Int) 2 8 10 4 14 16 (chunks : Int) (16 + 16 * (k : Int) + (t : Int)) (k : Int) (by omega) (by omega) (by omega) (by omega) (by omega) (by omega) (by omega) (by omega) (by omega) (by omega) (by omega) (by omega) (by omega) (by omega) (by rw [upd_self]; simp; omega) (by rw [upd_self, List.nil_append]; simp [sh]) (by omega) rfl).mono ?_
    rintro e w6 ⟨rfl, hb6⟩
    have hfe : 16 + 16 * (k : Int) + (t : Int) - (16 + 16 * (k : Int) + (t : Int) - 16) % ((8 : Nat) : Int) = 16 + 16 * (k : Int) + (f:Int)*8 := by omega
    rw [hfe]
    clear hfe
    have hC6 := hC5.below hb6 hC5.lt
    have hB6 := hB5.trans (hb6.mono hB5.size)
    clear hC5 hB5 hb6 y0 y1 y2 y3 y4 y5 y6 y7 ll hM5 hb5
    have ll := hC6.lt
    obtain ⟨y0, y1, y2, y3, y4, y5, y6, y7⟩ := hC6.cells8
    go_wp2_with fail
    refine (starts3 w6 (L : Int) 2 8 10 4 14 16 chunks k hk (by omega) (by omega) (by omega)).mono ?_
    rintro e w7 ⟨A, cp, rfl, hI, hb7⟩
    have hC7 := hC6.below hb7 hC6.lt
    have hB7 := hB6.trans (hb7.mono hB6.size)
    clear hC6 hB6 hb7 y0 y1 y2 y3 y4 y5 y6 y7 ll hc5 hte
    have hzg : ∀ j : Nat, j < 2 → ((chunkSpots 16 k 3).map (·.1))[j]? = some (16 + 16 * (k : Int) + (j:Int)*8) := fun j hj => by rw [chunk_get 16 k 3 j hj]; simp
    have hzl : ((chunkSpots 16 k 3).map (·.1)).length = 2 := by rw [List.length_map]; exact spotsN_length _ _ _ _
    generalize (chunkSpots 16 k 3).map (·.1) = zs at *
    rw [hzl]
    rw [hzl] at hI
    have hf1 : 16 + 16 * (k : Int) + (f:Int)*8 ≤ 16 + 16 * (k : Int) + (t : Int) := by omega
    have hf2 : 16 + 16 * (k : Int) + (t : Int) < 16 + 16 * (k : Int) + (f:Int)*8 + 8 := by omega
    have hfm : f < 2 := by omega
    have HG := Lib.hid hzg
    have HL := Lib.hid hzl
    clear hzg hzl hf
    go_wp2_with fail
    go_loopw [20, 21] (fun n i wr => CovRel w gL #[.int .i64 (L : Int), .int .i64 2, .int .i64 8, .int .i64 10, .int .i64 4, .int .i64 14, .int .i64 16, .int .i64 (chunks : Int)] (.slice A 2 cp) zs f 2 n i wr) (fun _ i _ => 2 - (intOf i).toNat)
    case atStart => exact ⟨0, by omega, rfl, by simp, hI, hC7, hB7⟩
    case round =>
      clear hI hC7 hB7
      obtain ⟨j, hj, rfl, rfl, hI, hC, hb⟩ := hrel
      have ll := hC.lt
      by_cases hlt : j < 2
      · have y6 := hC.cell 6
        simp only [List.getElem?_toArray, List.getElem?_cons_succ, List.getElem?_cons_zero] at y6
        obtain ⟨A1, c1, hv, _, hcell⟩ := hI.at_
        rw [HL.out] at hv hcell
        injection hv with e1 _ e3
        obtain ⟨b, o, hA, hbl, hc⟩ := hcell j hlt
        rw [hA] at e1
        subst e1
        have d0 := hc _ (HG.out j hlt)
        clear hcell hc hA e3
        have n1 : (if f < j + 1 then (1 : Int) else 0) = (if f < j then (1 : Int) else 0) + (if j = f then 1 else 0) := by
          repeat' split
          all_goals first | rfl | omega
        have N1 := Lib.hid n1
        clear n1
        by_cases hjf : j = f
        · have n2 : (if f < j then (1 : Int) else 0) = 0 := if_neg (by omega)
          rw [n2] at N1 ⊢
          rw [if_pos hjf] at N1
          have b1 : ((16 + 16 * (k : Int) + (j:Int)*8 : Int) == 16 + 16 * (k : Int) + (f:Int)*8) = true := by simp [hjf]
          clear hjf
          go_wp2_with fail
          go_quiet (fail)
          go_wp2_with fail
          go_roundw
          case rel => exact ⟨j + 1, by omega, by go_num, by rw [N1.out]; rfl, hI.below (by (repeat (first | with_reducible exact Below.refl _ _ | with_reducible assumption | with_reducible refine below_drewN ?_ _ | with_reducible refine Below.drew ?_ | with_reducible refine Below.alloc ?_ (by first | omega | (simp; omega) | simp) _ | with_reducible refine Below.setCell ?_ (by first | omega | (simp; omega) | simp) _))), hC.drewN _, by (repeat (first | with_reducible exact Below.refl _ _ | with_reducible assumption | with_reducible refine below_drewN ?_ _ | with_reducible refine Below.drew ?_ | with_reducible refine Below.alloc ?_ (by first | omega | (simp; omega) | simp) _ | with_reducible refine Below.setCell ?_ (by first | omega | (simp; omega) | simp) _))⟩
          case measure => simp [intOf]; omega
        · have b1 : ((16 + 16 * (k : Int) + (j:Int)*8 : Int) == 16 + 16 * (k : Int) + (f:Int)*8) = false := by simp; omega
          rw [if_neg hjf, Int.add_zero] at N1
          generalize (if f < j then (1 : Int) else 0) = q at *
          go_wp2_with fail
          go_quiet (fail)
          go_wp2_with fail
          go_roundw
          case rel => exact ⟨j + 1, by omega, by go_num, by rw [N1.out], hI.below (by (repeat (first | with_reducible exact Below.refl _ _ | with_reducible assumption | with_reducible refine below_drewN ?_ _ | with_reducible refine Below.drew ?_ | with_reducible refine Below.alloc ?_ (by first | omega | (simp; omega) | simp) _ | with_reducible refine Below.setCell ?_ (by first | omega | (simp; omega) | simp) _))), hC.drewN _, by (repeat (first | with_reducible exact Below.refl _ _ | with_reducible assumption | with_reducible refine below_drewN ?_ _ | with_reducible refine Below.drew ?_ | with_reducible refine Below.alloc ?_ (by first | omega | (simp; omega) | simp) _ | with_reducible refine Below.setCell ?_ (by first | omega | (simp; omega) | simp) _))⟩
          case measure => simp [intOf]; omega
      · obtain rfl : j = 2 := by omega
        rw [if_pos hfm]
        go_wp2_with fail
        go_ret
        exact ⟨rfl, hb⟩
set_option maxRecDepth 100000 in
set_option maxHeartbeats 400000 in
theorem cover4 (w : World) (n ch c ln : Nat) (hn : n < 256) (hch : ch < 256) (hc : c < 256) (hln : ln < 256) (hc5 : (c : Int) % 5 = 4) (hd : Hd w) (hp : Pt w) :
    Calls Tryd.prog 6 #[.int .u8 (n : Int), .int .u8 (ch : Int), .int .u8 (c : Int), .int .u8 (ln : Int)] w fun e w' => e = .returned (.bool true) ∧ Below w.heap.size w w' := by
  obtain ⟨L, hL⟩ : ∃ L : Nat, 64 + n % 40 = L := ⟨_, rfl⟩
  have hLe : 64 + (n : Int) % 40 = (L : Int) := by omega
  have hL1 : 64 ≤ L := by omega
  have hL2 : L ≤ 103 := by omega
  clear hL
  go_enter Tryd.func6, Tryd.ntmps6
  go_wp2_with fail
  refine (sanity_calls _ hd hp).mono ?_
  rintro e w1 ⟨rfl, hB⟩
  clear hd hp
  go_upto_region 3 with (fail)
  clear hLe
  go_wp2_with fail
  refine (plan40 _ L hL1 hL2).mono ?_
  rintro e w2 ⟨rfl, hb⟩
  replace hB := hB.trans (hb.mono hB.size)
  clear hb
  obtain ⟨chunks, hK⟩ : ∃ chunks, L / 16 - 1 = chunks := ⟨_, rfl⟩
  rw [hK]
  have hK3 : chunks = 3 ∨ chunks = 4 ∨ chunks = 5 := by omega
  clear hK
  go_upto_region 4 with (fail)
  generalize hwn : w2.alloc (.cells #[.int .i64 (L : Int), .int .i64 2, .int .i64 8, .int .i64 10, .int .i64 4, .int .i64 14, .int .i64 16, .int .i64 (chunks : Int)] 31) = w3
  have hC : Cl w3 w2.heap.size 31 #[.int .i64 (L : Int), .int .i64 2, .int .i64 8, .int .i64 10, .int .i64 4, .int .i64 14, .int .i64 16, .int .i64 (chunks : Int)] := by rw [← hwn]; exact Cl.new _ _ _
  replace hB : Below w.heap.size w w3 := hB.trans (Below.mono (by rw [← hwn]; (repeat (first | with_reducible exact Below.refl _ _ | with_reducible assumption | with_reducible refine below_drewN ?_ _ | with_reducible refine Below.drew ?_ | with_reducible refine Below.alloc ?_ (by first | omega | (simp; omega) | simp) _ | with_reducible refine Below.setCell ?_ (by first | omega | (simp; omega) | simp) _))) hB.size)
  clear hwn
  generalize w2.heap.size = gL at *
  go_wp2_with fail
  refine (new_calls _ L (by omega) (by omega)).mono ?_
  rintro e w4 ⟨gm, rfl, hM, hb⟩
  replace hC := hC.below hb hC.lt
  have hbase : w3.heap.size ≤ w4.heap.size := hb.size
  have hwb : w.heap.size ≤ w3.heap.size := hB.size
  replace hB := hB.trans (hb.mono hB.size)
  clear hb
  generalize w3.heap.size = base at *
  go_upto_region 7 with (fail)
  go_cut [14] (fun s wx => ∃ k : Nat, k < chunks ∧ s = .int .i64 (k : Int) ∧ w4 = wx)
  case first =>
    have ll := hC.lt
    obtain ⟨y0, y1, y2, y3, y4, y5, y6, y7⟩ := hC.cells8
    rcases hK3 with rfl | rfl | rfl
    · go_wp2_with fail
      go_meet
      exact ⟨ch % 3, by omega, by simp, rfl⟩
    · go_wp2_with fail
      go_meet
      exact ⟨ch % 4, by omega, by simp, rfl⟩
    · go_wp2_with fail
      go_meet
      exact ⟨ch % 5, by omega, by simp, rfl⟩
  case rest =>
    obtain ⟨k, hk, rfl, hw4⟩ := hcut
    subst hw4
    have hk8 : chunks ≤ 5 := by omega
    clear hK3
    have ll := hC.lt
    obtain ⟨y0, y1, y2, y3, y4, y5, y6, y7⟩ := hC.cells8
    obtain ⟨t, ht⟩ : ∃ t : Nat, ln % 16 = t := ⟨_, rfl⟩
    have hte : (ln : Int) % 16 = (t : Int) := by omega
    have ht16 : t < 16 := by omega
    clear ht
    go_wp2_with fail
    refine (store_calls base w4 gm L 14 k (112 + (k : Int)) 5 (fun _ => []) 0 hM (by omega) (by omega) (by omega) (by omega) (by omega) (by omega) (by omega) (by omega) (by simp) hbase).mono ?_
    rintro e w5 ⟨rfl, hM5, hg5⟩
    have hC5 := hg5.cl hC (by decide)
    have hB5 := hg5.below hB (by have := hB.size; omega) hwb
    have hb5 : base ≤ w5.heap.size := Nat.le_trans hbase hg5.size
    clear hM hg5 hC hB y0 y1 y2 y3 y4 y5 y6 y7 ll hbase
    have ll := hC5.lt
    obtain ⟨y0, y1, y2, y3, y4, y5, y6, y7⟩ := hC5.cells8
    obtain ⟨f, hf⟩ : ∃ f : Nat, t / 16 = f := ⟨_, rfl⟩
    go_wp2_with fail
    refine (Of_calls base w5 gm L 14 k 4 16 _ _ hM5 (L : Int) 2 8 10 4 14 16 (chunks : Int) (16 + 16 * (k : Int) + (t : Int)) (k : Int) (by omega) (by omega) (by omega) (by omega) (by omega) (by omega) (by omega) (by omega) (by omega) (by omega) (by omega) (by omega) (by omega) (by omega) (by rw [upd_self]; simp; omega) (by rw [upd_self, List.nil_append]; simp [sh]) (by omega) rfl).mono ?_
    rintro e w6 ⟨rfl, hb6⟩
    have hfe : 16 + 16 * (k : Int) + (t : Int) - (16 + 16 * (k : Int) + (t : Int) - 16) % ((16 : Nat) : Int) = 16 + 16 * (k : Int) + (f:Int)*16 := by omega
    rw [hfe]
    clear hfe
    have hC6 := hC5.below hb6 hC5.lt
    have hB6 := hB5.trans (hb6.mono hB5.size)
    clear hC5 hB5 hb6 y0 y1 y2 y3 y4 y5 y6 y7 ll hM5 hb5
    have ll := hC6.lt
    obtain ⟨y0, y1, y2, y3, y4, y5, y6, y7⟩ := hC6.cells8
    go_wp2_with fail
    refine (starts4 w6 (L : Int) 2 8 10 4 14 16 chunks k hk (by omega) (by omega) (by omega)).mono ?_
    rintro e w7 ⟨A, cp, rfl, hI, hb7⟩
    have hC7 := hC6.below hb7 hC6.lt
    have hB7 := hB6.trans (hb7.mono hB6.size)
    clear hC6 hB6 hb7 y0 y1 y2 y3 y4 y5 y6 y7 ll hc5 hte
    have hzg : ∀ j : Nat, j < 1 → ((chunkSpots 16 k 4).map (·.1))[j]? = some (16 + 16 * (k : Int) + (j:Int)*16) := fun j hj => by rw [chunk_get 16 k 4 j hj]; simp
    have hzl : ((chunkSpots 16 k 4).map (·.1)).length = 1 := by rw [List.length_map]; exact spotsN_length _ _ _ _
    generalize (chunkSpots 16 k 4).map (·.1) = zs at *
    rw [hzl]
    rw [hzl] at hI
    have hf1 : 16 + 16 * (k : Int) + (f:Int)*16 ≤ 16 + 16 * (k : Int) + (t : Int) := by omega
    have hf2 : 16 + 16 * (k : Int) + (t : Int) < 16 + 16 * (k : Int) + (f:Int)*16 + 16 := by omega
    have hfm : f < 1 := by omega
    have HG := Lib.hid hzg
    have HL := Lib.hid hzl
    clear hzg hzl hf
    go_wp2_with fail
    go_loopw [20, 21] (fun n i wr => CovRel w gL #[.int .i64 (L : Int), .int .i64 2, .int .i64 8, .int .i64 10, .int .i64 4, .int .i64 14, .int .i64 16, .int .i64 (chunks : Int)] (.slice A 1 cp) zs f 1 n i wr) (fun _ i _ => 1 - (intOf i).toNat)
    case atStart => exact ⟨0, by omega, rfl, by simp, hI, hC7, hB7⟩
    case round =>
      clear hI hC7 hB7
      obtain ⟨j, hj, rfl, rfl, hI, hC, hb⟩ := hrel
      have ll := hC.lt
      by_cases hlt : j < 1
      · have y6 := hC.cell 6
        simp only [List.getElem?_toArray, List.getElem?_cons_succ, List.getElem?_cons_zero] at y6
        obtain ⟨A1, c1, hv, _, hcell⟩ := hI.at_
        rw [HL.out] at hv hcell
        injection hv with e1 _ e3
        obtain ⟨b, o, hA, hbl, hc⟩ := hcell j hlt
        rw [hA] at e1
        subst e1
        have d0 := hc _ (HG.out j hlt)
        clear hcell hc hA e3
        have n1 : (if f < j + 1 then (1 : Int) else 0) = (if f < j then (1 : Int) else 0) + (if j = f then 1 else 0) := by
          repeat' split
          all_goals first | rfl | omega
        have N1 := Lib.hid n1
        clear n1
        by_cases hjf : j = f
        · have n2 : (if f < j then (1 : Int) else 0) = 0 := if_neg (by omega)
          rw [n2] at N1 ⊢
          rw [if_pos hjf] at N1
          have b1 : ((16 + 16 * (k : Int) + (j:Int)*16 : Int) == 16 + 16 * (k : Int) + (f:Int)*16) = true := by simp [hjf]
          clear hjf
          go_wp2_with fail
          go_quiet (fail)
          go_wp2_with fail
          go_roundw
          case rel => exact ⟨j + 1, by omega, by go_num, by rw [N1.out]; rfl, hI.below (by (repeat (first | with_reducible exact Below.refl _ _ | with_reducible assumption | with_reducible refine below_drewN ?_ _ | with_reducible refine Below.drew ?_ | with_reducible refine Below.alloc ?_ (by first | omega | (simp; omega) | simp) _ | with_reducible refine Below.setCell ?_ (by first | omega | (simp; omega) | simp) _))), hC.drewN _, by (repeat (first | with_reducible exact Below.refl _ _ | with_reducible assumption | with_reducible refine below_drewN ?_ _ | with_reducible refine Below.drew ?_ | with_reducible refine Below.alloc ?_ (by first | omega | (simp; omega) | simp) _ | with_reducible refine Below.setCell ?_ (by first | omega | (simp; omega) | simp) _))⟩
          case measure => simp [intOf]; omega
        · exact absurd (show j = f by omega) hjf
      · obtain rfl : j = 1 := by omega
        rw [if_pos hfm]
        go_wp2_with fail
        go_ret
        exact ⟨rfl, hb⟩

theorem cover_calls (w : World) (a0 a1 a2 a3 : Int) (h0 : 0 ≤ a0 ∧ a0 ≤ 255) (h1 : 0 ≤ a1 ∧ a1 ≤ 255) (h2 : 0 ≤ a2 ∧ a2 ≤ 255) (h3 : 0 ≤ a3 ∧ a3 ≤ 255) (hd : Hd w) (hp : Pt w) :
    Calls Tryd.prog 6 #[.int .u8 a0, .int .u8 a1, .int .u8 a2, .int .u8 a3] w fun e w' => e = .returned (.bool true) ∧ Below w.heap.size w w' := by
  obtain ⟨n, rfl⟩ := Int.eq_ofNat_of_zero_le h0.1
  obtain ⟨ch, rfl⟩ := Int.eq_ofNat_of_zero_le h1.1
  obtain ⟨c, rfl⟩ := Int.eq_ofNat_of_zero_le h2.1
  obtain ⟨ln, rfl⟩ := Int.eq_ofNat_of_zero_le h3.1
  have h : (c : Int) % 5 = 0 ∨ (c : Int) % 5 = 1 ∨ (c : Int) % 5 = 2 ∨ (c : Int) % 5 = 3 ∨ (c : Int) % 5 = 4 := by omega
  rcases h with h | h | h | h | h
  · exact cover0 w n ch c ln (by omega) (by omega) (by omega) (by omega) h hd hp
  · exact cover1 w n ch c ln (by omega) (by omega) (by omega) (by omega) h hd hp
  · exact cover2 w n ch c ln (by omega) (by omega) (by omega) (by omega) h hd hp
  · exact cover3 w n ch c ln (by omega) (by omega) (by omega) (by omega) h hd hp
  · exact cover4 w n ch c ln (by omega) (by omega) (by omega) (by omega) h hd hp
end Go.Proofs.YtcoeoggoaiebeaaDoor
