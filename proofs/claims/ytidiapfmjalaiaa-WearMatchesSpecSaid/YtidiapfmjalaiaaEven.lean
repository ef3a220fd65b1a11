/-
  even: a picture whose blocks have the same generation.
-/
import Derived.Test.YtidiapfmjalaiaaDue
namespace Go.Proofs.Ytidiapfmjalaiaa
open Go.RowKit

theorem u8_info : (Try.prog.info? 5).map (fun i => (i.zero, i.size, i.bytes)) = some (some (.int .u8 0), 1, 1) := by kernel_rfl
def evenLay : Array Value := #[.int .i64 256, .int .i64 2, .int .i64 16, .int .i64 18, .int .i64 8, .int .i64 26, .int .i64 32, .int .i64 14]
def EvenRel (w : World) (gl g n : Nat) (i : Value) (wr : World) : Prop :=
  ∃ (k : Nat) (cur : Array Value), k ≤ n ∧ i = .int .i64 k ∧ Cl wr g 5 cur ∧ cur.size = n ∧ (∀ j, j < k → cur[j]? = some (.int .u8 4)) ∧ Cl wr gl 60 evenLay ∧
    Cl wr w.heap.size 31 #[.slice none 0 0, .slice none 0 0, .slice none 0 0] ∧ Below w.heap.size w wr

theorem pic14 (w : World) (l0 l1 l2 l3 l4 l5 : Int) (cv rv : Value) (cls : List Nat) (rs : List (Nat × Nat)) (more : Nat)
    (hc : RdN w 1 cv cls.length (u8s cls)) (hr : RdN w 2 rv rs.length (rawCells rs)) (hcl : cls.length ≤ 100000) (hrl : rs.length ≤ 100000) (hm : more ≤ 1048575)
    (hc8 : ∀ c ∈ cls, c < 256) (hr8 : ∀ r ∈ rs, r.1 < 256 ∧ r.2 < 65536) :
    Calls Try.prog 29 #[.agg #[.int .i64 l0, .int .i64 l1, .int .i64 l2, .int .i64 l3, .int .i64 l4, .int .i64 l5, .int .i64 32, .int .i64 14], cv, rv, .int .i64 (more : Int)] w
      (PicOwn w (picC cls 14) (picB 32 cls rs more 14) []) := picture_calls w l0 l1 l2 l3 l4 l5 32 14 cv rv cls rs more hc hr (by omega) (by omega) (by omega) hcl hrl hm hc8 hr8

set_option maxHeartbeats 1000000 in
theorem even_calls (w : World) (n g : Nat) (h1 : 1 ≤ n) (h2 : n ≤ 12) (hg : g ≤ 100000) :
    Calls Try.prog 24 #[.int .i64 (n : Int), .int .i64 (g : Int)] w (PicOwn w (picC (List.replicate n 4) 14) (picB 32 (List.replicate n 4) [(0, 0)] g 14) []) := by
  obtain ⟨j0, hj0, hy0, hy1, hy2⟩ := info_parts u8_info
  go_enter Try.func24, Try.ntmps24
  go_wp2_with fail
  refine (plan_calls _ 256 (by omega) (by omega)).mono ?_
  rintro e w1 ⟨rfl, hb1⟩
  have e1 : planLogs ((256 : Nat) : Int) = 16 := by decide
  have e2 : planIntents ((256 : Nat) : Int) = 8 := by decide
  have e3 : upTo16 (planStart ((256 : Nat) : Int) 16 8) = 32 := by decide
  rw [e1, e2, e3]
  rw [show (2 : Int) + 16 = 18 from rfl, show (18 : Int) + 8 = 26 from rfl, show (((256 : Nat) : Int) - 32) / 16 = 14 from rfl, show ((256 : Nat) : Int) = 256 from rfl]
  clear e1 e2 e3
  have hZ := (Cl.new w 31 #[.slice none 0 0, .slice none 0 0, .slice none 0 0]).below hb1 (by simp)
  have hB : Below w.heap.size w w1 := Below.trans (by (repeat (first | with_reducible exact Below.refl _ _ | with_reducible assumption | with_reducible refine below_drewN ?_ _ | with_reducible refine Below.drew ?_ | with_reducible refine Below.alloc ?_ (by first | omega | (simp; omega) | simp) _ | with_reducible refine Below.setCell ?_ (by first | omega | (simp; omega) | simp) _))) (hb1.mono (by simp))
  have hs := hZ.lt
  clear hb1
  go_wp2_with (at_make; refine wpList_make_full _ rfl _ _ 22 rfl (w1.heap.size + 1) 5 j0 (.int .u8 0) 1 Try.underlying22 hj0 hy0 hy1 _ _ _ _ n rfl rfl rfl rfl (by rw [hy2]; omega) (by unfold maxLen; omega) (by simp) ?_; intro w2 hown2 hg2)
  obtain ⟨cur, hcur, hcs⟩ : ∃ cur, Cl w2 (w1.heap.size + 1) 5 cur ∧ cur.size = n := by
    rcases hown2.2 with ⟨h, _⟩ | ⟨g', cap, cur, hv, _, hh, _, _, hsz, _⟩
    · cases h
    · injection hv with hA _ hc
      injection hA with hA
      injection hA with hA
      subst hA
      subst hc
      exact ⟨cur, by unfold Cl; simpa using hh, by simpa using hsz⟩
  have hL2 := (Cl.new w1 60 evenLay).grown hg2 (by simp)
  have hZ2 := (hZ.alloc (.cells evenLay 60)).grown hg2 (by simp)
  have hB2 : Below w.heap.size w w2 := Below.grown (show Below w.heap.size w (w1.alloc (.cells evenLay 60)) by (repeat (first | with_reducible exact Below.refl _ _ | with_reducible assumption | with_reducible refine below_drewN ?_ _ | with_reducible refine Below.drew ?_ | with_reducible refine Below.alloc ?_ (by first | omega | (simp; omega) | simp) _ | with_reducible refine Below.setCell ?_ (by first | omega | (simp; omega) | simp) _))) hg2 (by simp; omega) (by simp)
  clear hown2 hg2 hZ hB
  go_loopw [8] (fun i wr => EvenRel w w1.heap.size (w1.heap.size + 1) n i wr) (fun i _ => n - (intOf i).toNat)
  case atStart => exact ⟨0, cur, Nat.zero_le _, rfl, hcur, hcs, by omega, hL2, hZ2, hB2⟩
  case round =>
    clear hcur hcs hL2 hZ2 hB2
    obtain ⟨k, cur, hk, rfl, hC, hcs, hall, hL, hZ, hb⟩ := hrel
    have hs1 := hC.lt
    have hs2 := hL.lt
    have hs3 := hZ.lt
    by_cases hlt : k < n
    · have hcell : ∃ u, cur[k]? = some u := ⟨_, Array.getElem?_eq_getElem (by omega)⟩
      obtain ⟨u, hu⟩ := hcell
      have d0 := (hC.cell k).trans hu
      have f0 := hC.free k
      have HA := Lib.hid hall
      have HS := Lib.hid hcs
      clear hall hu hcs
      go_wp2_with fail
      go_roundw
      case rel =>
        refine ⟨k + 1, _, by omega, by go_num, hC.set_ k _, by rw [Array.size_setIfInBounds]; exact HS.out, fun j hj => ?_, by (repeat (first | with_reducible assumption | with_reducible refine Cl.drewN ?_ _ | with_reducible refine Cl.drew ?_ | with_reducible refine Cl.alloc ?_ _ | with_reducible refine Cl.far ?_ (by first | with_reducible assumption | omega | (simp; omega) | simp) _)), by (repeat (first | with_reducible assumption | with_reducible refine Cl.drewN ?_ _ | with_reducible refine Cl.drew ?_ | with_reducible refine Cl.alloc ?_ _ | with_reducible refine Cl.far ?_ (by first | with_reducible assumption | omega | (simp; omega) | simp) _)), by (repeat (first | with_reducible exact Below.refl _ _ | with_reducible assumption | with_reducible refine below_drewN ?_ _ | with_reducible refine Below.drew ?_ | with_reducible refine Below.alloc ?_ (by first | omega | (simp; omega) | simp) _ | with_reducible refine Below.setCell ?_ (by first | omega | (simp; omega) | simp) _))⟩
        by_cases hjk : j = k
        · subst hjk
          rw [Array.getElem?_setIfInBounds_self_of_lt (by have := HS.out; omega)]
        · rw [Array.getElem?_setIfInBounds_ne (Ne.symm hjk)]
          exact HA.out j (by omega)
      case measure => simp [intOf]; omega
    · obtain rfl : k = n := by omega
      obtain ⟨y0, y1, y2, y3, y4, y5, y6, y7⟩ := Cl.cells8 (show Cl wr w1.heap.size 60 #[.int .i64 256, .int .i64 2, .int .i64 16, .int .i64 18, .int .i64 8, .int .i64 26, .int .i64 32, .int .i64 14] from hL)
      have hcl : RdN wr 1 (.slice (some ⟨w1.heap.size + 1, 0, none⟩) k k) (List.replicate k 4).length (u8s (List.replicate k 4)) := by
        refine ⟨by simp [u8s], _, k, by simp, by simp, fun _ => ⟨_, 0, rfl, hC.lt, fun j u hu => ?_⟩⟩
        have hj : j < k := by have := (List.getElem?_eq_some_iff.1 hu).1; simpa [u8s] using this
        rw [u8s_get _ j 4 (by simp [hj])] at hu
        injection hu with hu
        subst hu
        rw [Nat.zero_add, hC.cell]
        exact hall j hj
      have HC := Lib.hid hcl
      clear hall hcl hcs
      go_wp2_with fail
      refine (pic14 _ _ _ _ _ _ _ _ _ (List.replicate k 4) [(0, 0)] g (HC.out.below (by (repeat (first | with_reducible exact Below.refl _ _ | with_reducible assumption | with_reducible refine below_drewN ?_ _ | with_reducible refine Below.drew ?_ | with_reducible refine Below.alloc ?_ (by first | omega | (simp; omega) | simp) _ | with_reducible refine Below.setCell ?_ (by first | omega | (simp; omega) | simp) _)))) ?_ (by simp; omega) (by simp) (by omega) (by intro c hc; rw [List.eq_of_mem_replicate hc]; omega) (by simp)).mono ?_
      · refine ⟨rfl, _, 1, rfl, Nat.le_refl _, fun _ => ⟨wr.heap.size, 0, rfl, by simp, fun j u hu => ?_⟩⟩
        rw [Nat.zero_add, (Cl.new wr 77 #[.int .u8 0, .int .u16 0]).cell]
        simpa [rawCells] using hu
      rintro e w3 ⟨ch, bl, bd, rfl, hc3, hb3, hd3, hbb⟩
      obtain ⟨A1, c1, rfl⟩ := Rd.form hc3
      obtain ⟨A2, c2, rfl⟩ := Rd.form (Rd.own hb3)
      obtain ⟨A3, c3, rfl⟩ := Rd.form hd3
      have hZ3 := (hZ.alloc (.cells #[.int .u8 0, .int .u16 0] 77)).below hbb (by simp; omega)
      have hB3 : Below w.heap.size w w3 := Below.trans (show Below w.heap.size w (wr.alloc (.cells #[.int .u8 0, .int .u16 0] 77)) by (repeat (first | with_reducible exact Below.refl _ _ | with_reducible assumption | with_reducible refine below_drewN ?_ _ | with_reducible refine Below.drew ?_ | with_reducible refine Below.alloc ?_ (by first | omega | (simp; omega) | simp) _ | with_reducible refine Below.setCell ?_ (by first | omega | (simp; omega) | simp) _))) (hbb.mono (by simp; omega))
      obtain ⟨⟨z0, z1, z2⟩, z3, z4, z5⟩ := hZ3.has3
      clear hbb HC hC hL hZ hb y0 y1 y2 y3 y4 y5 y6 y7
      go_wp2_with fail
      refine bodyPost_ret (v := .agg #[.slice A1 (picC (List.replicate k 4) 14).length c1, .slice A2 (picB 32 (List.replicate k 4) [(0, 0)] g 14).length c2, .slice A3 0 c3]) ?_ rfl ⟨_, _, _, rfl, hc3.far3 hZ3 (by decide) _ _ _, own_base (own_far3 hb3 hZ3 (by decide) _ _ _) (by simp; omega), hd3.far3 hZ3 (by decide) _ _ _, by (repeat (first | with_reducible exact Below.refl _ _ | with_reducible assumption | with_reducible refine below_drewN ?_ _ | with_reducible refine Below.drew ?_ | with_reducible refine Below.alloc ?_ (by first | omega | (simp; omega) | simp) _ | with_reducible refine Below.setCell ?_ (by first | omega | (simp; omega) | simp) _))⟩
      simp [results, Try.results24, go_sem, *]
end Go.Proofs.Ytidiapfmjalaiaa
