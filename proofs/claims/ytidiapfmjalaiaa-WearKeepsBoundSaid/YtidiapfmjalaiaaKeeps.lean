/-
  WearKeepsBound returns true, whatever its arguments.
-/
import Derived.Test.YtidiapfmjalaiaaIsEven
import Derived.Test.YtidiapfmjalaiaaBoundLaw
import Derived.Deep.RegionHeld3
import Derived.Deep.DeepCutAuto
import Derived.StillTailTactics
namespace Go.Proofs.Ytidiapfmjalaiaa
open Go.RowKit

theorem Rd.row {w : World} {e : TypeId} {size n g : Nat} {v : Value} {xs : List Value} {bs : List Bk} (h : Rd w e size v n xs) (hr : RowB w g bs) (hne : e ≠ 25) (i : Nat) (u : Value) : Rd (w.setCell ⟨g, i, none⟩ u) e size v n xs := by
  obtain ⟨cur, hc, _⟩ := hr
  exact Rd.far h hc hne i u

def treeF (b : Bk) : Bk := (b.line, b.cls, 4, b.gen)
def KeepRel1 (w : World) (gx gb cnt cap : Nat) (A1 A3 : Option Addr) (c1 c3 : Nat) (cs : List Int) (bs : List Bk) (i : Value) (wr : World) : Prop :=
  ∃ k : Nat, k ≤ cnt ∧ i = .int .i64 k ∧ Cl wr gx 31 #[.slice A1 cs.length c1, .slice (some ⟨gb, 0, none⟩) bs.length cap, .slice A3 0 c3] ∧ RdI wr (.slice A1 cs.length c1) cs ∧ RowB wr gb (part treeF bs k) ∧ RdI wr (.slice A3 0 c3) [] ∧ Below w.heap.size w wr
def KeepRel2 (w : World) (gx g n : Nat) (cs : List Int) (steps : Nat) (i : Value) (wr : World) : Prop :=
  ∃ (k : Nat) (M : Int) (bs : List Bk), k ≤ steps ∧ i = .int .i64 k ∧ Pic wr gx cs bs [] ∧ Binv bs M ∧ M ≤ 1 + g + 2 * k ∧ bs.length = n ∧ Below w.heap.size w wr
def KeepRel3 (w : World) (gx n : Nat) (cs : List Int) (mv : Value) (ms : List (Bk × Bk)) (M : Int) (i : Value) (wr : World) : Prop :=
  ∃ (j : Nat) (M' : Int) (bs : List Bk), j ≤ ms.length ∧ i = .int .i64 j ∧ Pic wr gx cs bs [] ∧ RdM wr mv ms ∧ movesB (400 - j) bs 4 = ms.drop j ∧ Jinv bs M' ∧ M' ≤ M + 1 ∧ (0 < j → Kinv bs M') ∧ (j = 0 → M' = M) ∧ bs.length = n ∧ Below w.heap.size w wr

theorem mvsCells_get (ms : List (Bk × Bk)) (k j : Nat) (hj : j < 8) : (mvsCells ms)[k * 8 + j]? = (ms[k]?).bind (fun m => (mvCells m)[j]?) := by
  induction ms generalizing k with
  | nil => simp [mvsCells]
  | cons m ms ih =>
    cases k with
    | zero =>
      simp only [mvsCells, List.flatMap_cons, List.getElem?_cons_zero, Option.bind_some, Nat.zero_mul, Nat.zero_add]
      rw [List.getElem?_append_left (by simpa [mvCells, bkCells] using hj)]
    | succ k =>
      have := ih k
      simp only [mvsCells, List.flatMap_cons, List.getElem?_cons_succ] at this ⊢
      rw [List.getElem?_append_right (by simp [mvCells, bkCells]; omega)]
      rw [← this]
      congr 1
      simp [mvCells, bkCells]; omega
theorem RdM.at_ {w : World} {v : Value} {ms : List (Bk × Bk)} (h : RdM w v ms) : ∃ (A : Option Addr) (c : Nat), v = .slice A ms.length c ∧ ms.length ≤ c ∧
    (∀ k, k < ms.length → ∃ b o, A = some ⟨b, o, none⟩ ∧ b < w.heap.size ∧ ∀ f t, ms[k]? = some (f, t) →
      w.cell? ⟨b, o + k * 8, none⟩ = some (.int .i64 f.line) ∧ w.cell? ⟨b, o + k * 8 + 1, none⟩ = some (.int .i64 f.cls) ∧ w.cell? ⟨b, o + k * 8 + 2, none⟩ = some (.int .i64 f.kind) ∧ w.cell? ⟨b, o + k * 8 + 3, none⟩ = some (.int .i64 f.gen) ∧
      w.cell? ⟨b, o + k * 8 + 4, none⟩ = some (.int .i64 t.line) ∧ w.cell? ⟨b, o + k * 8 + 5, none⟩ = some (.int .i64 t.cls) ∧ w.cell? ⟨b, o + k * 8 + 6, none⟩ = some (.int .i64 t.kind) ∧ w.cell? ⟨b, o + k * 8 + 7, none⟩ = some (.int .i64 t.gen)) := by
  obtain ⟨_, A, c, hv, hc, _, _, h2⟩ := h
  refine ⟨A, c, hv, hc, fun k hk => ?_⟩
  obtain ⟨b, o, cur, fr, hA, hh, hcell⟩ := h2 (by omega)
  refine ⟨b, o, hA, lt_of_heap hh, fun f t hx => ?_⟩
  have g : ∀ j, j < 8 → ∀ u, (mvCells (f, t))[j]? = some u → w.cell? ⟨b, o + k * 8 + j, none⟩ = some u := fun j hj u hu => by
    rw [Nat.add_assoc, cell_of_row w b _ cur _ fr hh]
    exact hcell _ u (by rw [mvsCells_get ms k j hj, hx]; exact hu)
  exact ⟨g 0 (by omega) _ rfl, g 1 (by omega) _ rfl, g 2 (by omega) _ rfl, g 3 (by omega) _ rfl, g 4 (by omega) _ rfl, g 5 (by omega) _ rfl, g 6 (by omega) _ rfl, g 7 (by omega) _ rfl⟩

/-- The picture in which the next block is taken, if there is one. -/
def takenB (bs : List Bk) : List Bk := match nextB bs 4 with | none => bs | some n => bs.map (takenF n)
theorem taken_any (w : World) (ch bl bd : Value) (cs : List Int) (bs : List Bk) (ds : List Int) (hC : RdI w ch cs) (hR : RdB w bl bs) (hD : RdI w bd ds) (hn : bs.length ≤ 1000) (hg : GenOk 2000000 bs) :
    Calls Try.prog 25 #[.agg #[ch, bl, bd], .int .i64 4] w (PicB w cs (takenB bs) ds (nextB bs 4).isSome) := by
  cases h : nextB bs 4 with
  | none =>
    have e : takenB bs = bs := by simp [takenB, h]
    rw [e]
    exact taken_none w ch bl bd cs bs ds 4 hC hR hD hn h
  | some n =>
    have e : takenB bs = bs.map (takenF n) := by simp [takenB, h]
    rw [e]
    exact taken_some w ch bl bd cs bs ds 4 n hC hR hD hn hg h
theorem takenB_length (bs : List Bk) : (takenB bs).length = bs.length := by unfold takenB; split <;> simp
theorem Binv.gen {bs : List Bk} {M : Int} (h : Binv bs M) (hM : M ≤ 2000000) : GenOk 2000000 bs := fun b hb => by have := h.2.1 b hb; omega
theorem Jinv.gen {bs : List Bk} {M : Int} (h : Jinv bs M) (hM : M ≤ 2000000) : GenOk 2000000 bs := fun b hb => by have := h.2.1 b hb; omega

theorem moves_drop {n j : Nat} {bs : List Bk} {ms : List (Bk × Bk)} (h : movesB (n - j) bs 4 = ms.drop j) (hj : j < ms.length) (hn : ms.length ≤ n) : ∃ f t, ms[j]? = some (f, t) ∧ moveOf bs 4 = some (f, t) ∧ movesB (n - (j + 1)) (afterB bs f t) 4 = ms.drop (j + 1) := by
  rw [List.drop_eq_getElem_cons hj, show n - j = n - (j + 1) + 1 by omega] at h
  cases hm : moveOf bs 4 with
  | none => rw [movesB_none hm] at h; cases h
  | some m =>
    obtain ⟨f, t⟩ := m
    rw [movesB_some hm] at h
    injection h with h1 h2
    exact ⟨f, t, by rw [List.getElem?_eq_getElem hj, ← h1], rfl, h2⟩
theorem moves_end {n : Nat} {bs : List Bk} (h : movesB n bs 4 = []) (hn : 0 < n) : moveOf bs 4 = none := by
  cases hm : moveOf bs 4 with
  | none => rfl
  | some m =>
    obtain ⟨f, t⟩ := m
    rw [show n = n - 1 + 1 by omega, movesB_some hm] at h
    cases h

theorem tree_start {n g cnt : Nat} (h1 : 1 ≤ n) (hn : n ≤ 12) (hg : g ≤ 70000) : Binv (part treeF (picB 32 (List.replicate n 4) [(0, 0)] g 14) cnt) g ∧ (picB 32 (List.replicate n 4) [(0, 0)] g 14).length = n := by
  obtain ⟨h2, h3⟩ := even_pic n g (by omega) 14
  have hl : (picB 32 (List.replicate n 4) [(0, 0)] g 14).length = n := by omega
  refine ⟨bstart ?_ (by omega) ?_, hl⟩
  · intro he
    have := part_length treeF (picB 32 (List.replicate n 4) [(0, 0)] g 14) cnt
    rw [he] at this
    simp at this
    omega
  · intro b hb
    simp only [part, List.mem_append, List.mem_map] at hb
    rcases hb with ⟨a, ha, rfl⟩ | hb
    · have := h2 a (List.mem_of_mem_take (by simpa using ha))
      exact ⟨this.1, this.2.2⟩
    · have := h2 b (List.mem_of_mem_drop hb)
      exact ⟨this.1, this.2.2⟩

set_option maxRecDepth 100000 in
set_option maxHeartbeats 8000000 in
theorem keeps_calls (w : World) (a u g : Nat) (sv : Value) (st : List Nat) (ha : a < 256) (hu : u < 256) (hg : g < 65536) (hS : RdN w 1 sv st.length (u8s st)) (hsl : st.length ≤ 9223372036854775807) (hs8 : ∀ x ∈ st, x < 256) :
    Calls Try.prog 4 #[.int .u8 (a : Int), .int .u8 (u : Int), .int .u16 (g : Int), sv] w (SanePost w) := by
  obtain ⟨_, As, cs0, rfl, hsc, hscell⟩ := hS
  by_cases h200 : 200 < st.length
  · go_enter Try.func4, Try.ntmps4
    go_wp2_with fail
    refine (sanity_calls _).mono ?_
    rintro e w1 ⟨rfl, hb1⟩
    go_wp2_with fail
    go_ret
    exact ⟨rfl, hb1⟩
  · obtain ⟨n, hn⟩ : ∃ n : Nat, n = 1 + a % 12 := ⟨_, rfl⟩
    have e12 : (1 : Int) + (a : Int) % 12 = (n : Int) := by omega
    have hn1 : 1 ≤ n := by omega
    have hn2 : n ≤ 12 := by omega
    clear hn
    obtain ⟨cnt, hcnt⟩ : ∃ cnt : Nat, cnt = u % (n + 1) := ⟨_, rfl⟩
    have ecnt : (u : Int) % ((n : Int) + 1) = (cnt : Int) := by subst hcnt; rfl
    have hcnt2 : cnt ≤ n := by have := Nat.mod_lt u (show 0 < n + 1 by omega); omega
    clear hcnt
    obtain ⟨g1, hg1⟩ : ∃ g1 : Nat, g1 = 1 + g := ⟨_, rfl⟩
    have eg1 : (1 : Int) + (g : Int) = (g1 : Int) := by omega
    have hg1' : g1 ≤ 65536 := by omega
    clear hg1
    obtain ⟨hst, hlen⟩ := tree_start (cnt := cnt) hn1 hn2 (show g1 ≤ 70000 by omega)
    have HST := Lib.hid hst
    have HLEN := Lib.hid hlen
    clear hst hlen
    have hclen : (picC (List.replicate n 4) 14).length = 14 := picC_length _ _
    go_enter Try.func4, Try.ntmps4
    go_wp2_with fail
    refine (even_calls _ n g1 hn1 hn2 (by omega)).mono ?_
    rintro e w1 ⟨ch, bl, bd, rfl, r1, ob, r3, hb1⟩
    have hcl : (picC (List.replicate n 4) 14).length ≤ 1000 := by omega
    clear hclen
    generalize picC (List.replicate n 4) 14 = cs at *
    generalize picB 32 (List.replicate n 4) [(0, 0)] g1 14 = bs0 at *
    have hl0 : bs0.length ≤ 12 := by rw [HLEN.out]; exact hn2
    have hl1 : 1 ≤ bs0.length := by rw [HLEN.out]; exact hn1
    have hl2 : n ≤ bs0.length := by rw [HLEN.out]; omega
    obtain ⟨A1, c1, rfl⟩ := Rd.form r1
    obtain ⟨gb, cap, rfl, hgb, hcap, hmx, hRow⟩ := RowB.own ob (by omega)
    obtain ⟨A3, c3, rfl⟩ := Rd.form r3
    clear ob
    have hs1 := hb1.size
    have hgl := hRow.lt
    go_wp2_with fail
    go_loopw [11] (fun i wr => KeepRel1 w w1.heap.size gb cnt cap A1 A3 c1 c3 cs bs0 i wr) (fun i _ => cnt - (intOf i).toNat)
    case atStart => exact ⟨0, Nat.zero_le _, rfl, Cl.new _ _ _, Rd.alloc r1 _, by rw [part_zero]; exact hRow.alloc _, Rd.alloc r3 _, by (repeat (first | with_reducible exact Below.refl _ _ | with_reducible assumption | with_reducible refine below_drewN ?_ _ | with_reducible refine Below.drew ?_ | with_reducible refine Below.alloc ?_ (by first | omega | (simp; omega) | simp) _ | with_reducible refine Below.setCell ?_ (by first | omega | (simp; omega) | simp) _))⟩
    case round =>
      clear r1 r3 hRow hb1
      obtain ⟨k, hk, rfl, hC, r1, hRow, r3, hb⟩ := hrel
      have hlx := hC.lt
      obtain ⟨⟨x0, x1, x2⟩, -⟩ := hC.has3
      by_cases hlt : k < cnt
      · obtain ⟨x, hx⟩ : ∃ x, bs0[k]? = some x := ⟨_, List.getElem?_eq_getElem (by omega)⟩
        have hx' : (part treeF bs0 k)[k]? = some x := by rw [part_at]; exact hx
        have hE := Lib.hid (part_succ treeF bs0 k x hx)
        obtain ⟨d0, d1, d2, d3⟩ := hRow.cells hx'
        have fr2 := hRow.free (k * 4 + 2)
        have HX := Lib.hid hx'
        have hkl : k < bs0.length := by omega
        have ng := hRow.ne hC (by decide)
        have ng' : w1.heap.size ≠ gb := Ne.symm ng
        clear hx hx'
        go_wp2_with fail
        go_roundw
        case rel => exact ⟨k + 1, by omega, by go_num, by (repeat (first | with_reducible assumption | with_reducible refine Cl.drewN ?_ _ | with_reducible refine Cl.drew ?_ | with_reducible refine Cl.alloc ?_ _ | with_reducible refine Cl.far ?_ (by first | with_reducible assumption | omega | (simp; omega) | simp) _)), r1.row hRow (by decide) _ _, by rw [hE.out]; exact hRow.setKind HX.out 4, r3.row hRow (by decide) _ _, by (repeat (first | with_reducible exact Below.refl _ _ | with_reducible assumption | with_reducible refine below_drewN ?_ _ | with_reducible refine Below.drew ?_ | with_reducible refine Below.alloc ?_ (by first | omega | (simp; omega) | simp) _ | with_reducible refine Below.setCell ?_ (by first | omega | (simp; omega) | simp) _))⟩
        case measure => simp [intOf]; omega
      · obtain rfl : k = cnt := by omega
        have hplen : (part treeF bs0 k).length = bs0.length := part_length _ _ _
        have hR := hRow.read (c := cap) (by omega) hmx
        rw [hplen] at hR
        have hP : Pic wr w1.heap.size cs (part treeF bs0 k) [] := ⟨A1, c1, some ⟨gb, 0, none⟩, cap, A3, c3, by rw [hplen]; exact hC, r1, by rw [hplen]; exact hR, r3⟩
        have hpl : (part treeF bs0 k).length = n := hplen.trans HLEN.out
        have HPL := Lib.hid hpl
        clear hplen hpl hR r1 r3 hRow hC x0 x1 x2
        generalize part treeF bs0 k = bs1 at *
        obtain ⟨wo, hwo⟩ : ∃ wo : World, wo = wr := ⟨_, rfl⟩
        subst hwo
        go_wp2_with fail
        clear ecnt
        go_loopw [12, 13, 14, 15, 16, 17, 18] (fun i _ _ _ _ _ _ wr => KeepRel2 w w1.heap.size g n cs st.length i wr) (fun i _ _ _ _ _ _ _ => st.length - (intOf i).toNat)
        case atStart => exact ⟨0, g1, bs1, Nat.zero_le _, rfl, hP, HST.out, by omega, HPL.out, hb⟩
        case round =>
          clear hP HST HPL hb
          obtain ⟨k2, M, bs, hk2, rfl, hP, hBi, hM, hbl, hb⟩ := hrel
          obtain ⟨B1, d1, B2, d2, B3, d3, hC, p1, p2, p3⟩ := hP
          have hlx2 := hC.lt
          obtain ⟨⟨x0, x1, x2⟩, -⟩ := hC.has3
          have HBi := Lib.hid hBi
          have HBL := Lib.hid hbl
          have hbl1 : bs.length ≤ 12 := by omega
          clear hBi hbl
          by_cases hlt2 : k2 < st.length
          · obtain ⟨sk, hsk⟩ : ∃ x, st[k2]? = some x := ⟨_, List.getElem?_eq_getElem hlt2⟩
            obtain ⟨bS, oS, rfl, hbS, hcS⟩ := hscell (by omega)
            have dw := hcS k2 _ (u8s_get st k2 sk hsk)
            have hsk8 := hs8 sk (List.mem_of_getElem? hsk)
            clear hscell hcS hsk
            go_wp2_with fail
            refine (taken_any _ _ _ _ cs bs [] p1 p2 p3 (by omega) (HBi.out.gen (by omega))).mono ?_
            rintro e w2 h2
            obtain ⟨C1, f1, C2, f2, C3, f3, rfl, q1, q2, q3, hb2⟩ := h2.forms
            have hC2 := hC.below hb2 hC.lt
            have hB2 := hb.trans (hb2.mono hb.size)
            replace p1 := p1.below hb2
            replace p2 := p2.below hb2
            replace p3 := p3.below hb2
            clear h2 hb2 hC hb x0 x1 x2
            obtain ⟨⟨x0, x1, x2⟩, -⟩ := hC2.has3
            have hlx3 := hC2.lt
            have hbS2 : bS < w2.heap.size := by have := hB2.size; omega
            have dS := (hB2.cell (p := ⟨bS, oS + k2, none⟩) hbS).trans dw
            have HTL := Lib.hid (takenB_length bs)
            have htl12 : (takenB bs).length ≤ 12 := by rw [HTL.out]; exact hbl1
            have hY := Cl.new w2 31 #[.slice C1 cs.length f1, .slice C2 (takenB bs).length f2, .slice C3 0 f3]
            have hB3 : Below w.heap.size w (w2.alloc (.cells #[.slice C1 cs.length f1, .slice C2 (takenB bs).length f2, .slice C3 0 f3] 31)) := by (repeat (first | with_reducible exact Below.refl _ _ | with_reducible assumption | with_reducible refine below_drewN ?_ _ | with_reducible refine Below.drew ?_ | with_reducible refine Below.alloc ?_ (by first | omega | (simp; omega) | simp) _ | with_reducible refine Below.setCell ?_ (by first | omega | (simp; omega) | simp) _))
            have hCw := hC2.alloc (.cells #[.slice C1 cs.length f1, .slice C2 (takenB bs).length f2, .slice C3 0 f3] 31)
            obtain ⟨qk, hqk⟩ : ∃ q : Nat, q = sk / 2 := ⟨_, rfl⟩
            have eqk : (sk : Int) / 2 = (qk : Int) := by omega
            have hqk8 : qk < 256 := by omega
            clear hqk
            obtain ⟨fl, hfl⟩ : ∃ fl : Bool, fl = (decide (sk % 2 = 1) || !(nextB bs 4).isSome) := ⟨_, rfl⟩
            have HFL := Lib.hid hfl
            clear hfl
            go_upto_region 13 with (fail)
            go_cut [66] (fun s wx => s = .bool fl ∧ wx = w2.alloc (.cells #[.slice C1 cs.length f1, .slice C2 (takenB bs).length f2, .slice C3 0 f3] 31))
            case first =>
              by_cases hodd : sk % 2 = 1
              · have b1 : ((sk : Int) % 2 == 1) = true := by simp; omega
                have HF : Hid (fl = true) := by show _ = _; rw [HFL.out]; simp [hodd]
                clear hodd
                go_wp2_with fail
                go_meet
                exact ⟨by rw [HF.out], rfl⟩
              · have b1 : ((sk : Int) % 2 == 1) = false := by simp; omega
                have HF : Hid (fl = !(nextB bs 4).isSome) := by show _ = _; rw [HFL.out]; simp [hodd]
                clear hodd
                go_wp2_with fail
                go_meet
                exact ⟨by rw [HF.out]; simp, rfl⟩
            case rest =>
              obtain ⟨rfl, rfl⟩ := hcut
              go_upto_if 66 with (fail)
              go_cut [73] (fun _ wx => ∃ (bs1 : List Bk) (M1 : Int) (D1 : Option Addr) (e1 : Nat) (D2 : Option Addr) (e2 : Nat) (D3 : Option Addr) (e3 : Nat), Jinv bs1 M1 ∧ M1 ≤ M + 1 ∧ bs1.length = n ∧
                Cl wx w2.heap.size 31 #[.slice D1 cs.length e1, .slice D2 bs1.length e2, .slice D3 0 e3] ∧ RdI wx (.slice D1 cs.length e1) cs ∧ RdB wx (.slice D2 bs1.length e2) bs1 ∧ RdI wx (.slice D3 0 e3) [] ∧
                Cl wx w1.heap.size 31 #[.slice B1 cs.length d1, .slice B2 bs.length d2, .slice B3 0 d3] ∧ Below w.heap.size w wx)
              case first =>
                cases hfl : fl
                · have hsome : ∃ nb, nextB bs 4 = some nb := by
                    have := HFL.out
                    rw [hfl] at this
                    cases hn9 : nextB bs 4 with
                    | none => rw [hn9] at this; simp at this
                    | some nb => exact ⟨nb, rfl⟩
                  obtain ⟨nb, hnb⟩ := hsome
                  obtain ⟨M1, hM1, hM2, hJ⟩ := btake HBi.out hnb
                  have hT : takenB bs = bs.map (takenF nb) := by simp [takenB, hnb]
                  rw [← hT] at hJ
                  clear hnb hT
                  go_wp2_with fail
                  go_meet
                  exact ⟨takenB bs, M1, C1, f1, C2, f2, C3, f3, hJ, hM2, HTL.out.trans HBL.out, hY, Rd.alloc q1 _, Rd.alloc q2 _, Rd.alloc q3 _, hCw, hB3⟩
                · have hJ := bgive qk HBi.out
                  have hgl1 : (givenB bs 4 qk).length = bs.length := List.length_map _
                  have HGL := Lib.hid hgl1
                  clear hgl1
                  have r1 := Rd.alloc p1 (.cells #[.slice C1 cs.length f1, .slice C2 (takenB bs).length f2, .slice C3 0 f3] 31)
                  have r2 := Rd.alloc p2 (.cells #[.slice C1 cs.length f1, .slice C2 (takenB bs).length f2, .slice C3 0 f3] 31)
                  have r3 := Rd.alloc p3 (.cells #[.slice C1 cs.length f1, .slice C2 (takenB bs).length f2, .slice C3 0 f3] 31)
                  have t1 : ((sk : Int).tdiv 2) = (qk : Int) := by rw [Int.tdiv_eq_ediv_of_nonneg (by omega)]; exact eqk
                  have t2 : IntKind.u8.wrap (qk : Int) = (qk : Int) := by simp [IntKind.wrap, IntKind.bits, IntKind.signed]; omega
                  go_wp2_with fail
                  refine wp_region_still_tail 6 (by kernel_rfl) (by kernel_rfl) ?_
                  simp only [List.take_succ_cons, List.take_zero, List.drop_succ_cons, List.drop_zero]
                  change wpStill _ _ (World.drew (w2.alloc (.cells #[.slice C1 cs.length f1, .slice C2 (takenB bs).length f2, .slice C3 0 f3] 31))) (fun a' => wpList _ _ _ _ a' (World.drew (w2.alloc (.cells #[.slice C1 cs.length f1, .slice C2 (takenB bs).length f2, .slice C3 0 f3] 31)))) _ _
                  have dn : (w2.alloc (.cells #[.slice C1 cs.length f1, .slice C2 (takenB bs).length f2, .slice C3 0 f3] 31)).cell? ⟨bS, oS + k2, none⟩ = some (.int .u8 (sk : Int)) := (hB3.cell (p := ⟨bS, oS + k2, none⟩) hbS).trans dw
                  obtain ⟨wn, hwn⟩ : ∃ wn : World, wn = World.drew (w2.alloc (.cells #[.slice C1 cs.length f1, .slice C2 (takenB bs).length f2, .slice C3 0 f3] 31)) := ⟨_, rfl⟩
                  have hCn : Cl wn w1.heap.size 31 #[.slice B1 cs.length d1, .slice B2 bs.length d2, .slice B3 0 d3] := by rw [hwn]; exact hCw
                  have hYn : Cl wn w2.heap.size 31 #[.slice C1 cs.length f1, .slice C2 (takenB bs).length f2, .slice C3 0 f3] := by rw [hwn]; exact hY
                  have r1n : RdI wn (.slice B1 cs.length d1) cs := by rw [hwn]; exact r1
                  have r2n : RdB wn (.slice B2 bs.length d2) bs := by rw [hwn]; exact r2
                  have r3n : RdI wn (.slice B3 0 d3) [] := by rw [hwn]; exact r3
                  have dnn : wn.cell? ⟨bS, oS + k2, none⟩ = some (.int .u8 (sk : Int)) := by rw [hwn]; exact dn
                  have hBn : Below w.heap.size w wn := by rw [hwn]; exact Below.drew hB3
                  rw [← hwn]
                  clear hwn r1 r2 r3 dn hB3 hCw hY p1 p2 p3 dS x0 x1 x2 hC2 hB2 q1 q2 q3
                  obtain ⟨⟨x0, x1, x2⟩, -⟩ := hCn.has3
                  have l1 := hCn.lt
                  have l2 := hYn.lt
                  have n3 : ¬ bS = w2.heap.size := by omega
                  have n4 : bS < wn.heap.size := by omega
                  still_step
                  still_step
                  still_step
                  still_step
                  still_step
                  still_step
                  refine wpStill_nil ?_
                  go_wp2_with fail
                  refine (given_calls _ _ _ _ cs bs [] 4 qk r1n r2n r3n (by omega) hqk8).mono ?_
                  rintro e wa h5
                  obtain ⟨E1, e1, E2, e2, E3, e3, rfl, v1, v2, v3, ba⟩ := h5.forms
                  have hCa := hCn.below ba hCn.lt
                  have hYa := hYn.below ba hYn.lt
                  have hBa := hBn.trans (ba.mono hBn.size)
                  clear h5 x0 x1 x2
                  have l3 := hYa.lt
                  obtain ⟨⟨u0, u1, u2⟩, u3, u4, u5⟩ := hYa.has3
                  go_wp2_with fail
                  go_meet
                  exact ⟨givenB bs 4 qk, M, E1, e1, E2, e2, E3, e3, hJ, by omega, HGL.out.trans HBL.out, hYa.set3 _ _ _, v1.far3 hYa (by decide) _ _ _, v2.far3 hYa (by decide) _ _ _, v3.far3 hYa (by decide) _ _ _, by (repeat (first | with_reducible assumption | with_reducible refine Cl.drewN ?_ _ | with_reducible refine Cl.drew ?_ | with_reducible refine Cl.alloc ?_ _ | with_reducible refine Cl.far ?_ (by first | with_reducible assumption | omega | (simp; omega) | simp) _)), by (repeat (first | with_reducible exact Below.refl _ _ | with_reducible assumption | with_reducible refine below_drewN ?_ _ | with_reducible refine Below.drew ?_ | with_reducible refine Below.alloc ?_ (by first | omega | (simp; omega) | simp) _ | with_reducible refine Below.setCell ?_ (by first | omega | (simp; omega) | simp) _))⟩
              case rest =>
                obtain ⟨bs1, M1, D1, e1, D2, e2, D3, e3, hJ, hM1, hbs1, hY3, r1, r2, r3, hX3, hB4⟩ := hcut
                obtain ⟨w3, hw3⟩ : ∃ x : World, x = wc := ⟨_, rfl⟩
                subst hw3
                clear p1 p2 p3 q1 q2 q3 hC2 hB2 x0 x1 x2 dS hY hB3 hCw HTL HFL htl12 HBi HBL hbl1 eqk hqk8 dw
                have HJ := Lib.hid hJ
                have hb12 : bs1.length ≤ 12 := by omega
                have HBN := Lib.hid hbs1
                have hg1 := hJ.gen (show M1 ≤ 2000000 by omega)
                have hct := jcount (n := 400) hJ (by omega) hb12
                clear hJ hbs1
                have hl3 := hX3.lt
                have hl4 := hY3.lt
                have yn : ¬ w1.heap.size = w2.heap.size := by omega
                have yn' : ¬ w2.heap.size = w1.heap.size := by omega
                obtain ⟨⟨x0, x1, x2⟩, x3, x4, x5⟩ := hX3.has3
                obtain ⟨⟨y0, y1, y2⟩, -⟩ := hY3.has3
                go_wp2_with fail
                refine (wear_moves_calls _ _ _ _ cs bs1 [] 4 400 (r1.far3 hX3 (by decide) _ _ _) (r2.far3 hX3 (by decide) _ _ _) (r3.far3 hX3 (by decide) _ _ _) hcl (by omega) (by simp) hg1 (by omega)).mono ?_
                rintro e w4 ⟨Am, cm, rfl, hM4, hb4⟩
                have hP4 : Pic w4 w1.heap.size cs bs1 [] := ⟨D1, e1, D2, e2, D3, e3, (hX3.set3 _ _ _).below hb4 (by simpa using hl3), (r1.far3 hX3 (by decide) _ _ _).below hb4, (r2.far3 hX3 (by decide) _ _ _).below hb4, (r3.far3 hX3 (by decide) _ _ _).below hb4⟩
                have hB5 : Below w.heap.size w w4 := Below.trans (by (repeat (first | with_reducible exact Below.refl _ _ | with_reducible assumption | with_reducible refine below_drewN ?_ _ | with_reducible refine Below.drew ?_ | with_reducible refine Below.alloc ?_ (by first | omega | (simp; omega) | simp) _ | with_reducible refine Below.setCell ?_ (by first | omega | (simp; omega) | simp) _))) (hb4.mono (by have := hB4.size; simp; omega))
                rw [show Int.toNat 400 = 400 from rfl] at hM4 ⊢
                obtain ⟨ms, hms⟩ : ∃ ms, ms = movesB 400 bs1 4 := ⟨_, rfl⟩
                rw [← hms] at hM4 hct ⊢
                have HDR : Hid (movesB (400 - 0) bs1 4 = ms.drop 0) := Lib.hid (by rw [hms]; rfl)
                clear hms
                clear hb4 hX3 hY3 r1 r2 r3 hB4 x0 x1 x2 x3 x4 x5 y0 y1 y2 hl3 hl4 yn yn'
                go_wp2_with fail
                go_loopw [16, 17, 18] (fun i _ _ wr => KeepRel3 w w1.heap.size n cs (.slice Am ms.length cm) ms M1 i wr) (fun i _ _ _ => ms.length - (intOf i).toNat)
                case atStart => exact ⟨0, M1, bs1, Nat.zero_le _, rfl, hP4, hM4, HDR.out, HJ.out, by omega, fun h => absurd h (by omega), fun _ => rfl, HBN.out, hB5⟩
                case round =>
                  clear hP4 hM4 HDR HJ hB5 hg1 HBN hb12
                  obtain ⟨j, M2, bs2, hj, rfl, hP, hM5, hmv, hJ2, hM2, hK2, hz2, hbl2, hB6⟩ := hrel
                  obtain ⟨F1, k1, F2, k3, F3, k4, hC6, p1, p2, p3⟩ := hP
                  obtain ⟨w5, hw5⟩ : ∃ x : World, x = wr := ⟨_, rfl⟩
                  subst hw5
                  have HBN2 := Lib.hid hbl2
                  have hbl2' : bs2.length ≤ 12 := by omega
                  clear hbl2
                  have hl5 := hC6.lt
                  obtain ⟨⟨y0, y1, y2⟩, -⟩ := hC6.has3
                  by_cases hlt3 : j < ms.length
                  · obtain ⟨f, t, hft, hmo, hnx⟩ := moves_drop hmv hlt3 (by omega)
                    obtain ⟨M3, hM3, hM4', hK3, -, hM5'⟩ := jstep hJ2 hmo (by omega)
                    have hok := okMove_of (moveOf_parts hmo).1 (moveOf_parts hmo).2
                    have hM6 : M3 ≤ M1 + 1 := by
                      by_cases h0 : j = 0
                      · have := hz2 h0; omega
                      · have := hM5' (hK2 (by omega)).2; omega
                    obtain ⟨Am', cm', he, hmc, hmcell⟩ := hM5.at_
                    obtain ⟨bm, om, hAm, mlt, hcm⟩ := hmcell j hlt3
                    obtain ⟨m0, m1, m2, m3, m4, m5, m6, m7⟩ := hcm f t hft
                    injection he with he1 he2 he3
                    subst he3
                    subst hAm
                    subst he1
                    have HOK := Lib.hid hok
                    have HNX := Lib.hid hnx
                    have HK3 := Lib.hid hK3
                    clear he2 hmcell hcm hft hmo hnx hmv hJ2 hK2 hz2 hM5' hok hK3
                    have yn : ¬ w1.heap.size = w5.heap.size := by omega
                    have yn' : ¬ w5.heap.size = w1.heap.size := by omega
                    have zn : ¬ bm = w5.heap.size := by omega
                    have zn' : ¬ w5.heap.size = bm := by omega
                    go_wp2_with fail
                    go_cut [17, 18] (fun s t' wx => ∃ g A1 c1 A2 c2 A3 c3, s = .pointer (some ⟨g, 0, none⟩) ∧ t' = .int .i64 0 ∧ w5.heap.size ≤ g ∧ Cl wx g 31 #[.slice A1 cs.length c1, .slice A2 (afterB bs2 f t).length c2, .slice A3 0 c3] ∧ RdI wx (.slice A1 cs.length c1) cs ∧ RdB wx (.slice A2 (afterB bs2 f t).length c2) (afterB bs2 f t) ∧ RdI wx (.slice A3 0 c3) [] ∧ Below w5.heap.size w5 wx)
                    case first =>
                      go_region_held3 (fun w' => (w'.cell? ⟨w1.heap.size, 0, none⟩ = some (.slice F1 cs.length k1) ∧ w'.cell? ⟨w1.heap.size, 1, none⟩ = some (.slice F2 bs2.length k3) ∧ w'.cell? ⟨w1.heap.size, 2, none⟩ = some (.slice F3 0 k4)) ∧ (w'.cell? ⟨bm, om + j * 8, none⟩ = some (.int .i64 f.line) ∧ w'.cell? ⟨bm, om + j * 8 + 1, none⟩ = some (.int .i64 f.cls) ∧ w'.cell? ⟨bm, om + j * 8 + 2, none⟩ = some (.int .i64 f.kind) ∧ w'.cell? ⟨bm, om + j * 8 + 3, none⟩ = some (.int .i64 f.gen) ∧ w'.cell? ⟨bm, om + j * 8 + 4, none⟩ = some (.int .i64 t.line) ∧ w'.cell? ⟨bm, om + j * 8 + 5, none⟩ = some (.int .i64 t.cls) ∧ w'.cell? ⟨bm, om + j * 8 + 6, none⟩ = some (.int .i64 t.kind) ∧ w'.cell? ⟨bm, om + j * 8 + 7, none⟩ = some (.int .i64 t.gen))) (go_keep)
                        (first | (go_at_call 14; refine (after_ok8 _ _ _ _ cs bs2 [] f t (by first | exact p1 | exact p1.below (by (repeat (first | with_reducible exact Below.refl _ _ | with_reducible assumption | with_reducible refine below_drewN ?_ _ | with_reducible refine Below.drew ?_ | with_reducible refine Below.alloc ?_ (by first | omega | (simp; omega) | simp) _ | with_reducible refine Below.setCell ?_ (by first | omega | (simp; omega) | simp) _)))) (by first | exact p2 | exact p2.below (by (repeat (first | with_reducible exact Below.refl _ _ | with_reducible assumption | with_reducible refine below_drewN ?_ _ | with_reducible refine Below.drew ?_ | with_reducible refine Below.alloc ?_ (by first | omega | (simp; omega) | simp) _ | with_reducible refine Below.setCell ?_ (by first | omega | (simp; omega) | simp) _)))) (by first | exact p3 | exact p3.below (by (repeat (first | with_reducible exact Below.refl _ _ | with_reducible assumption | with_reducible refine below_drewN ?_ _ | with_reducible refine Below.drew ?_ | with_reducible refine Below.alloc ?_ (by first | omega | (simp; omega) | simp) _ | with_reducible refine Below.setCell ?_ (by first | omega | (simp; omega) | simp) _)))) hcl (by omega) (by simp) HOK.out).mono ?_; rintro e wa ha; obtain ⟨a4, k5, a5, k6, a6, k7, rfl, v1, v2, v3, ba0⟩ := PicPost.forms ha; clear ha; have ba : Below w5.heap.size w5 wa := (by first | exact below_of_drew ba0 | exact Below.trans (by (repeat (first | with_reducible exact Below.refl _ _ | with_reducible assumption | with_reducible refine below_drewN ?_ _ | with_reducible refine Below.drew ?_ | with_reducible refine Below.alloc ?_ (by first | omega | (simp; omega) | simp) _ | with_reducible refine Below.setCell ?_ (by first | omega | (simp; omega) | simp) _))) (ba0.mono (by simp))); have sa := ba.size; have qa := (hC6.below ba hC6.lt).has3.1; (have ca : ∀ o, wa.cell? ⟨bm, o, none⟩ = w5.cell? ⟨bm, o, none⟩ := fun o => ba.cell (p := ⟨bm, o, none⟩) mlt); (have c0 := (ca _).trans m0); (have c1 := (ca _).trans m1); (have c2 := (ca _).trans m2); (have c3 := (ca _).trans m3); (have c4 := (ca _).trans m4); (have c5 := (ca _).trans m5); (have c6 := (ca _).trans m6); (have c7 := (ca _).trans m7); clear ca; (have l1 : w1.heap.size < wa.heap.size := (by omega)); (have l2 : bm < wa.heap.size := (by omega)); (first | (have g1 := (Cl.new w5 31 #[.slice none 0 0, .slice none 0 0, .slice none 0 0]).drew.below ba0 (by simp); obtain ⟨⟨k10, k11, k12⟩, k13, k14, k15⟩ := g1.has3) | skip)))
                      all_goals (go_wp2_with fail; go_meet)
                      · exact ⟨wa.heap.size, a4, k5, a5, k6, a6, k7, rfl, rfl, by omega, Cl.new _ _ _, Rd.alloc v1 _, Rd.alloc v2 _, Rd.alloc v3 _, by (repeat (first | with_reducible exact Below.refl _ _ | with_reducible assumption | with_reducible refine below_drewN ?_ _ | with_reducible refine Below.drew ?_ | with_reducible refine Below.alloc ?_ (by first | omega | (simp; omega) | simp) _ | with_reducible refine Below.setCell ?_ (by first | omega | (simp; omega) | simp) _))⟩
                      · exact ⟨w5.heap.size, a4, k5, a5, k6, a6, k7, rfl, rfl, by omega, g1.set3 _ _ _, v1.far3 g1 (by decide) _ _ _, v2.far3 g1 (by decide) _ _ _, v3.far3 g1 (by decide) _ _ _, by (repeat (first | with_reducible exact Below.refl _ _ | with_reducible assumption | with_reducible refine below_drewN ?_ _ | with_reducible refine Below.drew ?_ | with_reducible refine Below.alloc ?_ (by first | omega | (simp; omega) | simp) _ | with_reducible refine Below.setCell ?_ (by first | omega | (simp; omega) | simp) _))⟩
                    case rest =>
                      obtain ⟨gA, a4, k5, a5, k6, a6, k7, rfl, rfl, hgA, hA, v1, v2, v3, hbx⟩ := hcut
                      clear m0 m1 m2 m3 m4 m5 m6 m7 y0 y1 y2 yn yn' zn zn'
                      obtain ⟨w6, hw6⟩ : ∃ x : World, x = wc := ⟨_, rfl⟩
                      subst hw6
                      have hC7 := hC6.below hbx hC6.lt
                      have hM7 := hM5.below hbx
                      have hB7 := hB6.trans (hbx.mono hB6.size)
                      clear hbx hC6 hM5 hB6 p1 p2 p3
                      have l6 := hA.lt
                      have yn : ¬ w1.heap.size = gA := by omega
                      have yn' : ¬ gA = w1.heap.size := by omega
                      obtain ⟨⟨x0, x1, x2⟩, x3, x4, x5⟩ := hC7.has3
                      obtain ⟨⟨y0, y1, y2⟩, -⟩ := hA.has3
                      go_wp2_with fail
                      go_roundw
                      case rel => exact ⟨j + 1, M3, afterB bs2 f t, by omega, by go_num, ⟨a4, k5, a5, k6, a6, k7, hC7.set3 _ _ _, v1.far3 hC7 (by decide) _ _ _, v2.far3 hC7 (by decide) _ _ _, v3.far3 hC7 (by decide) _ _ _⟩, Rd.far3 hM7 hC7 (by decide) _ _ _, HNX.out, HK3.out.1, hM6, fun _ => HK3.out, fun h => absurd h (by omega), (afterB_length bs2 f t).trans HBN2.out, by (repeat (first | with_reducible exact Below.refl _ _ | with_reducible assumption | with_reducible refine below_drewN ?_ _ | with_reducible refine Below.drew ?_ | with_reducible refine Below.alloc ?_ (by first | omega | (simp; omega) | simp) _ | with_reducible refine Below.setCell ?_ (by first | omega | (simp; omega) | simp) _))⟩
                      case measure => simp [intOf]; omega
                  · have hje : j = ms.length := by omega
                    have hmo : moveOf bs2 4 = none := by
                      rw [hje, List.drop_length] at hmv
                      exact moves_end hmv (by omega)
                    have hBi := jend hJ2 hmo
                    obtain ⟨s1, s2, s3, s4, s5⟩ := bspread hBi
                    have HBi2 := Lib.hid hBi
                    have HS5 := Lib.hid s5
                    have s6 : (useOf bs2 4).2.1 ≤ M2 := by omega
                    clear hje hmo hmv hJ2 hK2 hz2 hBi s5 hM5
                    go_wp2_with fail
                    refine (spread_calls _ _ _ _ bs2 4 p2 (by omega)).mono ?_
                    rintro e w6 ⟨rfl, hb6⟩
                    rw [show wrap64 ((useOf bs2 4).2.1 - (useOf bs2 4).1) = (useOf bs2 4).2.1 - (useOf bs2 4).1 from IntWalk.wrap64_in _ ⟨by omega, by omega⟩]
                    have hP6 : Pic w6 w1.heap.size cs bs2 [] := ⟨F1, k1, F2, k3, F3, k4, hC6.below hb6 hC6.lt, p1.below hb6, p2.below hb6, p3.below hb6⟩
                    have hB7 := hB6.trans (hb6.mono hB6.size)
                    clear hb6 hC6 p1 p2 p3 hB6 y0 y1 y2
                    go_wp2_with fail
                    go_roundw
                    case rel =>
                      have hfin : KeepRel2 w w1.heap.size g n cs st.length (.int .i64 (k2 + 1 : Int)) w6 := ⟨k2 + 1, M2, bs2, by omega, by go_num, hP6, HBi2.out, by omega, HBN2.out, hB7⟩
                      first
                        | exact hfin
                        | ((repeat apply Exists.intro); exact ⟨hfin, rfl⟩)
                    case measure => simp [intOf]; omega
          · clear hscell
            go_wp2_with fail
            refine (sanity_calls _).mono ?_
            rintro e w2 ⟨rfl, hb2⟩
            have hB2 := hb.trans (hb2.mono hb.size)
            go_wp2_with fail
            go_ret
            exact ⟨rfl, hB2⟩
end Go.Proofs.Ytidiapfmjalaiaa
