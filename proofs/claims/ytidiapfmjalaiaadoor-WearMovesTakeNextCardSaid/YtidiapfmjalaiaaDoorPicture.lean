/-
  The specification's Picture.
-/
import Derived.Test.YtidiapfmjalaiaaDoorGiven
import Derived.Test.YtidiapfmjalaiaaDoorPlan
import Derived.Test.YtidiapfmjalaiaaDoorPlainC
namespace Go.Proofs.YtidiapfmjalaiaaDoor
open Go.RowKit

/-- A slice whose cells can be read, whatever the block in which they lie. -/
def RdN (w : World) (size : Nat) (v : Value) (n : Nat) (xs : List Value) : Prop :=
  xs.length = n * size ∧ ∃ (A : Option Addr) (c : Nat), v = .slice A n c ∧ n ≤ c ∧ (0 < n → ∃ b o, A = some ⟨b, o, none⟩ ∧ b < w.heap.size ∧ ∀ j u, xs[j]? = some u → w.cell? ⟨b, o + j, none⟩ = some u)
theorem RdN.below {w w' : World} {size n : Nat} {v : Value} {xs : List Value} (h : RdN w size v n xs) (hb : Below w.heap.size w w') : RdN w' size v n xs := by
  obtain ⟨h1, A, c, hv, hc, h2⟩ := h
  refine ⟨h1, A, c, hv, hc, fun hn => ?_⟩
  obtain ⟨b, o, hA, hlt, hcell⟩ := h2 hn
  exact ⟨b, o, hA, Nat.lt_of_lt_of_le hlt hb.size, fun j u hu => (hb.cell (p := ⟨b, o + j, none⟩) hlt).trans (hcell j u hu)⟩
def u8s (l : List Nat) : List Value := l.map fun n : Nat => Value.int .u8 (n : Int)
def rawCells (l : List (Nat × Nat)) : List Value := l.flatMap fun r => [.int .u8 (r.1 : Int), .int .u16 (r.2 : Int)]

theorem u8s_get (l : List Nat) (k : Nat) (x : Nat) (h : l[k]? = some x) : (u8s l)[k]? = some (.int .u8 (x : Int)) := by simp [u8s, h]
theorem rawCells_get (l : List (Nat × Nat)) (k : Nat) (r : Nat × Nat) (h : l[k]? = some r) : (rawCells l)[k * 2]? = some (.int .u8 (r.1 : Int)) ∧ (rawCells l)[k * 2 + 1]? = some (.int .u16 (r.2 : Int)) := by
  induction l generalizing k with
  | nil => simp at h
  | cons a l ih =>
    cases k with
    | zero => simp at h; subst h; simp [rawCells]
    | succ k =>
      have := ih k (by simpa using h)
      simp only [rawCells, List.flatMap_cons] at this ⊢
      rw [show (k + 1) * 2 = k * 2 + 2 by omega]
      exact ⟨this.1, this.2⟩

def PicInv (w wr : World) (lay : Array Value) (us : List Int) (bs : List Bk) : Prop :=
  ∃ Au cu Av cv, Cl wr w.heap.size 32 lay ∧ Cl wr (w.heap.size + 1) 27 #[.slice none 0 0, .slice none 0 0, .slice none 0 0] ∧
    Cl wr (w.heap.size + 2) 27 #[.slice Au us.length cu, .slice Av bs.length cv, .slice none 0 0] ∧
    wr.ownsRow (w.heap.size + 3) 3 1 (.slice Au us.length cu) us.length (us.map (Value.int .i64)) ∧
    wr.ownsRow (w.heap.size + 3) 40 4 (.slice Av bs.length cv) bs.length (bksCells bs) ∧ Below w.heap.size w wr

def PicRel (w : World) (heap : Int) (lay : Array Value) (chunks : Nat) (cls : List Nat) (rs : List (Nat × Nat)) (more : Nat) (i : Value) (wr : World) : Prop :=
  ∃ k : Nat, k ≤ chunks ∧ i = .int .i64 k ∧ PicInv w wr lay (picC cls k) (picB heap cls rs more k)

def PicRel2 (w : World) (heap : Int) (lay : Array Value) (us : List Int) (bs : List Bk) (rs : List (Nat × Nat)) (more k q s m : Nat) (i : Value) (wr : World) : Prop :=
  ∃ j n : Nat, n = j * s ∧ j ≤ m ∧ i = .int .i64 n ∧ PicInv w wr lay us (addN rs more (heap + 16 * k) q s j bs)
theorem pow_parts (q : Nat) (h : q ≤ 4) : ∃ s m : Nat, 2 ^ q = s ∧ 16 / 2 ^ q = m ∧ m * s = 16 ∧ 1 ≤ s ∧ s ≤ 16 ∧ m ≤ 16 := by
  match q, h with
  | 0, _ => exact ⟨1, 16, rfl, rfl, rfl, by omega, by omega, by omega⟩
  | 1, _ => exact ⟨2, 8, rfl, rfl, rfl, by omega, by omega, by omega⟩
  | 2, _ => exact ⟨4, 4, rfl, rfl, rfl, by omega, by omega, by omega⟩
  | 3, _ => exact ⟨8, 2, rfl, rfl, rfl, by omega, by omega, by omega⟩
  | 4, _ => exact ⟨16, 1, rfl, rfl, rfl, by omega, by omega, by omega⟩
theorem step_lines {j s m n : Nat} (hn : n = j * s) (hm : m * s = 16) (hs : 1 ≤ s) : (j < m ↔ n < 16) ∧ (j < m → n + s = (j + 1) * s ∧ n + s ≤ 16) := by
  subst hn
  have h1 : j < m → (j + 1) * s ≤ m * s := fun h => Nat.mul_le_mul_right s h
  rw [Nat.add_mul, Nat.one_mul] at h1
  have h2 : ¬ j < m → m * s ≤ j * s := fun h => Nat.mul_le_mul_right s (Nat.le_of_not_lt h)
  refine ⟨⟨fun h => by have := h1 h; omega, fun h => ?_⟩, fun h => ⟨by rw [Nat.add_mul, Nat.one_mul], by have := h1 h; omega⟩⟩
  by_cases hj : j < m
  · exact hj
  · have := h2 hj; omega

/-- A picture that was returned, whose blocks lie in memory of the call's own. -/
def PicOwn (w : World) (cs : List Int) (bs : List Bk) (ds : List Int) (e : Ending) (w' : World) : Prop :=
  ∃ ch bl bd, e = .returned (.agg #[ch, bl, bd]) ∧ RdI w' ch cs ∧ w'.ownsRow w.heap.size 40 4 bl bs.length (bksCells bs) ∧ RdI w' bd ds ∧ Below w.heap.size w w'
theorem PicOwn.one {w w' : World} {cs : List Int} {bs : List Bk} {ds : List Int} {e : Ending} (h : PicOwn w cs bs ds e w') : PicOne w cs bs ds e w' := by
  obtain ⟨ch, bl, bd, he, h1, h2, h3, hb⟩ := h
  exact ⟨ch, bl, bd, he, h1, Rd.own h2, h3, hb⟩

set_option maxRecDepth 100000 in
set_option maxHeartbeats 4000000 in
theorem picture_calls (w : World) (l0 l1 l2 l3 l4 l5 heap : Int) (chunks : Nat) (cv rv : Value) (cls : List Nat) (rs : List (Nat × Nat)) (more : Nat)
    (hc : RdN w 1 cv cls.length (u8s cls)) (hr : RdN w 2 rv rs.length (rawCells rs)) (hch : chunks ≤ 200) (hh0 : 0 ≤ heap) (hh1 : heap ≤ 5000) (hcl : cls.length ≤ 100000) (hrl : rs.length ≤ 100000) (hm : more ≤ 1048575)
    (hc8 : ∀ c ∈ cls, c < 256) (hr8 : ∀ r ∈ rs, r.1 < 256 ∧ r.2 < 65536) :
    Calls Tryd.prog 14 #[.agg #[.int .i64 l0, .int .i64 l1, .int .i64 l2, .int .i64 l3, .int .i64 l4, .int .i64 l5, .int .i64 heap, .int .i64 (chunks : Int)], cv, rv, .int .i64 (more : Int)] w
      (PicOwn w (picC cls chunks) (picB heap cls rs more chunks) []) := by
  obtain ⟨i0, hi0, hz0, hz1, hz2⟩ := info_parts blk_info
  obtain ⟨j0, hj0, hy0, hy1, hy2⟩ := info_parts int_info
  obtain ⟨_, Ac, cc, rfl, hcc, hccell⟩ := hc
  obtain ⟨_, Ar, cr, rfl, hcr, hrcell⟩ := hr
  go_enter Tryd.func14, Tryd.ntmps14
  go_wp2_with fail
  go_loopw [10, 11, 12, 13, 14] (fun i _ _ _ _ wr => PicRel w heap #[.int .i64 l0, .int .i64 l1, .int .i64 l2, .int .i64 l3, .int .i64 l4, .int .i64 l5, .int .i64 heap, .int .i64 (chunks : Int)] chunks cls rs more i wr) (fun i _ _ _ _ _ => chunks - (intOf i).toNat)
  case atStart => exact ⟨0, Nat.zero_le _, rfl, none, 0, none, 0, ((Cl.new _ _ _).alloc _).alloc _, (Cl.new_ _ _ _ _ (by simp)).alloc _, Cl.new_ _ _ _ _ (by simp), World.ownsRow_nil _ _ _ _, World.ownsRow_nil _ _ _ _, by (repeat (first | with_reducible exact Below.refl _ _ | with_reducible assumption | with_reducible refine below_drewN ?_ _ | with_reducible refine Below.drew ?_ | with_reducible refine Below.alloc ?_ (by first | omega | (simp; omega) | simp) _ | with_reducible refine Below.setCell ?_ (by first | omega | (simp; omega) | simp) _))⟩
  case round =>
    obtain ⟨k, hk, rfl, Au, cu, Av, cv, hL, hZ, hO, ou, ov, hb⟩ := hrel
    have hs1 := hL.lt
    have hs2 := hZ.lt
    have hs3 := hO.lt
    have hlu : (picC cls k).length = k := picC_length cls k
    have hlb : (picB heap cls rs more k).length ≤ 16 * k := picB_length heap cls rs more k
    have hl6 := hL.cell 6
    have hl7 := hL.cell 7
    simp only [List.getElem?_toArray, List.getElem?_cons_succ, List.getElem?_cons_zero] at hl6 hl7
    obtain ⟨⟨q0, q1, q2⟩, q3, q4, q5⟩ := hO.has3
    have hul : (picC cls k).length ≤ 1000 := by omega
    have hbl : (picB heap cls rs more k).length ≤ 10000 := by omega
    by_cases hkc : k < chunks
    · by_cases hlt : k < cls.length
      · obtain ⟨c, hx⟩ : ∃ c, cls[k]? = some c := ⟨_, List.getElem?_eq_getElem hlt⟩
        obtain ⟨b, o, rfl, hbl2, hcell⟩ := hccell (by omega)
        have d0 := (hb.cell (p := ⟨b, o + k, none⟩) hbl2).trans (hcell k _ (u8s_get cls k c hx))
        have hc256 := hc8 c (List.mem_of_getElem? hx)
        obtain ⟨q, hq⟩ : ∃ q, q = c % 5 := ⟨_, rfl⟩
        have hq4 : q ≤ 4 := by omega
        obtain ⟨s, m, hs, hm, hms, hs1', hs16, hm16⟩ := pow_parts q hq4
        have hE : Hid (picC cls (k + 1) = picC cls k ++ [(q : Int)]) := by
          show _ = _
          simp only [picC, hx, hq]
        have hF : Hid (picB heap cls rs more (k + 1) = addN rs more (heap + 16 * k) q s m (picB heap cls rs more k)) := by
          show _ = _
          simp only [picB, hx]
          rw [← hq, hm, hs]
        have e5 : (c : Int) % 5 = (q : Int) := by omega
        have HSS := Lib.hid hs
        have HMS := Lib.hid hms
        clear hlu hlb hccell hcell hx hq hs hm hms hc8
        generalize picC cls k = us at *
        generalize picB heap cls rs more k = bs at *
        go_wp2_with (at_builtin; refine wpList_append1 rfl (.tmp 38) (.tmp 40) 24 rfl (w.heap.size + 3) 3 j0 _ 1 8 Tryd.underlying24 hj0 hy0 hy1 hy2 rfl (by decide) (by decide) _ (us.length) (us.map (Value.int .i64)) rfl (ou.alloc _) (by omega) (wr.heap.size) #[.int .i64 (q : Int)] rfl (Cl.new_ _ _ _ _ (by simp)) rfl (by simp [Value.oneCell']) (by simp; omega) ?_; intro Aq cq wq ownq grq; (have hO3 := grq.cl (hO.alloc _) (.inl (by decide))); (have hL3 := grq.cl (hL.alloc _) (.inl (by decide))); (have hZ3 := grq.cl (hZ.alloc _) (.inl (by decide))); (have ov3 := grq.own (ov.alloc _) (by decide)); (have hB3 := grq.below (show Below w.heap.size w _ by (repeat (first | with_reducible exact Below.refl _ _ | with_reducible assumption | with_reducible refine below_drewN ?_ _ | with_reducible refine Below.drew ?_ | with_reducible refine Below.alloc ?_ (by first | omega | (simp; omega) | simp) _ | with_reducible refine Below.setCell ?_ (by first | omega | (simp; omega) | simp) _))) (by simp; omega) (by omega)); (obtain ⟨⟨q0, q1, q2⟩, q3, q4, q5⟩ := hO3.has3))
        have hinv : PicInv w (wq.setCell ⟨w.heap.size + 2, 0, none⟩ (.slice Aq (us.length + 1) cq)) #[.int .i64 l0, .int .i64 l1, .int .i64 l2, .int .i64 l3, .int .i64 l4, .int .i64 l5, .int .i64 heap, .int .i64 (chunks : Int)] (us ++ [(q : Int)]) bs :=
          ⟨Aq, cq, Av, cv, by (repeat (first | with_reducible assumption | with_reducible refine Cl.drewN ?_ _ | with_reducible refine Cl.drew ?_ | with_reducible refine Cl.alloc ?_ _ | with_reducible refine Cl.far ?_ (by first | with_reducible assumption | omega | (simp; omega) | simp) _)), by (repeat (first | with_reducible assumption | with_reducible refine Cl.drewN ?_ _ | with_reducible refine Cl.drew ?_ | with_reducible refine Cl.alloc ?_ _ | with_reducible refine Cl.far ?_ (by first | with_reducible assumption | omega | (simp; omega) | simp) _)), by simpa using hO3.set_ 0 _, by simpa using own_far ownq hO3 (by decide) 0 _, own_far ov3 hO3 (by decide) 0 _, by (repeat (first | with_reducible exact Below.refl _ _ | with_reducible assumption | with_reducible refine below_drewN ?_ _ | with_reducible refine Below.drew ?_ | with_reducible refine Below.alloc ?_ (by first | omega | (simp; omega) | simp) _ | with_reducible refine Below.setCell ?_ (by first | omega | (simp; omega) | simp) _))⟩
        clear hL hZ hO ou ov hb hs1 hs2 hs3 hl6 hl7 q0 q1 q2 q3 q4 q5 hO3 hL3 hZ3 ov3 hB3 ownq grq d0 e5
        rw [← hE.out] at hinv
        have hul2 : (picC cls (k + 1)).length ≤ 2000 := by rw [hE.out]; simp; omega
        obtain ⟨us2, hus2⟩ : ∃ us2, picC cls (k + 1) = us2 := ⟨_, rfl⟩
        rw [hus2] at hinv hul2
        have HUS2 := Lib.hid hus2
        clear hus2
        go_loopw [12, 13, 14] (fun i _ _ wr => PicRel2 w heap #[.int .i64 l0, .int .i64 l1, .int .i64 l2, .int .i64 l3, .int .i64 l4, .int .i64 l5, .int .i64 heap, .int .i64 (chunks : Int)] us2 bs rs more k q s m i wr) (fun i _ _ _ => 16 - (intOf i).toNat)
        case atStart => exact ⟨0, 0, by simp, Nat.zero_le _, rfl, hinv⟩
        case round =>
          clear hinv
          obtain ⟨j, n, hn, hj, rfl, Au, cu, Av, cv, hL, hZ, hO, ou, ov, hb⟩ := hrel
          have hs1 := hL.lt
          have hs2 := hZ.lt
          have hs3 := hO.lt
          have hl6 := hL.cell 6
          simp only [List.getElem?_toArray, List.getElem?_cons_succ, List.getElem?_cons_zero] at hl6
          obtain ⟨⟨q0, q1, q2⟩, q3, q4, q5⟩ := hO.has3
          have hlen : (addN rs more (heap + 16 * k) q s j bs).length ≤ 20000 := by rw [addN_length]; omega
          obtain ⟨hst1, hst2⟩ := step_lines hn HMS.out hs1'
          have HN := Lib.hid hn
          clear hn
          by_cases hn16 : n < 16
          · have hjm : j < m := hst1.2 hn16
            obtain ⟨hst3, hst4⟩ := hst2 hjm
            have HST := Lib.hid hst3
            clear hst1 hst2 hst3
            have hS : Hid (addN rs more (heap + 16 * k) q s (j + 1) bs = addN rs more (heap + 16 * k) q s j bs ++ [rawBk rs more (addN rs more (heap + 16 * k) q s j bs).length (heap + 16 * k + n) q]) := by
              show _ = _
              rw [addN, HN.out]
              simp
            generalize addN rs more (heap + 16 * k) q s j bs = bj at *
            by_cases hr0 : rs.length = 0
            · have hraw : rawBk rs more bj.length (heap + 16 * k + n) q = (heap + 16 * k + n, (q : Int), 0, 0) := by
                have : rs = [] := List.eq_nil_of_length_eq_zero hr0
                subst this
                rfl
              rw [hraw] at hS
              have b0 : decide (0 < rs.length) = false := by simp [hr0]
              clear hraw hr0 hrcell
              go_wp2_with (first | (at_builtin; refine wpList_append1 rfl (.tmp 92) (.tmp 94) 25 rfl (w.heap.size + 3) 40 i0 _ 4 32 Tryd.underlying25 hi0 hz0 hz1 hz2 rfl (by decide) (by decide) _ (bj.length) (bksCells bj) rfl (((ov.alloc _).alloc _)) (by omega) (wr.heap.size + 1) #[.int .i64 (heap + 16 * k + n), .int .i64 q, .int .i64 0, .int .i64 0] rfl (Cl.new_ _ _ _ _ (by simp)) rfl (by simp [Value.oneCell']) (by simp; omega) ?_; intro Aq cq wq ownq grq; (have hO3 := grq.cl ((hO.alloc _).alloc _) (.inl (by decide))); (have hL3 := grq.cl ((hL.alloc _).alloc _) (.inl (by decide))); (have hZ3 := grq.cl ((hZ.alloc _).alloc _) (.inl (by decide))); (have ou3 := grq.own ((ou.alloc _).alloc _) (by decide)); (have hB3 := grq.below (show Below w.heap.size w _ by (repeat (first | with_reducible exact Below.refl _ _ | with_reducible assumption | with_reducible refine below_drewN ?_ _ | with_reducible refine Below.drew ?_ | with_reducible refine Below.alloc ?_ (by first | omega | (simp; omega) | simp) _ | with_reducible refine Below.setCell ?_ (by first | omega | (simp; omega) | simp) _))) (by simp; omega) (by omega)); (obtain ⟨⟨q0, q1, q2⟩, q3, q4, q5⟩ := hO3.has3)) | (go_at_call 31; refine (rlines_calls _ q hq4).mono ?_; rintro e w9 ⟨rfl, rfl⟩; rw [HSS.out]))
              go_roundw
              case rel =>
                refine ⟨j + 1, n + s, HST.out, by omega, by go_num, ?_⟩
                rw [hS.out]
                exact ⟨Au, cu, Aq, cq, by (repeat (first | with_reducible assumption | with_reducible refine Cl.drewN ?_ _ | with_reducible refine Cl.drew ?_ | with_reducible refine Cl.alloc ?_ _ | with_reducible refine Cl.far ?_ (by first | with_reducible assumption | omega | (simp; omega) | simp) _)), by (repeat (first | with_reducible assumption | with_reducible refine Cl.drewN ?_ _ | with_reducible refine Cl.drew ?_ | with_reducible refine Cl.alloc ?_ _ | with_reducible refine Cl.far ?_ (by first | with_reducible assumption | omega | (simp; omega) | simp) _)), by simpa using hO3.set_ 1 _, own_far ou3 hO3 (by decide) 1 _, by rw [bksCells_snoc, List.length_append]; exact own_far ownq hO3 (by decide) 1 _, by (repeat (first | with_reducible exact Below.refl _ _ | with_reducible assumption | with_reducible refine below_drewN ?_ _ | with_reducible refine Below.drew ?_ | with_reducible refine Below.alloc ?_ (by first | omega | (simp; omega) | simp) _ | with_reducible refine Below.setCell ?_ (by first | omega | (simp; omega) | simp) _))⟩
              case measure => simp [intOf]; omega
            · obtain ⟨r, hr⟩ : ∃ r, rs[bj.length % rs.length]? = some r := ⟨_, List.getElem?_eq_getElem (Nat.mod_lt _ (by omega))⟩
              obtain ⟨br, orr, rfl, hbr, hrc⟩ := hrcell (by omega)
              obtain ⟨g0, g1⟩ := rawCells_get rs _ r hr
              have d0 := (hb.cell (p := ⟨br, orr + bj.length % rs.length * 2, none⟩) hbr).trans (hrc _ _ g0)
              have g1' : w.cell? ⟨br, orr + bj.length % rs.length * 2 + 1, none⟩ = some (.int .u16 (r.2 : Int)) := by rw [Nat.add_assoc]; exact hrc _ _ g1
              have d1 := (hb.cell (p := ⟨br, orr + bj.length % rs.length * 2 + 1, none⟩) hbr).trans g1'
              have hbr2 : br < wr.heap.size := by omega
              obtain ⟨h256, h65⟩ := hr8 r (List.mem_of_getElem? hr)
              obtain ⟨kd, hkd⟩ : ∃ kd, kd = r.1 % 7 := ⟨_, rfl⟩
              obtain ⟨gn, hgn⟩ : ∃ gn, gn = (r.2 + more) % 1048576 := ⟨_, rfl⟩
              have hraw : rawBk rs more bj.length (heap + 16 * k + n) q = (heap + 16 * k + n, (q : Int), (kd : Int), fixGen kd gn) := by
                have hk' : rawKind rs bj.length = (kd : Int) := by unfold rawKind; rw [hr, hkd]
                have hg' : rawGen rs more bj.length = (gn : Int) := by unfold rawGen; rw [hr, hgn]
                unfold rawBk
                rw [hk', hg']
              have b0 : decide (0 < rs.length) = true := by simp; omega
              have b1 : (0 : Int) ≤ (bj.length : Int) % (rs.length : Int) := Int.emod_nonneg _ (by omega)
              have b2 : (bj.length : Int) % (rs.length : Int) < (rs.length : Int) := Int.emod_lt_of_pos _ (by omega)
              have b3 : ((bj.length : Int) % (rs.length : Int)).toNat = bj.length % rs.length := by omega
              have e7 : (r.1 : Int) % 7 = (kd : Int) := by omega
              have eg : ((r.2 : Int) + (more : Int)) % 1048576 = (gn : Int) := by omega
              have hkd7 : kd < 7 := by omega
              have hgn20 : gn < 1048576 := by omega
              clear hrcell hrc g0 g1 g1' hr hkd hgn hr8 hr0
              by_cases hz : ¬ kd = 0 ∧ gn = 0
              · have hfx : fixGen kd gn = 1 := by unfold fixGen; rw [if_pos ⟨by omega, by omega⟩]
                rw [hraw, hfx] at hS
                obtain ⟨hz1', rfl⟩ := hz
                have c1 : ((kd : Int) != 0) = true := by simp; omega
                clear hraw hfx hz1'
                go_wp2_with (first | (at_builtin; refine wpList_append1 rfl (.tmp 92) (.tmp 94) 25 rfl (w.heap.size + 3) 40 i0 _ 4 32 Tryd.underlying25 hi0 hz0 hz1 hz2 rfl (by decide) (by decide) _ (bj.length) (bksCells bj) rfl ((((ov.alloc _).alloc _).alloc _)) (by omega) (wr.heap.size + 2) #[.int .i64 (heap + 16 * k + n), .int .i64 q, .int .i64 kd, .int .i64 1] rfl (Cl.new_ _ _ _ _ (by simp)) rfl (by simp [Value.oneCell']) (by simp; omega) ?_; intro Aq cq wq ownq grq; (have hO3 := grq.cl (((hO.alloc _).alloc _).alloc _) (.inl (by decide))); (have hL3 := grq.cl (((hL.alloc _).alloc _).alloc _) (.inl (by decide))); (have hZ3 := grq.cl (((hZ.alloc _).alloc _).alloc _) (.inl (by decide))); (have ou3 := grq.own (((ou.alloc _).alloc _).alloc _) (by decide)); (have hB3 := grq.below (show Below w.heap.size w _ by (repeat (first | with_reducible exact Below.refl _ _ | with_reducible assumption | with_reducible refine below_drewN ?_ _ | with_reducible refine Below.drew ?_ | with_reducible refine Below.alloc ?_ (by first | omega | (simp; omega) | simp) _ | with_reducible refine Below.setCell ?_ (by first | omega | (simp; omega) | simp) _))) (by simp; omega) (by omega)); (obtain ⟨⟨q0, q1, q2⟩, q3, q4, q5⟩ := hO3.has3)) | (go_at_call 31; refine (rlines_calls _ q hq4).mono ?_; rintro e w9 ⟨rfl, rfl⟩; rw [HSS.out]))
                go_roundw
                case rel =>
                  refine ⟨j + 1, n + s, HST.out, by omega, by go_num, ?_⟩
                  rw [hS.out]
                  exact ⟨Au, cu, Aq, cq, by (repeat (first | with_reducible assumption | with_reducible refine Cl.drewN ?_ _ | with_reducible refine Cl.drew ?_ | with_reducible refine Cl.alloc ?_ _ | with_reducible refine Cl.far ?_ (by first | with_reducible assumption | omega | (simp; omega) | simp) _)), by (repeat (first | with_reducible assumption | with_reducible refine Cl.drewN ?_ _ | with_reducible refine Cl.drew ?_ | with_reducible refine Cl.alloc ?_ _ | with_reducible refine Cl.far ?_ (by first | with_reducible assumption | omega | (simp; omega) | simp) _)), by simpa using hO3.set_ 1 _, own_far ou3 hO3 (by decide) 1 _, by rw [bksCells_snoc, List.length_append]; exact own_far ownq hO3 (by decide) 1 _, by (repeat (first | with_reducible exact Below.refl _ _ | with_reducible assumption | with_reducible refine below_drewN ?_ _ | with_reducible refine Below.drew ?_ | with_reducible refine Below.alloc ?_ (by first | omega | (simp; omega) | simp) _ | with_reducible refine Below.setCell ?_ (by first | omega | (simp; omega) | simp) _))⟩
                case measure => simp [intOf]; omega
              · have hfx : fixGen kd gn = gn := by unfold fixGen; rw [if_neg (by omega)]
                rw [hraw, hfx] at hS
                by_cases hk0 : kd = 0
                · subst hk0
                  clear hraw hfx hz
                  go_wp2_with (first | (at_builtin; refine wpList_append1 rfl (.tmp 92) (.tmp 94) 25 rfl (w.heap.size + 3) 40 i0 _ 4 32 Tryd.underlying25 hi0 hz0 hz1 hz2 rfl (by decide) (by decide) _ (bj.length) (bksCells bj) rfl ((((ov.alloc _).alloc _).alloc _)) (by omega) (wr.heap.size + 2) #[.int .i64 (heap + 16 * k + n), .int .i64 q, .int .i64 0, .int .i64 gn] rfl (Cl.new_ _ _ _ _ (by simp)) rfl (by simp [Value.oneCell']) (by simp; omega) ?_; intro Aq cq wq ownq grq; (have hO3 := grq.cl (((hO.alloc _).alloc _).alloc _) (.inl (by decide))); (have hL3 := grq.cl (((hL.alloc _).alloc _).alloc _) (.inl (by decide))); (have hZ3 := grq.cl (((hZ.alloc _).alloc _).alloc _) (.inl (by decide))); (have ou3 := grq.own (((ou.alloc _).alloc _).alloc _) (by decide)); (have hB3 := grq.below (show Below w.heap.size w _ by (repeat (first | with_reducible exact Below.refl _ _ | with_reducible assumption | with_reducible refine below_drewN ?_ _ | with_reducible refine Below.drew ?_ | with_reducible refine Below.alloc ?_ (by first | omega | (simp; omega) | simp) _ | with_reducible refine Below.setCell ?_ (by first | omega | (simp; omega) | simp) _))) (by simp; omega) (by omega)); (obtain ⟨⟨q0, q1, q2⟩, q3, q4, q5⟩ := hO3.has3)) | (go_at_call 31; refine (rlines_calls _ q hq4).mono ?_; rintro e w9 ⟨rfl, rfl⟩; rw [HSS.out]))
                  go_roundw
                  case rel =>
                    refine ⟨j + 1, n + s, HST.out, by omega, by go_num, ?_⟩
                    rw [hS.out]
                    exact ⟨Au, cu, Aq, cq, by (repeat (first | with_reducible assumption | with_reducible refine Cl.drewN ?_ _ | with_reducible refine Cl.drew ?_ | with_reducible refine Cl.alloc ?_ _ | with_reducible refine Cl.far ?_ (by first | with_reducible assumption | omega | (simp; omega) | simp) _)), by (repeat (first | with_reducible assumption | with_reducible refine Cl.drewN ?_ _ | with_reducible refine Cl.drew ?_ | with_reducible refine Cl.alloc ?_ _ | with_reducible refine Cl.far ?_ (by first | with_reducible assumption | omega | (simp; omega) | simp) _)), by simpa using hO3.set_ 1 _, own_far ou3 hO3 (by decide) 1 _, by rw [bksCells_snoc, List.length_append]; exact own_far ownq hO3 (by decide) 1 _, by (repeat (first | with_reducible exact Below.refl _ _ | with_reducible assumption | with_reducible refine below_drewN ?_ _ | with_reducible refine Below.drew ?_ | with_reducible refine Below.alloc ?_ (by first | omega | (simp; omega) | simp) _ | with_reducible refine Below.setCell ?_ (by first | omega | (simp; omega) | simp) _))⟩
                  case measure => simp [intOf]; omega
                · have hg0 : ¬ gn = 0 := fun h => hz ⟨hk0, h⟩
                  have c1 : ((kd : Int) != 0) = true := by simp; omega
                  have c2 : ((gn : Int) == 0) = false := by simp; omega
                  clear hraw hfx hz hk0 hg0
                  go_wp2_with (first | (at_builtin; refine wpList_append1 rfl (.tmp 92) (.tmp 94) 25 rfl (w.heap.size + 3) 40 i0 _ 4 32 Tryd.underlying25 hi0 hz0 hz1 hz2 rfl (by decide) (by decide) _ (bj.length) (bksCells bj) rfl ((((ov.alloc _).alloc _).alloc _)) (by omega) (wr.heap.size + 2) #[.int .i64 (heap + 16 * k + n), .int .i64 q, .int .i64 kd, .int .i64 gn] rfl (Cl.new_ _ _ _ _ (by simp)) rfl (by simp [Value.oneCell']) (by simp; omega) ?_; intro Aq cq wq ownq grq; (have hO3 := grq.cl (((hO.alloc _).alloc _).alloc _) (.inl (by decide))); (have hL3 := grq.cl (((hL.alloc _).alloc _).alloc _) (.inl (by decide))); (have hZ3 := grq.cl (((hZ.alloc _).alloc _).alloc _) (.inl (by decide))); (have ou3 := grq.own (((ou.alloc _).alloc _).alloc _) (by decide)); (have hB3 := grq.below (show Below w.heap.size w _ by (repeat (first | with_reducible exact Below.refl _ _ | with_reducible assumption | with_reducible refine below_drewN ?_ _ | with_reducible refine Below.drew ?_ | with_reducible refine Below.alloc ?_ (by first | omega | (simp; omega) | simp) _ | with_reducible refine Below.setCell ?_ (by first | omega | (simp; omega) | simp) _))) (by simp; omega) (by omega)); (obtain ⟨⟨q0, q1, q2⟩, q3, q4, q5⟩ := hO3.has3)) | (go_at_call 31; refine (rlines_calls _ q hq4).mono ?_; rintro e w9 ⟨rfl, rfl⟩; rw [HSS.out]))
                  go_roundw
                  case rel =>
                    refine ⟨j + 1, n + s, HST.out, by omega, by go_num, ?_⟩
                    rw [hS.out]
                    exact ⟨Au, cu, Aq, cq, by (repeat (first | with_reducible assumption | with_reducible refine Cl.drewN ?_ _ | with_reducible refine Cl.drew ?_ | with_reducible refine Cl.alloc ?_ _ | with_reducible refine Cl.far ?_ (by first | with_reducible assumption | omega | (simp; omega) | simp) _)), by (repeat (first | with_reducible assumption | with_reducible refine Cl.drewN ?_ _ | with_reducible refine Cl.drew ?_ | with_reducible refine Cl.alloc ?_ _ | with_reducible refine Cl.far ?_ (by first | with_reducible assumption | omega | (simp; omega) | simp) _)), by simpa using hO3.set_ 1 _, own_far ou3 hO3 (by decide) 1 _, by rw [bksCells_snoc, List.length_append]; exact own_far ownq hO3 (by decide) 1 _, by (repeat (first | with_reducible exact Below.refl _ _ | with_reducible assumption | with_reducible refine below_drewN ?_ _ | with_reducible refine Below.drew ?_ | with_reducible refine Below.alloc ?_ (by first | omega | (simp; omega) | simp) _ | with_reducible refine Below.setCell ?_ (by first | omega | (simp; omega) | simp) _))⟩
                  case measure => simp [intOf]; omega
          · have hjm : j = m := by
              have := fun h : j < m => hn16 (hst1.1 h)
              omega
            subst hjm
            clear hst1 hst2
            go_wp2_with fail
            go_roundw
            case rel =>
              refine ⟨k + 1, by omega, by go_num, ?_⟩
              rw [hF.out, HUS2.out]
              exact ⟨Au, cu, Av, cv, hL, hZ, hO, ou, ov, hb⟩
            case measure => simp [intOf]; omega
      · have hE : Hid (picC cls (k + 1) = picC cls k ++ [-1]) := by
          show _ = _
          simp only [picC, List.getElem?_eq_none (Nat.le_of_not_lt hlt)]
        have hF : Hid (picB heap cls rs more (k + 1) = picB heap cls rs more k) := by
          show _ = _
          simp only [picB, List.getElem?_eq_none (Nat.le_of_not_lt hlt)]
        clear hlu hlb hccell hrcell
        generalize picC cls k = us at *
        generalize picB heap cls rs more k = bs at *
        go_wp2_with (at_builtin; refine wpList_append1 rfl (.tmp 27) (.tmp 28) 24 rfl (w.heap.size + 3) 3 j0 _ 1 8 Tryd.underlying24 hj0 hy0 hy1 hy2 rfl (by decide) (by decide) _ (us.length) (us.map (Value.int .i64)) rfl (ou.alloc _) (by omega) (wr.heap.size) #[.int .i64 (-1)] rfl (Cl.new_ _ _ _ _ (by simp)) rfl (by simp [Value.oneCell']) (by simp; omega) ?_; intro Aq cq wq ownq grq; (have hO3 := grq.cl (hO.alloc _) (.inl (by decide))); (have hL3 := grq.cl (hL.alloc _) (.inl (by decide))); (have hZ3 := grq.cl (hZ.alloc _) (.inl (by decide))); (have ov3 := grq.own (ov.alloc _) (by decide)); (have hB3 := grq.below (show Below w.heap.size w _ by (repeat (first | with_reducible exact Below.refl _ _ | with_reducible assumption | with_reducible refine below_drewN ?_ _ | with_reducible refine Below.drew ?_ | with_reducible refine Below.alloc ?_ (by first | omega | (simp; omega) | simp) _ | with_reducible refine Below.setCell ?_ (by first | omega | (simp; omega) | simp) _))) (by simp; omega) (by omega)); (obtain ⟨⟨q0, q1, q2⟩, q3, q4, q5⟩ := hO3.has3))
        go_roundw
        case rel =>
          refine ⟨k + 1, by omega, by go_num, ?_⟩
          rw [hE.out, hF.out]
          exact ⟨Aq, cq, Av, cv, by (repeat (first | with_reducible assumption | with_reducible refine Cl.drewN ?_ _ | with_reducible refine Cl.drew ?_ | with_reducible refine Cl.alloc ?_ _ | with_reducible refine Cl.far ?_ (by first | with_reducible assumption | omega | (simp; omega) | simp) _)), by (repeat (first | with_reducible assumption | with_reducible refine Cl.drewN ?_ _ | with_reducible refine Cl.drew ?_ | with_reducible refine Cl.alloc ?_ _ | with_reducible refine Cl.far ?_ (by first | with_reducible assumption | omega | (simp; omega) | simp) _)), by simpa using hO3.set_ 0 _, by simpa using own_far ownq hO3 (by decide) 0 _, own_far ov3 hO3 (by decide) 0 _, by (repeat (first | with_reducible exact Below.refl _ _ | with_reducible assumption | with_reducible refine below_drewN ?_ _ | with_reducible refine Below.drew ?_ | with_reducible refine Below.alloc ?_ (by first | omega | (simp; omega) | simp) _ | with_reducible refine Below.setCell ?_ (by first | omega | (simp; omega) | simp) _))⟩
        case measure => simp [intOf]; omega
    · obtain rfl : k = chunks := by omega
      obtain ⟨⟨z0, z1, z2⟩, z3, z4, z5⟩ := hZ.has3
      clear hlu hlb hccell hrcell
      go_wp2_with fail
      refine bodyPost_ret (v := .agg #[.slice Au (picC cls k).length cu, .slice Av (picB heap cls rs more k).length cv, .slice none 0 0]) ?_ rfl ⟨_, _, _, rfl, Rd.own (own_far3 ou hZ (by decide) _ _ _), own_base (own_far3 ov hZ (by decide) _ _ _) (by omega), Rd.nil_ _ _ _, by (repeat (first | with_reducible exact Below.refl _ _ | with_reducible assumption | with_reducible refine below_drewN ?_ _ | with_reducible refine Below.drew ?_ | with_reducible refine Below.alloc ?_ (by first | omega | (simp; omega) | simp) _ | with_reducible refine Below.setCell ?_ (by first | omega | (simp; omega) | simp) _))⟩
      simp [results, Tryd.results14, go_sem, *]
end Go.Proofs.YtidiapfmjalaiaaDoor
