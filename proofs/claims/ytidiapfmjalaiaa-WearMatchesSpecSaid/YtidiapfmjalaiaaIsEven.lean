/-
  WearEvenIsEven returns true, whatever its arguments.
-/
import Derived.Test.YtidiapfmjalaiaaEven
import Derived.Test.YtidiapfmjalaiaaSanity
import Derived.Test.YtidiapfmjalaiaaEvenLaw
namespace Go.Proofs.Ytidiapfmjalaiaa
open Go.RowKit

theorem PicB.forms {w w' : World} {cs : List Int} {bs : List Bk} {ds : List Int} {yes : Bool} {e : Ending} (h : PicB w cs bs ds yes e w') :
    ∃ A1 c1 A2 c2 A3 c3, e = .returned (.tuple #[.agg #[.slice A1 cs.length c1, .slice A2 bs.length c2, .slice A3 ds.length c3], .bool yes]) ∧ RdI w' (.slice A1 cs.length c1) cs ∧ RdB w' (.slice A2 bs.length c2) bs ∧ RdI w' (.slice A3 ds.length c3) ds ∧ Below w.heap.size w w' := by
  obtain ⟨ch, bl, bd, he, h1, h2, h3, hb⟩ := h
  obtain ⟨A1, c1, rfl⟩ := Rd.form h1
  obtain ⟨A2, c2, rfl⟩ := Rd.form h2
  obtain ⟨A3, c3, rfl⟩ := Rd.form h3
  exact ⟨A1, c1, A2, c2, A3, c3, he, h1, h2, h3, hb⟩

def IsEvenRel (w : World) (gx g t : Nat) (cs : List Int) (i : Value) (wr : World) : Prop :=
  ∃ (k : Nat) (m : Int) (bs : List Bk), k ≤ t ∧ i = .int .i64 k ∧ Pic wr gx cs bs [] ∧ EvenInv bs m ∧ m ≤ g + k ∧ bs.length ≤ 1000 ∧ Below w.heap.size w wr

theorem even_gen {bs : List Bk} {m : Int} (h : EvenInv bs m) (hm : m ≤ 1000000) : GenOk 2000000 bs := fun b hb => by
  have := h.2.2 b hb
  have := h.2.1
  omega
theorem even_gen' {bs : List Bk} {m : Int} {n : Bk} (h : EvenInv bs m) (hm : m ≤ 1000000) : GenOk 2000000 (bs.map (takenF n)) := by
  intro b hb
  simp only [List.mem_map] at hb
  obtain ⟨a, ha, rfl⟩ := hb
  have h1 := h.2.2 a (by simpa using ha)
  have h0 := h.2.1
  unfold takenF
  split
  · show 0 ≤ a.gen + 1 ∧ a.gen + 1 ≤ 2000000
    omega
  · omega

set_option maxHeartbeats 2000000 in
theorem isEven_calls (w : World) (a g s : Nat) (ha : a < 256) (hg : g < 65536) (hs : s < 256) :
    Calls Try.prog 5 #[.int .u8 (a : Int), .int .u16 (g : Int), .int .u8 (s : Int)] w (SanePost w) := by
  obtain ⟨n, hn⟩ : ∃ n : Nat, n = 1 + a % 12 := ⟨_, rfl⟩
  obtain ⟨t, ht⟩ : ∃ t : Nat, t = s % 201 := ⟨_, rfl⟩
  have e12 : (1 : Int) + (a : Int) % 12 = (n : Int) := by omega
  have e201 : (s : Int) % 201 = (t : Int) := by omega
  have hn1 : 1 ≤ n := by omega
  have hn2 : n ≤ 12 := by omega
  have ht2 : t ≤ 200 := by omega
  clear hn ht
  have hstart := Lib.hid (even_start n g hn1 (by omega))
  have hlen := picB_length 32 (List.replicate n 4) [(0, 0)] g 14
  have hclen : (picC (List.replicate n 4) 14).length = 14 := picC_length _ _
  go_enter Try.func5, Try.ntmps5
  go_wp2_with fail
  refine (even_calls _ n g hn1 hn2 (by omega)).mono ?_
  rintro e w1 h1
  obtain ⟨A1, c1, A2, c2, A3, c3, rfl, r1, r2, r3, hb1⟩ := h1.one.forms
  have hP := Pic.new r1 r2 r3
  have hcl : (picC (List.replicate n 4) 14).length ≤ 1000 := by omega
  clear h1 r1 r2 r3 hclen
  generalize picC (List.replicate n 4) 14 = cs at *
  generalize picB 32 (List.replicate n 4) [(0, 0)] g 14 = bs0 at *
  have hs1 := hb1.size
  go_wp2_with fail
  go_loopw [8, 9, 10] (fun i _ _ wr => IsEvenRel w w1.heap.size g t cs i wr) (fun i _ _ _ => t - (intOf i).toNat)
  case atStart => exact ⟨0, g, bs0, Nat.zero_le _, rfl, hP, hstart.out, by omega, by omega, by (repeat (first | with_reducible exact Below.refl _ _ | with_reducible assumption | with_reducible refine below_drewN ?_ _ | with_reducible refine Below.drew ?_ | with_reducible refine Below.alloc ?_ (by first | omega | (simp; omega) | simp) _ | with_reducible refine Below.setCell ?_ (by first | omega | (simp; omega) | simp) _))⟩
  case round =>
    clear hP hstart hlen hb1
    obtain ⟨k, m, bs, hk, rfl, hP, hE, hm, hbl, hb⟩ := hrel
    obtain ⟨B1, d1, B2, d2, B3, d3, hC, p1, p2, p3⟩ := hP
    have hlx := hC.lt
    obtain ⟨⟨x0, x1, x2⟩, -⟩ := hC.has3
    have HE := Lib.hid hE
    by_cases hlt : k < t
    · obtain ⟨nb, m', hnx, hm1, hm2, hsp, hu0, hu1, hu2, hu3, hlv, hE'⟩ := even_step hE
      have hg2 := even_gen' (n := nb) hE (by omega)
      have hm0 := hE.2.1
      clear hE
      go_wp2_with fail
      refine (taken_some _ _ _ _ cs bs [] 4 nb p1 p2 p3 hbl (even_gen HE.out (by omega)) hnx).mono ?_
      rintro e w2 h2
      obtain ⟨C1, f1, C2, f2, C3, f3, rfl, q1, q2, q3, hb2⟩ := h2.forms
      have hC2 := hC.below hb2 hC.lt
      have hB2 := hb.trans (hb2.mono hb.size)
      have hY := Cl.new w2 31 #[.slice C1 cs.length f1, .slice C2 (bs.map (takenF nb)).length f2, .slice C3 0 f3]
      have hl2 : (bs.map (takenF nb)).length ≤ 1000 := by rw [List.length_map]; exact hbl
      clear h2 hb2 hC hb x0 x1 x2 hlx p1 p2 p3 hnx
      have HLV := Lib.hid hlv
      have HE' := Lib.hid hE'
      clear hlv hE'
      have hlx := hC2.lt
      generalize hbs1 : bs.map (takenF nb) = bs1 at *
      have HB1 := Lib.hid hbs1
      clear hbs1
      go_wp2_with fail
      refine (wear_moves_calls _ _ _ _ cs bs1 [] 4 1 (q1.below (by (repeat (first | with_reducible exact Below.refl _ _ | with_reducible assumption | with_reducible refine below_drewN ?_ _ | with_reducible refine Below.drew ?_ | with_reducible refine Below.alloc ?_ (by first | omega | (simp; omega) | simp) _ | with_reducible refine Below.setCell ?_ (by first | omega | (simp; omega) | simp) _)))) (q2.below (by (repeat (first | with_reducible exact Below.refl _ _ | with_reducible assumption | with_reducible refine below_drewN ?_ _ | with_reducible refine Below.drew ?_ | with_reducible refine Below.alloc ?_ (by first | omega | (simp; omega) | simp) _ | with_reducible refine Below.setCell ?_ (by first | omega | (simp; omega) | simp) _)))) (q3.below (by (repeat (first | with_reducible exact Below.refl _ _ | with_reducible assumption | with_reducible refine below_drewN ?_ _ | with_reducible refine Below.drew ?_ | with_reducible refine Below.alloc ?_ (by first | omega | (simp; omega) | simp) _ | with_reducible refine Below.setCell ?_ (by first | omega | (simp; omega) | simp) _)))) hcl hl2 (by simp) hg2 (by omega)).mono ?_
      rintro e w3 ⟨D1, g1, rfl, -, hb3⟩
      rw [moves_of_level HLV.out]
      have hA3 : Below w2.heap.size w2 w3 := Below.trans (by (repeat (first | with_reducible exact Below.refl _ _ | with_reducible assumption | with_reducible refine below_drewN ?_ _ | with_reducible refine Below.drew ?_ | with_reducible refine Below.alloc ?_ (by first | omega | (simp; omega) | simp) _ | with_reducible refine Below.setCell ?_ (by first | omega | (simp; omega) | simp) _))) (hb3.mono (by simp))
      have hC3 := hC2.below hA3 hC2.lt
      have hB3 := hB2.trans (hA3.mono hB2.size)
      have hY3 := hY.below hb3 (by simp)
      replace q1 := q1.below hA3
      replace q2 := q2.below hA3
      replace q3 := q3.below hA3
      clear hb3 hA3 hC2 hB2 hY
      obtain ⟨⟨y0, y1, y2⟩, -⟩ := hY3.has3
      have hly := hY3.lt
      go_wp2_with fail
      refine (spread_calls _ _ _ _ bs1 4 q2 hl2).mono ?_
      rintro e w4 ⟨rfl, hb4⟩
      rw [show wrap64 ((useOf bs1 4).2.1 - (useOf bs1 4).1) = (useOf bs1 4).2.1 - (useOf bs1 4).1 from IntWalk.wrap64_in _ ⟨by omega, by omega⟩]
      have hC4 := hC3.below hb4 hC3.lt
      have hB4 := hB3.trans (hb4.mono hB3.size)
      have hY4 := hY3.below hb4 hY3.lt
      replace q1 := q1.below hb4
      replace q2 := q2.below hb4
      replace q3 := q3.below hb4
      clear hb4 hC3 hB3 hY3 y0 y1 y2 hly
      obtain ⟨⟨y0, y1, y2⟩, -⟩ := hY4.has3
      have hly := hY4.lt
      go_wp2_with fail
      refine (given_calls _ _ _ _ cs bs1 [] 4 0 q1 q2 q3 hl2 (by omega)).mono ?_
      rintro e w5 h5
      obtain ⟨E1, e1, E2, e2, E3, e3, rfl, v1, v2, v3, hb5⟩ := h5.forms
      have hC5 := hC4.below hb5 hC4.lt
      have hB5 := hB4.trans (hb5.mono hB4.size)
      have hl5 : (givenB bs1 4 0).length ≤ 1000 := by rw [givenB, List.length_map]; exact hl2
      clear h5 hb5 hC4 hB4 hY4 y0 y1 y2 hly q1 q2 q3
      obtain ⟨⟨x0, x1, x2⟩, x3, x4, x5⟩ := hC5.has3
      go_wp2_with fail
      go_roundw
      case rel => exact ⟨k + 1, m', givenB bs1 4 0, by omega, by go_num, ⟨E1, e1, E2, e2, E3, e3, hC5.set3 _ _ _, v1.far3 hC5 (by decide) _ _ _, v2.far3 hC5 (by decide) _ _ _, v3.far3 hC5 (by decide) _ _ _⟩, HE'.out, by omega, hl5, by (repeat (first | with_reducible exact Below.refl _ _ | with_reducible assumption | with_reducible refine below_drewN ?_ _ | with_reducible refine Below.drew ?_ | with_reducible refine Below.alloc ?_ (by first | omega | (simp; omega) | simp) _ | with_reducible refine Below.setCell ?_ (by first | omega | (simp; omega) | simp) _))⟩
      case measure => simp [intOf]; omega
    · have hgen := even_gen hE (by omega)
      have HLV := Lib.hid (even_end hE)
      clear hE
      go_wp2_with fail
      refine (sanity_calls _).mono ?_
      rintro e w2 ⟨rfl, hb2⟩
      have hC2 := hC.below hb2 hC.lt
      have hB2 := hb.trans (hb2.mono hb.size)
      replace p1 := p1.below hb2
      replace p2 := p2.below hb2
      replace p3 := p3.below hb2
      clear hb2 hC hb x0 x1 x2
      obtain ⟨⟨x0, x1, x2⟩, -⟩ := hC2.has3
      go_wp2_with fail
      refine (wear_moves_calls _ _ _ _ cs bs [] 4 1 p1 p2 p3 hcl hbl (by simp) hgen (by omega)).mono ?_
      rintro e w3 ⟨D1, g1, rfl, -, hb3⟩
      rw [moves_of_level HLV.out]
      have hB3 := hB2.trans (hb3.mono hB2.size)
      clear hb3
      go_wp2_with fail
      go_ret
      exact ⟨rfl, hB3⟩
end Go.Proofs.Ytidiapfmjalaiaa
