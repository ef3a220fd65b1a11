/-
  given: the picture in which some used block of a class is free.
-/
import Derived.Test.YtidiapfmjalaiaaTaken
namespace Go.Proofs.Ytidiapfmjalaiaa
open Go.RowKit

def PicOne (w : World) (cs : List Int) (bs : List Bk) (ds : List Int) (e : Ending) (w' : World) : Prop :=
  ∃ ch bl bd, e = .returned (.agg #[ch, bl, bd]) ∧ RdI w' ch cs ∧ RdB w' bl bs ∧ RdI w' bd ds ∧ Below w.heap.size w w'

theorem own_drewN {w : World} {base : Nat} {e : TypeId} {size n : Nat} {v : Value} {xs : List Value} (h : w.ownsRow base e size v n xs) (k : Nat) : (w.drewN k).ownsRow base e size v n xs := h
theorem Rd.drewN {w : World} {e : TypeId} {size n : Nat} {v : Value} {xs : List Value} (h : Rd w e size v n xs) (k : Nat) : Rd (w.drewN k) e size v n xs := h
theorem Rd.alloc {w : World} {e : TypeId} {size n : Nat} {v : Value} {xs : List Value} (h : Rd w e size v n xs) (o : Obj) : Rd (w.alloc o) e size v n xs := h.below ((Below.refl _ _).alloc (Nat.le_refl _) _)

theorem own_else {w : World} {base : Nat} {e : TypeId} {size n : Nat} {v : Value} {xs : List Value} (h : w.ownsRow base e size v n xs) {p : Addr} (hp : ∀ k, v.ownBlock = some k → k ≠ p.block) (u : Value) : (w.setCell p u).ownsRow base e size v n xs := by
  refine ⟨h.1, ?_⟩
  rcases h.2 with hn | ⟨g, cap, cur, rfl, hbg, hg, rest⟩
  · exact .inl hn
  · exact .inr ⟨g, cap, cur, rfl, hbg, (Below.heap_setCell w p u g (hp g rfl)).trans hg, rest⟩

def GivenRel1 (w : World) (pic : Array Value) (bs : List Bk) (c : Int) (v i : Value) (wr : World) : Prop :=
  ∃ k : Nat, k ≤ bs.length ∧ i = .int .i64 k ∧ Cl wr w.heap.size 31 pic ∧ Cl wr (w.heap.size + 1) 31 #[.slice none 0 0, .slice none 0 0, .slice none 0 0] ∧
    wr.ownsRow (w.heap.size + 2) 3 1 v (usedLines (bs.take k) c).length ((usedLines (bs.take k) c).map (Value.int .i64)) ∧ Below w.heap.size w wr

def GivenRel2 (w w1 : World) (pic : Array Value) (ch bd u : Value) (us : List Int) (bs : List Bk) (F : Bk → Bk) (i : Value) (wr : World) : Prop :=
  ∃ (k : Nat) (v : Value), k ≤ bs.length ∧ i = .int .i64 k ∧ Cl wr w1.heap.size 31 #[ch, v, bd] ∧ Cl wr w.heap.size 31 pic ∧
      Cl wr (w.heap.size + 1) 31 #[.slice none 0 0, .slice none 0 0, .slice none 0 0] ∧ RdI wr u us ∧ wr.ownsRow (w1.heap.size + 1) 25 4 v k (bksCells ((bs.take k).map F)) ∧ Below w.heap.size w wr

set_option maxHeartbeats 2000000 in
theorem given_calls (w : World) (ch bl bd : Value) (cs : List Int) (bs : List Bk) (ds : List Int) (c : Int) (n : Nat) (hC : RdI w ch cs) (hR : RdB w bl bs) (hD : RdI w bd ds) (hn : bs.length ≤ 1000) (hn8 : n < 256) :
    Calls Try.prog 26 #[.agg #[ch, bl, bd], .int .i64 c, .int .u8 (n : Int)] w (PicOne w cs (givenB bs c n) ds) := by
  obtain ⟨i0, hi0, hz0, hz1, hz2⟩ := info_parts blk_info
  obtain ⟨j0, hj0, hy0, hy1, hy2⟩ := info_parts int_info
  obtain ⟨Ac, cc, rfl⟩ := Rd.form hC
  obtain ⟨Ad, cd, rfl⟩ := Rd.form hD
  obtain ⟨Ab, cb, rfl, _, hcell⟩ := hR.at_
  go_enter Try.func26, Try.ntmps26
  go_wp2_with fail
  go_loopw [7, 8] (fun v i wr => GivenRel1 w #[.slice Ac cs.length cc, .slice Ab bs.length cb, .slice Ad ds.length cd] bs c v i wr) (fun _ i _ => bs.length - (intOf i).toNat)
  case atStart => exact ⟨0, Nat.zero_le _, rfl, (Cl.new _ _ _).alloc _, Cl.new_ _ _ _ _ (by simp), World.ownsRow_nil _ _ _ _, by (repeat (first | with_reducible exact Below.refl _ _ | with_reducible assumption | with_reducible refine below_drewN ?_ _ | with_reducible refine Below.drew ?_ | with_reducible refine Below.alloc ?_ (by first | omega | (simp; omega) | simp) _ | with_reducible refine Below.setCell ?_ (by first | omega | (simp; omega) | simp) _))⟩
  case round =>
    obtain ⟨k, hk, rfl, hP, hZ, hown, hb⟩ := hrel
    have hs1 := hP.lt
    have hs2 := hZ.lt
    obtain ⟨⟨p0, p1, p2⟩, -⟩ := hP.has3
    obtain ⟨Av, cv, rfl⟩ := (Rd.own hown).form
    have hul := usedLines_length bs c k
    by_cases hlt : k < bs.length
    · obtain ⟨b, o, rfl, hlt2, hc⟩ := hcell k hlt
      obtain ⟨x, hx⟩ : ∃ x, bs[k]? = some x := ⟨_, List.getElem?_eq_getElem hlt⟩
      obtain ⟨c0', c1', c2', c3'⟩ := hc x hx
      have d0 := (hb.cell (p := ⟨b, o + k * 4, none⟩) hlt2).trans c0'
      have d1 := (hb.cell (p := ⟨b, o + k * 4 + 1, none⟩) hlt2).trans c1'
      have d2 := (hb.cell (p := ⟨b, o + k * 4 + 2, none⟩) hlt2).trans c2'
      have hS := Lib.hid (usedLines_snoc bs c k x hx)
      clear hc c0' c1' c2' c3' hcell hx hR hC hD
      cases hu : usedB x.cls x.kind c
      · have hE : Hid (usedLines (bs.take (k + 1)) c = usedLines (bs.take k) c) := by show _ = _; rw [hS.out, hu]; simp
        by_cases h1 : x.cls = c
        · have b1 : (x.cls == c) = true := by simp [h1]
          have b2 : (x.kind != 0) = false := by simpa [usedB, h1] using hu
          clear hS hu h1
          go_wp2_with fail
          go_roundw
          case rel => exact ⟨k + 1, by omega, by go_num, hP, hZ, by rw [hE.out]; exact hown, hb⟩
          case measure => simp [intOf]; omega
        · have b1 : (x.cls == c) = false := by simp [h1]
          clear hS hu h1
          go_wp2_with fail
          go_roundw
          case rel => exact ⟨k + 1, by omega, by go_num, hP, hZ, by rw [hE.out]; exact hown, hb⟩
          case measure => simp [intOf]; omega
      · have hE : Hid (usedLines (bs.take (k + 1)) c = usedLines (bs.take k) c ++ [x.line]) := by show _ = _; rw [hS.out, hu]; simp
        have hu' : x.cls = c ∧ ¬ x.kind = 0 := by simpa [usedB] using hu
        have b1 : (x.cls == c) = true := by simp [hu'.1]
        have b2 : (x.kind != 0) = true := by simp [hu'.2]
        clear hS hu hu'
        generalize usedLines (bs.take k) c = us at *
        go_wp2_with (at_builtin; refine wpList_append1 rfl (.tmp 36) (.tmp 43) 28 rfl (w.heap.size + 2) 3 j0 _ 1 8 Try.underlying28 hj0 hy0 hy1 hy2 rfl (by decide) (by decide) _ (us.length) (us.map (Value.int .i64)) rfl (hown.alloc _) (by omega) (wr.heap.size) #[.int .i64 x.line] rfl (Cl.new_ _ _ _ _ (by simp)) rfl (by simp [Value.oneCell']) (by simp; omega) ?_; intro Aq cq wq ownq grq; (have hP3 := grq.cl (hP.alloc _) (.inl (by decide))); (have hZ3 := grq.cl (hZ.alloc _) (.inl (by decide))); (have hB3 := grq.below (show Below w.heap.size w _ by (repeat (first | with_reducible exact Below.refl _ _ | with_reducible assumption | with_reducible refine below_drewN ?_ _ | with_reducible refine Below.drew ?_ | with_reducible refine Below.alloc ?_ (by first | omega | (simp; omega) | simp) _ | with_reducible refine Below.setCell ?_ (by first | omega | (simp; omega) | simp) _))) (by simp; omega) (by omega)))
        go_roundw
        case rel => exact ⟨k + 1, by omega, by go_num, hP3, hZ3, by rw [hE.out]; simpa using ownq, hB3⟩
        case measure => simp [intOf]; omega
    · obtain ⟨w1, hw1⟩ : ∃ w1 : World, w1 = wr := ⟨_, rfl⟩
      subst hw1
      have hus : usedLines (bs.take k) c = usedLines bs c := by rw [List.take_of_length_le (by omega)]
      generalize usedLines (bs.take k) c = us at *
      have HUS := Lib.hid hus
      clear hus
      go_wp2_with fail
      go_loopw [10, 11] (fun i _ wr => GivenRel2 w w1 #[.slice Ac cs.length cc, .slice Ab bs.length cb, .slice Ad ds.length cd] (.slice Ac cs.length cc) (.slice Ad ds.length cd) (.slice Av us.length cv) us bs (givenF us[n % us.length]?) i wr) (fun i _ _ => bs.length - (intOf i).toNat)
      case atStart => exact ⟨0, _, Nat.zero_le _, rfl, Cl.new_ _ _ _ _ rfl, hP.alloc _, hZ.alloc _, Rd.own (hown.alloc _), World.ownsRow_nil _ _ _ _, by (repeat (first | with_reducible exact Below.refl _ _ | with_reducible assumption | with_reducible refine below_drewN ?_ _ | with_reducible refine Below.drew ?_ | with_reducible refine Below.alloc ?_ (by first | omega | (simp; omega) | simp) _ | with_reducible refine Below.setCell ?_ (by first | omega | (simp; omega) | simp) _))⟩
      case round =>
        have hs9 := hs2
        clear hP hZ hown hb p0 p1 p2 hs1 hs2
        obtain ⟨k, v, hk, rfl, hO, hP, hZ, hU, hown, hb⟩ := hrel
        have hs1 := hO.lt
        have hs2 := hb.size
        have hs3 := hP.lt
        have hs4 := hZ.lt
        obtain ⟨⟨p0, p1, p2⟩, -⟩ := hP.has3
        by_cases hlt : k < bs.length
        · obtain ⟨b, o, rfl, hlt2, hc⟩ := hcell k hlt
          obtain ⟨x, hx⟩ : ∃ x, bs[k]? = some x := ⟨_, List.getElem?_eq_getElem hlt⟩
          obtain ⟨c0', c1', c2', c3'⟩ := hc x hx
          have d0 := (hb.cell (p := ⟨b, o + k * 4, none⟩) hlt2).trans c0'
          have d1 := (hb.cell (p := ⟨b, o + k * 4 + 1, none⟩) hlt2).trans c1'
          have d2 := (hb.cell (p := ⟨b, o + k * 4 + 2, none⟩) hlt2).trans c2'
          have d3 := (hb.cell (p := ⟨b, o + k * 4 + 3, none⟩) hlt2).trans c3'
          have hS := Lib.hid (map_snoc (givenF us[n % us.length]?) bs k x hx)
          obtain ⟨Av2, cv2, rfl⟩ := (Rd.own hown).form
          clear hc c0' c1' c2' c3' hcell hx hR hC hD
          obtain ⟨⟨q0, q1, q2⟩, q3, q4, q5⟩ := hO.has3
          by_cases hu0 : us.length = 0
          · have hF : givenF us[n % us.length]? x = x := by
              have : us = [] := List.eq_nil_of_length_eq_zero hu0
              subst this
              rfl
            rw [hF] at hS
            have b0 : decide (0 < us.length) = false := by simp [hu0]
            clear hF hu0
            go_wp2_with fail
            go_quiet (fail)
            go_wp2_with (at_builtin; refine wpList_append1 rfl (.tmp 80) (.tmp 82) 29 rfl (w1.heap.size + 1) 25 i0 _ 4 32 Try.underlying29 hi0 hz0 hz1 hz2 rfl (by decide) (by decide) _ (k) (bksCells ((bs.take k).map (givenF us[n % us.length]?))) rfl ((own_drewN (hown.alloc _) _).alloc _) (by omega) (wr.heap.size + 1) #[.int .i64 (Bk.line x), .int .i64 (Bk.cls x), .int .i64 (Bk.kind x), .int .i64 (Bk.gen x)] rfl (Cl.new_ _ _ _ _ (by simp)) rfl (by simp [Value.oneCell']) (by simp; omega) ?_; intro Aq cq wq ownq grq; (have hO3 := grq.cl (((hO.alloc _).drewN _).alloc _) (.inl (by decide))); (have hP3 := grq.cl (((hP.alloc _).drewN _).alloc _) (.inl (by decide))); (have hZ3 := grq.cl (((hZ.alloc _).drewN _).alloc _) (.inl (by decide))); (have hU3 := grq.rd (Rd.alloc (Rd.drewN (Rd.alloc hU _) _) _) (by decide)); (have hB3 := grq.below (show Below w.heap.size w _ by (repeat (first | with_reducible exact Below.refl _ _ | with_reducible assumption | with_reducible refine below_drewN ?_ _ | with_reducible refine Below.drew ?_ | with_reducible refine Below.alloc ?_ (by first | omega | (simp; omega) | simp) _ | with_reducible refine Below.setCell ?_ (by first | omega | (simp; omega) | simp) _))) (by simp; omega) (by omega)); (obtain ⟨⟨q0, q1, q2⟩, q3, q4, q5⟩ := hO3.has3))
            go_roundw
            case rel => exact ⟨k + 1, _, by omega, by go_num, hO3.set_ 1 _, hP3.far (by simp; omega) _, hZ3.far (by simp; omega) _, Rd.far hU3 hO3 (by decide) _ _, by rw [hS.out, bksCells_snoc]; exact own_far ownq hO3 (by decide) _ _, by (repeat (first | with_reducible exact Below.refl _ _ | with_reducible assumption | with_reducible refine below_drewN ?_ _ | with_reducible refine Below.drew ?_ | with_reducible refine Below.alloc ?_ (by first | omega | (simp; omega) | simp) _ | with_reducible refine Below.setCell ?_ (by first | omega | (simp; omega) | simp) _))⟩
            case measure => simp [intOf]; omega
          · obtain ⟨l, hl⟩ : ∃ l, us[n % us.length]? = some l := ⟨_, List.getElem?_eq_getElem (Nat.mod_lt _ (by omega))⟩
            obtain ⟨Au, cu, hue, _, hucell⟩ := RdI.at_ hU
            injection hue with hA1 _ hA3
            obtain ⟨bu, ou, hA2, hbu, hl2⟩ := hucell (n % us.length) (Nat.mod_lt _ (by omega))
            subst hA1
            subst hA3
            subst hA2
            have lc := hl2 l hl
            have b0 : decide (0 < us.length) = true := by simp; omega
            have b1 : (0 : Int) ≤ (n : Int) % (us.length : Int) := Int.emod_nonneg _ (by omega)
            have b2 : (n : Int) % (us.length : Int) < (us.length : Int) := Int.emod_lt_of_pos _ (by omega)
            have b3 : ((n : Int) % (us.length : Int)).toNat = n % us.length := by omega
            have HL := Lib.hid hl
            clear hucell hl2 hl
            by_cases hxl : x.line = l
            · have hq : (x.line == l) = true := by simp [hxl]
              have HNE := Lib.hid (fun k hk => Nat.ne_of_lt (hown.lt k hk).2)
              have hF : givenF us[n % us.length]? x = (x.line, x.cls, 0, x.gen) := by rw [HL.out]; simp [givenF, hxl]
              rw [hF] at hS
              clear hF hxl
              go_wp2_with fail
              go_quiet (fail)
              go_wp2_with (at_builtin; refine wpList_append1 rfl (.tmp 80) (.tmp 82) 29 rfl (w1.heap.size + 1) 25 i0 _ 4 32 Try.underlying29 hi0 hz0 hz1 hz2 rfl (by decide) (by decide) _ (k) (bksCells ((bs.take k).map (givenF us[n % us.length]?))) rfl ((own_else (p := ⟨wr.heap.size, 2, none⟩) (own_drewN (hown.alloc _) _) HNE.out _).alloc _) (by omega) (wr.heap.size + 1) #[.int .i64 x.line, .int .i64 x.cls, .int .i64 0, .int .i64 x.gen] rfl (Cl.new_ _ _ _ _ (by simp)) rfl (by simp [Value.oneCell']) (by simp; omega) ?_; intro Aq cq wq ownq grq; (have hO3 := grq.cl ((((hO.alloc _).drewN _).far (by simp; omega) _).alloc _) (.inl (by decide))); (have hP3 := grq.cl ((((hP.alloc _).drewN _).far (by simp; omega) _).alloc _) (.inl (by decide))); (have hZ3 := grq.cl ((((hZ.alloc _).drewN _).far (by simp; omega) _).alloc _) (.inl (by decide))); (have hU3 := grq.rd (Rd.alloc (Rd.far (Rd.drewN (Rd.alloc hU _) _) ((Cl.new _ _ _).drewN _) (by decide) _ _) _) (by decide)); (have hB3 := grq.below (show Below w.heap.size w _ by (repeat (first | with_reducible exact Below.refl _ _ | with_reducible assumption | with_reducible refine below_drewN ?_ _ | with_reducible refine Below.drew ?_ | with_reducible refine Below.alloc ?_ (by first | omega | (simp; omega) | simp) _ | with_reducible refine Below.setCell ?_ (by first | omega | (simp; omega) | simp) _))) (by simp; omega) (by omega)); (obtain ⟨⟨q0, q1, q2⟩, q3, q4, q5⟩ := hO3.has3))
              go_roundw
              case rel => exact ⟨k + 1, _, by omega, by go_num, hO3.set_ 1 _, hP3.far (by simp; omega) _, hZ3.far (by simp; omega) _, Rd.far hU3 hO3 (by decide) _ _, by rw [hS.out, bksCells_snoc]; exact own_far ownq hO3 (by decide) _ _, by (repeat (first | with_reducible exact Below.refl _ _ | with_reducible assumption | with_reducible refine below_drewN ?_ _ | with_reducible refine Below.drew ?_ | with_reducible refine Below.alloc ?_ (by first | omega | (simp; omega) | simp) _ | with_reducible refine Below.setCell ?_ (by first | omega | (simp; omega) | simp) _))⟩
              case measure => simp [intOf]; omega
            · have hq : (x.line == l) = false := by simp [hxl]
              have hF : givenF us[n % us.length]? x = x := by rw [HL.out]; simp [givenF, hxl]
              rw [hF] at hS
              clear hF hxl
              go_wp2_with fail
              go_quiet (fail)
              go_wp2_with (at_builtin; refine wpList_append1 rfl (.tmp 80) (.tmp 82) 29 rfl (w1.heap.size + 1) 25 i0 _ 4 32 Try.underlying29 hi0 hz0 hz1 hz2 rfl (by decide) (by decide) _ (k) (bksCells ((bs.take k).map (givenF us[n % us.length]?))) rfl ((own_drewN (hown.alloc _) _).alloc _) (by omega) (wr.heap.size + 1) #[.int .i64 (Bk.line x), .int .i64 (Bk.cls x), .int .i64 (Bk.kind x), .int .i64 (Bk.gen x)] rfl (Cl.new_ _ _ _ _ (by simp)) rfl (by simp [Value.oneCell']) (by simp; omega) ?_; intro Aq cq wq ownq grq; (have hO3 := grq.cl (((hO.alloc _).drewN _).alloc _) (.inl (by decide))); (have hP3 := grq.cl (((hP.alloc _).drewN _).alloc _) (.inl (by decide))); (have hZ3 := grq.cl (((hZ.alloc _).drewN _).alloc _) (.inl (by decide))); (have hU3 := grq.rd (Rd.alloc (Rd.drewN (Rd.alloc hU _) _) _) (by decide)); (have hB3 := grq.below (show Below w.heap.size w _ by (repeat (first | with_reducible exact Below.refl _ _ | with_reducible assumption | with_reducible refine below_drewN ?_ _ | with_reducible refine Below.drew ?_ | with_reducible refine Below.alloc ?_ (by first | omega | (simp; omega) | simp) _ | with_reducible refine Below.setCell ?_ (by first | omega | (simp; omega) | simp) _))) (by simp; omega) (by omega)); (obtain ⟨⟨q0, q1, q2⟩, q3, q4, q5⟩ := hO3.has3))
              go_roundw
              case rel => exact ⟨k + 1, _, by omega, by go_num, hO3.set_ 1 _, hP3.far (by simp; omega) _, hZ3.far (by simp; omega) _, Rd.far hU3 hO3 (by decide) _ _, by rw [hS.out, bksCells_snoc]; exact own_far ownq hO3 (by decide) _ _, by (repeat (first | with_reducible exact Below.refl _ _ | with_reducible assumption | with_reducible refine below_drewN ?_ _ | with_reducible refine Below.drew ?_ | with_reducible refine Below.alloc ?_ (by first | omega | (simp; omega) | simp) _ | with_reducible refine Below.setCell ?_ (by first | omega | (simp; omega) | simp) _))⟩
              case measure => simp [intOf]; omega
        · rw [List.take_of_length_le (by omega)] at hown
          obtain rfl : k = bs.length := by omega
          obtain ⟨Av2, cv2, rfl⟩ := (Rd.own hown).form
          obtain ⟨⟨q0, q1, q2⟩, -⟩ := hO.has3
          obtain ⟨⟨z0, z1, z2⟩, z3, z4, z5⟩ := hZ.has3
          go_wp2_with fail
          refine bodyPost_ret (v := .agg #[.slice Ac cs.length cc, .slice Av2 bs.length cv2, .slice Ad ds.length cd]) ?_ rfl ⟨_, _, _, rfl, hC.below (by (repeat (first | with_reducible exact Below.refl _ _ | with_reducible assumption | with_reducible refine below_drewN ?_ _ | with_reducible refine Below.drew ?_ | with_reducible refine Below.alloc ?_ (by first | omega | (simp; omega) | simp) _ | with_reducible refine Below.setCell ?_ (by first | omega | (simp; omega) | simp) _))), ?_, hD.below (by (repeat (first | with_reducible exact Below.refl _ _ | with_reducible assumption | with_reducible refine below_drewN ?_ _ | with_reducible refine Below.drew ?_ | with_reducible refine Below.alloc ?_ (by first | omega | (simp; omega) | simp) _ | with_reducible refine Below.setCell ?_ (by first | omega | (simp; omega) | simp) _))), by (repeat (first | with_reducible exact Below.refl _ _ | with_reducible assumption | with_reducible refine below_drewN ?_ _ | with_reducible refine Below.drew ?_ | with_reducible refine Below.alloc ?_ (by first | omega | (simp; omega) | simp) _ | with_reducible refine Below.setCell ?_ (by first | omega | (simp; omega) | simp) _))⟩
          · simp [results, Try.results26, go_sem, *]
          · have hl : (givenB bs c n).length = bs.length := List.length_map _
            have := Rd.own (own_far3 hown hZ (by decide) (.slice Ac cs.length cc) (.slice Av2 bs.length cv2) (.slice Ad ds.length cd))
            unfold RdB
            rw [hl, givenB, ← HUS.out]
            exact this
end Go.Proofs.Ytidiapfmjalaiaa
