/-
  made: the picture that a statement's arguments stand for.
-/
import Derived.Test.YtidiapfmjalaiaaDoorDue
namespace Go.Proofs.YtidiapfmjalaiaaDoor
open Go.RowKit

def madeL (n : Nat) : Nat := 64 + n % 80
def madeN (n : Nat) : Nat := (64 + n % 80 - 16) / 16
theorem madeN_le (n : Nat) : 3 ≤ madeN n ∧ madeN n ≤ 7 := by unfold madeN; omega

theorem plan_made (w : World) (n : Nat) :
    Calls Tryd.prog 6 #[.int .i64 ((64 + n % 80 : Nat) : Int)] w fun e w' => e = .returned (.tuple #[.agg #[.int .i64 (madeL n : Int), .int .i64 2, .int .i64 8, .int .i64 10, .int .i64 4, .int .i64 14, .int .i64 16, .int .i64 (madeN n : Int)], .int .i64 0]) ∧ Below w.heap.size w w' := by
  refine (plan_calls w (64 + n % 80) (by omega) (by omega)).mono ?_
  rintro e w' ⟨rfl, hb⟩
  have e1 : planLogs ((64 + n % 80 : Nat) : Int) = 8 := by unfold planLogs; rw [if_neg (by omega)]
  have e2 : planIntents ((64 + n % 80 : Nat) : Int) = 4 := by unfold planIntents; rw [if_neg (by omega)]
  have e3 : upTo16 (planStart ((64 + n % 80 : Nat) : Int) 8 4) = 16 := by unfold upTo16 planStart; omega
  have e4 : (((64 + n % 80 : Nat) : Int) - 16) / 16 = (madeN n : Int) := by unfold madeN; omega
  rw [e1, e2, e3, e4]
  exact ⟨rfl, hb⟩

def madeLay (n : Nat) : Array Value := #[.int .i64 (madeL n : Int), .int .i64 2, .int .i64 8, .int .i64 10, .int .i64 4, .int .i64 14, .int .i64 16, .int .i64 (madeN n : Int)]

set_option maxHeartbeats 2000000 in
theorem made_no (w : World) (n : Nat) (cv rv : Value) (cls : List Nat) (rs : List (Nat × Nat)) (more : Int) (hn : n < 256) (hc : RdN w 1 cv cls.length (u8s cls)) (hr : RdN w 2 rv rs.length (rawCells rs))
    (h : 10 < cls.length ∨ 40 < rs.length ∨ more < 0 ∨ 1048575 < more) :
    Calls Tryd.prog 4 #[.int .u8 (n : Int), cv, rv, .int .i64 more] w (PicB w [] [] [] false) := by
  obtain ⟨_, Ac, cc, rfl, hcc, -⟩ := hc
  obtain ⟨_, Ar, cr, rfl, hcr, -⟩ := hr
  go_enter Tryd.func4, Tryd.ntmps4
  go_wp2_with fail
  refine (lines_calls _ n hn).mono ?_
  rintro e w0 ⟨rfl, rfl⟩
  go_wp2_with fail
  refine (plan_made _ n).mono ?_
  rintro e w1 ⟨rfl, hb1⟩
  have hZ := (Cl.new w 27 #[.slice none 0 0, .slice none 0 0, .slice none 0 0]).below hb1 (by simp)
  have hB : Below w.heap.size w w1 := Below.trans (by (repeat (first | with_reducible exact Below.refl _ _ | with_reducible assumption | with_reducible refine below_drewN ?_ _ | with_reducible refine Below.drew ?_ | with_reducible refine Below.alloc ?_ (by first | omega | (simp; omega) | simp) _ | with_reducible refine Below.setCell ?_ (by first | omega | (simp; omega) | simp) _))) (hb1.mono (by simp))
  have hs := hZ.lt
  clear hb1
  obtain ⟨⟨z0, z1, z2⟩, z3, z4, z5⟩ := hZ.has3
  by_cases h1 : 10 < cls.length
  · clear h
    go_wp2_with fail
    refine bodyPost_ret (v := .tuple #[.agg #[.slice none 0 0, .slice none 0 0, .slice none 0 0], .bool false]) ?_ rfl ⟨_, _, _, rfl, Rd.nil_ _ _ _, Rd.nil_ _ _ _, Rd.nil_ _ _ _, by (repeat (first | with_reducible exact Below.refl _ _ | with_reducible assumption | with_reducible refine below_drewN ?_ _ | with_reducible refine Below.drew ?_ | with_reducible refine Below.alloc ?_ (by first | omega | (simp; omega) | simp) _ | with_reducible refine Below.setCell ?_ (by first | omega | (simp; omega) | simp) _))⟩
    simp [results, Tryd.results4, go_sem, *]
  · by_cases h2 : 40 < rs.length
    · clear h
      go_wp2_with fail
      refine bodyPost_ret (v := .tuple #[.agg #[.slice none 0 0, .slice none 0 0, .slice none 0 0], .bool false]) ?_ rfl ⟨_, _, _, rfl, Rd.nil_ _ _ _, Rd.nil_ _ _ _, Rd.nil_ _ _ _, by (repeat (first | with_reducible exact Below.refl _ _ | with_reducible assumption | with_reducible refine below_drewN ?_ _ | with_reducible refine Below.drew ?_ | with_reducible refine Below.alloc ?_ (by first | omega | (simp; omega) | simp) _ | with_reducible refine Below.setCell ?_ (by first | omega | (simp; omega) | simp) _))⟩
      simp [results, Tryd.results4, go_sem, *]
    · by_cases h3 : more < 0
      · clear h
        go_wp2_with fail
        refine bodyPost_ret (v := .tuple #[.agg #[.slice none 0 0, .slice none 0 0, .slice none 0 0], .bool false]) ?_ rfl ⟨_, _, _, rfl, Rd.nil_ _ _ _, Rd.nil_ _ _ _, Rd.nil_ _ _ _, by (repeat (first | with_reducible exact Below.refl _ _ | with_reducible assumption | with_reducible refine below_drewN ?_ _ | with_reducible refine Below.drew ?_ | with_reducible refine Below.alloc ?_ (by first | omega | (simp; omega) | simp) _ | with_reducible refine Below.setCell ?_ (by first | omega | (simp; omega) | simp) _))⟩
        simp [results, Tryd.results4, go_sem, *]
      · have h4 : 1048575 < more := by omega
        clear h
        go_wp2_with fail
        refine bodyPost_ret (v := .tuple #[.agg #[.slice none 0 0, .slice none 0 0, .slice none 0 0], .bool false]) ?_ rfl ⟨_, _, _, rfl, Rd.nil_ _ _ _, Rd.nil_ _ _ _, Rd.nil_ _ _ _, by (repeat (first | with_reducible exact Below.refl _ _ | with_reducible assumption | with_reducible refine below_drewN ?_ _ | with_reducible refine Below.drew ?_ | with_reducible refine Below.alloc ?_ (by first | omega | (simp; omega) | simp) _ | with_reducible refine Below.setCell ?_ (by first | omega | (simp; omega) | simp) _))⟩
        simp [results, Tryd.results4, go_sem, *]

set_option maxHeartbeats 2000000 in
theorem made_yes (w : World) (n : Nat) (cv rv : Value) (cls : List Nat) (rs : List (Nat × Nat)) (more : Nat) (hn : n < 256) (hc : RdN w 1 cv cls.length (u8s cls)) (hr : RdN w 2 rv rs.length (rawCells rs))
    (hc8 : ∀ c ∈ cls, c < 256) (hr8 : ∀ r ∈ rs, r.1 < 256 ∧ r.2 < 65536) (h1 : cls.length ≤ 10) (h2 : rs.length ≤ 40) (h3 : more ≤ 1048575) :
    Calls Tryd.prog 4 #[.int .u8 (n : Int), cv, rv, .int .i64 (more : Int)] w (PicB w (picC cls (madeN n)) (picB 16 cls rs more (madeN n)) [] true) := by
  obtain ⟨Ac, cc, rfl⟩ : ∃ A c, cv = .slice A cls.length c := by obtain ⟨_, A, c, h, _⟩ := hc; exact ⟨A, c, h⟩
  obtain ⟨Ar, cr, rfl⟩ : ∃ A c, rv = .slice A rs.length c := by obtain ⟨_, A, c, h, _⟩ := hr; exact ⟨A, c, h⟩
  have hN := madeN_le n
  go_enter Tryd.func4, Tryd.ntmps4
  go_wp2_with fail
  refine (lines_calls _ n hn).mono ?_
  rintro e w0 ⟨rfl, rfl⟩
  go_wp2_with fail
  refine (plan_made _ n).mono ?_
  rintro e w1 ⟨rfl, hb1⟩
  have hZ := (Cl.new w 27 #[.slice none 0 0, .slice none 0 0, .slice none 0 0]).below hb1 (by simp)
  have hB : Below w.heap.size w w1 := Below.trans (by (repeat (first | with_reducible exact Below.refl _ _ | with_reducible assumption | with_reducible refine below_drewN ?_ _ | with_reducible refine Below.drew ?_ | with_reducible refine Below.alloc ?_ (by first | omega | (simp; omega) | simp) _ | with_reducible refine Below.setCell ?_ (by first | omega | (simp; omega) | simp) _))) (hb1.mono (by simp))
  have hs := hZ.lt
  clear hb1
  have g1 : ¬ (10 : Int) < (cls.length : Int) := by omega
  have g2 : ¬ (40 : Int) < (rs.length : Int) := by omega
  go_wp2_with fail
  refine (picture_calls _ _ _ _ _ _ _ 16 (madeN n) _ _ cls rs more (hc.below (by (repeat (first | with_reducible exact Below.refl _ _ | with_reducible assumption | with_reducible refine below_drewN ?_ _ | with_reducible refine Below.drew ?_ | with_reducible refine Below.alloc ?_ (by first | omega | (simp; omega) | simp) _ | with_reducible refine Below.setCell ?_ (by first | omega | (simp; omega) | simp) _)))) (hr.below (by (repeat (first | with_reducible exact Below.refl _ _ | with_reducible assumption | with_reducible refine below_drewN ?_ _ | with_reducible refine Below.drew ?_ | with_reducible refine Below.alloc ?_ (by first | omega | (simp; omega) | simp) _ | with_reducible refine Below.setCell ?_ (by first | omega | (simp; omega) | simp) _)))) (by omega) (by omega) (by omega) (by omega) (by omega) h3 hc8 hr8).mono ?_
  rintro e w3 ⟨ch, bl, bd, rfl, hc3, hb3, hd3, hbb⟩
  obtain ⟨A1, c1, rfl⟩ := Rd.form hc3
  obtain ⟨A2, c2, rfl⟩ := Rd.form (Rd.own hb3)
  obtain ⟨A3, c3, rfl⟩ := Rd.form hd3
  have hZ3 := (hZ.alloc (.cells (madeLay n) 32)).below hbb (by simp; omega)
  have hB3 : Below w.heap.size w w3 := Below.trans (show Below w.heap.size w (w1.alloc (.cells (madeLay n) 32)) by (repeat (first | with_reducible exact Below.refl _ _ | with_reducible assumption | with_reducible refine below_drewN ?_ _ | with_reducible refine Below.drew ?_ | with_reducible refine Below.alloc ?_ (by first | omega | (simp; omega) | simp) _ | with_reducible refine Below.setCell ?_ (by first | omega | (simp; omega) | simp) _))) (hbb.mono (by simp; omega))
  obtain ⟨⟨z0, z1, z2⟩, z3, z4, z5⟩ := hZ3.has3
  clear hbb hZ hB
  go_wp2_with fail
  refine bodyPost_ret (v := .tuple #[.agg #[.slice A1 (picC cls (madeN n)).length c1, .slice A2 (picB 16 cls rs more (madeN n)).length c2, .slice A3 0 c3], .bool true]) ?_ rfl ⟨_, _, _, rfl, hc3.far3 hZ3 (by decide) _ _ _, Rd.own (own_far3 hb3 hZ3 (by decide) _ _ _), hd3.far3 hZ3 (by decide) _ _ _, by (repeat (first | with_reducible exact Below.refl _ _ | with_reducible assumption | with_reducible refine below_drewN ?_ _ | with_reducible refine Below.drew ?_ | with_reducible refine Below.alloc ?_ (by first | omega | (simp; omega) | simp) _ | with_reducible refine Below.setCell ?_ (by first | omega | (simp; omega) | simp) _))⟩
  simp [results, Tryd.results4, go_sem, *]
end Go.Proofs.YtidiapfmjalaiaaDoor
