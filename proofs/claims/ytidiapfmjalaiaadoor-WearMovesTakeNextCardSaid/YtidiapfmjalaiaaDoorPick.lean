/-
  wear.Next, wear.Level, wear.Spread.
-/
import Derived.Test.YtidiapfmjalaiaaDoorFirst
import Derived.Test.YtidiapfmjalaiaaDoorUse
namespace Go.Proofs.YtidiapfmjalaiaaDoor
open Go.RowKit

theorem first_next_calls (w : World) (bl : Value) (bs : List Bk) (c0 : Int) (p : Nat) (hR : RdB w bl bs) (hn : bs.length ≤ 1000) (hp : w.cell? ⟨p, 0, none⟩ = some (.int .i64 c0)) :
    Calls Tryd.prog 21 #[bl, .func (.func 22) #[] #[.pointer (some ⟨p, 0, none⟩)], .func (.func 23) #[] #[]] w
      fun e w' => e = .returned (.tuple #[.agg #[.int .i64 (Bk.line (outBk (nextB bs c0))), .int .i64 (Bk.cls (outBk (nextB bs c0))), .int .i64 (Bk.kind (outBk (nextB bs c0))), .int .i64 (Bk.gen (outBk (nextB bs c0)))], .bool (nextB bs c0).isSome]) ∧ Below w.heap.size w w' := first_free_calls w bl bs c0 p hR hn hp
theorem first_cold_calls (w : World) (bl : Value) (bs : List Bk) (c0 : Int) (p : Nat) (hR : RdB w bl bs) (hn : bs.length ≤ 1000) (hp : w.cell? ⟨p, 0, none⟩ = some (.int .i64 c0)) :
    Calls Tryd.prog 21 #[bl, .func (.func 24) #[] #[.pointer (some ⟨p, 0, none⟩)], .func (.func 23) #[] #[]] w
      fun e w' => e = .returned (.tuple #[.agg #[.int .i64 (Bk.line (outBk (coldB bs c0))), .int .i64 (Bk.cls (outBk (coldB bs c0))), .int .i64 (Bk.kind (outBk (coldB bs c0))), .int .i64 (Bk.gen (outBk (coldB bs c0)))], .bool (coldB bs c0).isSome]) ∧ Below w.heap.size w w' := first_used_calls w bl bs c0 p hR hn hp

set_option maxHeartbeats 400000 in
theorem next_calls (w : World) (ch bl bd : Value) (bs : List Bk) (c : Int) (hR : RdB w bl bs) (hn : bs.length ≤ 1000) :
    Calls Tryd.prog 9 #[.agg #[ch, bl, bd], .int .i64 c] w
      fun e w' => e = .returned (.tuple #[.agg #[.int .i64 (Bk.line (outBk (nextB bs c))), .int .i64 (Bk.cls (outBk (nextB bs c))), .int .i64 (Bk.kind (outBk (nextB bs c))), .int .i64 (Bk.gen (outBk (nextB bs c)))], .bool (nextB bs c).isSome]) ∧ Below w.heap.size w w' := by
  go_enter Tryd.func9, Tryd.ntmps9
  go_wp2_with fail
  refine (first_next_calls _ _ bs c _ ?_ hn ?_).mono ?_
  · refine hR.below ?_
    (repeat (first | with_reducible exact Below.refl _ _ | with_reducible assumption | with_reducible refine below_drewN ?_ _ | with_reducible refine Below.drew ?_ | with_reducible refine Below.alloc ?_ (by first | omega | (simp; omega) | simp) _ | with_reducible refine Below.setCell ?_ (by first | omega | (simp; omega) | simp) _))
  · go_simp
  rintro e w1 ⟨rfl, hb1⟩
  have hb : Below w.heap.size w w1 := Below.trans (by (repeat (first | with_reducible exact Below.refl _ _ | with_reducible assumption | with_reducible refine below_drewN ?_ _ | with_reducible refine Below.drew ?_ | with_reducible refine Below.alloc ?_ (by first | omega | (simp; omega) | simp) _ | with_reducible refine Below.setCell ?_ (by first | omega | (simp; omega) | simp) _))) (hb1.mono (by simp; omega))
  have hZ : Cl w1 (w.heap.size + 2) 40 #[.int .i64 0, .int .i64 0, .int .i64 0, .int .i64 0] := (Cl.new_ _ _ _ _ (by simp)).below hb1 (by simp)
  obtain ⟨⟨u0, u1, u2, u3⟩, v0, v1, v2, v3⟩ := hZ.has4
  have hs := hb.size
  clear hb1
  go_wp2_with fail
  refine bodyPost_ret (v := .tuple #[.agg #[.int .i64 (Bk.line (outBk (nextB bs c))), .int .i64 (Bk.cls (outBk (nextB bs c))), .int .i64 (Bk.kind (outBk (nextB bs c))), .int .i64 (Bk.gen (outBk (nextB bs c)))], .bool (nextB bs c).isSome]) ?_ rfl ⟨rfl, ?_⟩
  · simp [results, Tryd.results9, go_sem, *]
  · (repeat (first | with_reducible exact Below.refl _ _ | with_reducible assumption | with_reducible refine below_drewN ?_ _ | with_reducible refine Below.drew ?_ | with_reducible refine Below.alloc ?_ (by first | omega | (simp; omega) | simp) _ | with_reducible refine Below.setCell ?_ (by first | omega | (simp; omega) | simp) _))

set_option maxHeartbeats 400000 in
theorem spread_calls (w : World) (ch bl bd : Value) (bs : List Bk) (c : Int) (hR : RdB w bl bs) (hn : bs.length ≤ 1000) :
    Calls Tryd.prog 17 #[.agg #[ch, bl, bd], .int .i64 c] w
      fun e w' => e = .returned (.int .i64 (wrap64 ((useOf bs c).2.1 - (useOf bs c).1))) ∧ Below w.heap.size w w' := by
  go_enter Tryd.func17, Tryd.ntmps17
  go_wp2_with fail
  refine (use_calls _ _ _ _ bs c ?_ hn).mono ?_
  · refine hR.below ?_
    (repeat (first | with_reducible exact Below.refl _ _ | with_reducible assumption | with_reducible refine below_drewN ?_ _ | with_reducible refine Below.drew ?_ | with_reducible refine Below.alloc ?_ (by first | omega | (simp; omega) | simp) _ | with_reducible refine Below.setCell ?_ (by first | omega | (simp; omega) | simp) _))
  rintro e w1 ⟨rfl, hb1⟩
  have hb : Below w.heap.size w w1 := Below.trans (by (repeat (first | with_reducible exact Below.refl _ _ | with_reducible assumption | with_reducible refine below_drewN ?_ _ | with_reducible refine Below.drew ?_ | with_reducible refine Below.alloc ?_ (by first | omega | (simp; omega) | simp) _ | with_reducible refine Below.setCell ?_ (by first | omega | (simp; omega) | simp) _))) (hb1.mono (by simp))
  clear hb1
  go_wp2_with fail
  go_ret
  exact ⟨rfl, hb⟩

set_option maxHeartbeats 1000000 in
theorem level_calls (w : World) (ch bl bd : Value) (bs : List Bk) (c : Int) (hR : RdB w bl bs) (hn : bs.length ≤ 1000) (hg : ∀ b ∈ bs, 0 ≤ b.gen ∧ b.gen ≤ 2000000) :
    Calls Tryd.prog 10 #[.agg #[ch, bl, bd], .int .i64 c] w
      fun e w' => e = .returned (.tuple #[.agg #[.int .i64 (Bk.line (outBk (levelB bs c))), .int .i64 (Bk.cls (outBk (levelB bs c))), .int .i64 (Bk.kind (outBk (levelB bs c))), .int .i64 (Bk.gen (outBk (levelB bs c)))], .bool (levelB bs c).isSome]) ∧ Below w.heap.size w w' := by
  obtain ⟨hu0, hu1⟩ := useOf_most bs c 2000000 (by omega) (fun b hb => (hg b hb).2)
  have hcg : ∀ b, coldB bs c = some b → b ∈ bs := fun b h => (firstB_mem _ bs b h).1
  go_enter Tryd.func10, Tryd.ntmps10
  go_wp2_with fail
  refine (use_calls _ _ _ _ bs c ?_ hn).mono ?_
  · refine hR.below ?_
    (repeat (first | with_reducible exact Below.refl _ _ | with_reducible assumption | with_reducible refine below_drewN ?_ _ | with_reducible refine Below.drew ?_ | with_reducible refine Below.alloc ?_ (by first | omega | (simp; omega) | simp) _ | with_reducible refine Below.setCell ?_ (by first | omega | (simp; omega) | simp) _))
  rintro e w1 ⟨rfl, hb1⟩
  have hb : Below w.heap.size w w1 := Below.trans (by (repeat (first | with_reducible exact Below.refl _ _ | with_reducible assumption | with_reducible refine below_drewN ?_ _ | with_reducible refine Below.drew ?_ | with_reducible refine Below.alloc ?_ (by first | omega | (simp; omega) | simp) _ | with_reducible refine Below.setCell ?_ (by first | omega | (simp; omega) | simp) _))) (hb1.mono (by simp; omega))
  have hP : Cl w1 w.heap.size 27 #[ch, bl, bd] := (((Cl.new_ _ _ _ _ rfl).alloc _).alloc _).below hb1 (by simp; omega)
  have hC : Cl w1 (w.heap.size + 1) 3 #[.int .i64 c] := ((Cl.new_ _ _ _ _ (by simp)).alloc _).below hb1 (by simp)
  have hZ : Cl w1 (w.heap.size + 2) 40 #[.int .i64 0, .int .i64 0, .int .i64 0, .int .i64 0] := (Cl.new_ _ _ _ _ (by simp)).below hb1 (by simp)
  clear hb1
  have p1 := hP.cell 1
  have c1 := hC.cell 0
  simp only [List.getElem?_toArray, List.getElem?_cons_succ, List.getElem?_cons_zero] at p1 c1
  go_wp2_with fail
  refine (first_cold_calls _ _ bs c _ (hR.below (by (repeat (first | with_reducible exact Below.refl _ _ | with_reducible assumption | with_reducible refine below_drewN ?_ _ | with_reducible refine Below.drew ?_ | with_reducible refine Below.alloc ?_ (by first | omega | (simp; omega) | simp) _ | with_reducible refine Below.setCell ?_ (by first | omega | (simp; omega) | simp) _)))) hn c1).mono ?_
  rintro e w2 ⟨rfl, hb2⟩
  have hbb : Below w.heap.size w w2 := hb.trans (hb2.mono hb.size)
  have hZ2 := hZ.below hb2 hZ.lt
  have hs := hZ2.lt
  clear hb hb2 hP hC hZ p1 c1
  obtain ⟨⟨u0, u1, u2, u3⟩, v0, v1, v2, v3⟩ := hZ2.has4
  cases hcold : coldB bs c with
  | none =>
    have hl : levelB bs c = none := by simp [levelB, hcold]
    have HL := Lib.hid hl
    clear hl hcold
    go_wp2_with fail
    refine bodyPost_ret (v := .tuple #[.agg #[.int .i64 0, .int .i64 0, .int .i64 0, .int .i64 0], .bool false]) ?_ rfl ⟨by rw [HL.out]; rfl, ?_⟩
    · simp [results, Tryd.results10, go_sem, *]
    · (repeat (first | with_reducible exact Below.refl _ _ | with_reducible assumption | with_reducible refine below_drewN ?_ _ | with_reducible refine Below.drew ?_ | with_reducible refine Below.alloc ?_ (by first | omega | (simp; omega) | simp) _ | with_reducible refine Below.setCell ?_ (by first | omega | (simp; omega) | simp) _))
  | some b =>
    obtain ⟨hg0, hg1⟩ := hg b (hcg b hcold)
    have hob : outBk (some b) = b := rfl
    rw [hob]
    by_cases h8 : (useOf bs c).2.1 - b.gen < 8
    · have hl : levelB bs c = none := by simp [levelB, hcold, h8]
      have HL := Lib.hid hl
      clear hl hcold hob hcg hg
      go_wp2_with fail
      refine bodyPost_ret (v := .tuple #[.agg #[.int .i64 0, .int .i64 0, .int .i64 0, .int .i64 0], .bool false]) ?_ rfl ⟨by rw [HL.out]; rfl, ?_⟩
      · simp [results, Tryd.results10, go_sem, *]
      · (repeat (first | with_reducible exact Below.refl _ _ | with_reducible assumption | with_reducible refine below_drewN ?_ _ | with_reducible refine Below.drew ?_ | with_reducible refine Below.alloc ?_ (by first | omega | (simp; omega) | simp) _ | with_reducible refine Below.setCell ?_ (by first | omega | (simp; omega) | simp) _))
    · have hl : levelB bs c = some b := by simp [levelB, hcold, h8]
      have HL := Lib.hid hl
      clear hl hcold hob hcg hg
      go_wp2_with fail
      refine bodyPost_ret (v := .tuple #[.agg #[.int .i64 (Bk.line b), .int .i64 (Bk.cls b), .int .i64 (Bk.kind b), .int .i64 (Bk.gen b)], .bool true]) ?_ rfl ⟨by rw [HL.out]; rfl, ?_⟩
      · simp [results, Tryd.results10, go_sem, *]
      · (repeat (first | with_reducible exact Below.refl _ _ | with_reducible assumption | with_reducible refine below_drewN ?_ _ | with_reducible refine Below.drew ?_ | with_reducible refine Below.alloc ?_ (by first | omega | (simp; omega) | simp) _ | with_reducible refine Below.setCell ?_ (by first | omega | (simp; omega) | simp) _))
end Go.Proofs.YtidiapfmjalaiaaDoor
