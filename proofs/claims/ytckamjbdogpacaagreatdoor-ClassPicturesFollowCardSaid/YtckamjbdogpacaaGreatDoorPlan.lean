/-
  The specification's Plan and Lines.
-/
import Derived.Test.YtckamjbdogpacaaGreatDoorWords
import Derived.Deep.LoopGhost
namespace Go.Proofs.YtckamjbdogpacaaGreatDoor
open Go.RowKit

def planLogs (L : Int) : Int := if 8 < L / 16 then L / 16 else 8
def planIntents (L : Int) : Int := if 4 < L / 32 then (if L / 32 < 16 then L / 32 else 16) else 4
def planStart (L lg it : Int) : Int := 2 + lg + it + (L / 16 + 7) / 8
def upTo16 (n : Int) : Int := (n + 15) / 16 * 16

def PlanRel (w : World) (L lg it : Int) (k : Nat) (wr : World) : Prop := ∃ h : Int, planStart L lg it ≤ h ∧ h ≤ upTo16 (planStart L lg it) ∧ upTo16 (planStart L lg it) - h ≤ k ∧
  Cl wr (w.heap.size + 1) 29 #[.int .i64 L, .int .i64 2, .int .i64 lg, .int .i64 (2 + lg), .int .i64 it, .int .i64 (2 + lg + it), .int .i64 h, .int .i64 0] ∧
  Cl wr w.heap.size 29 #[.int .i64 0, .int .i64 0, .int .i64 0, .int .i64 0, .int .i64 0, .int .i64 0, .int .i64 0, .int .i64 0] ∧ Below w.heap.size w wr

def PlanPost (w : World) (L lg it : Int) (e : Ending) (w' : World) : Prop :=
  e = .returned (.tuple #[.agg #[.int .i64 L, .int .i64 2, .int .i64 lg, .int .i64 (2 + lg), .int .i64 it, .int .i64 (2 + lg + it), .int .i64 (upTo16 (planStart L lg it)), .int .i64 ((L - upTo16 (planStart L lg it)) / 16)], .int .i64 0]) ∧ Below w.heap.size w w'

def Free8 (w : World) (g : Nat) : Prop := w.frozen? ⟨g, 0, none⟩ = false ∧ w.frozen? ⟨g, 1, none⟩ = false ∧ w.frozen? ⟨g, 2, none⟩ = false ∧ w.frozen? ⟨g, 3, none⟩ = false ∧ w.frozen? ⟨g, 4, none⟩ = false ∧ w.frozen? ⟨g, 5, none⟩ = false ∧ w.frozen? ⟨g, 6, none⟩ = false ∧ w.frozen? ⟨g, 7, none⟩ = false
theorem Cl.free8 {w : World} {g : Nat} {t : TypeId} {cs : Array Value} (h : Cl w g t cs) : Free8 w g := ⟨h.free 0, h.free 1, h.free 2, h.free 3, h.free 4, h.free 5, h.free 6, h.free 7⟩
def Cells8 (w : World) (g : Nat) (v0 v1 v2 v3 v4 v5 v6 v7 : Value) : Prop :=
  w.cell? ⟨g, 0, none⟩ = some v0 ∧ w.cell? ⟨g, 1, none⟩ = some v1 ∧ w.cell? ⟨g, 2, none⟩ = some v2 ∧ w.cell? ⟨g, 3, none⟩ = some v3 ∧
  w.cell? ⟨g, 4, none⟩ = some v4 ∧ w.cell? ⟨g, 5, none⟩ = some v5 ∧ w.cell? ⟨g, 6, none⟩ = some v6 ∧ w.cell? ⟨g, 7, none⟩ = some v7
theorem Cl.cells8 {w : World} {g : Nat} {t : TypeId} {v0 v1 v2 v3 v4 v5 v6 v7 : Value} (h : Cl w g t #[v0, v1, v2, v3, v4, v5, v6, v7]) : Cells8 w g v0 v1 v2 v3 v4 v5 v6 v7 :=
  ⟨h.cell 0, h.cell 1, h.cell 2, h.cell 3, h.cell 4, h.cell 5, h.cell 6, h.cell 7⟩

set_option maxHeartbeats 1000000 in
theorem plan_a (w : World) (L : Nat) (h1 : 64 ≤ L) (h2 : L ≤ 4096) (hA : L / 16 ≤ 8) :
    Calls Tryz.prog 9 #[.int .i64 (L : Int)] w (PlanPost w L 8 4) := by
  have hR1 : planStart L 8 4 ≤ upTo16 (planStart L 8 4) := by unfold upTo16; omega
  have hR2 : upTo16 (planStart L 8 4) < planStart L 8 4 + 16 := by unfold upTo16; omega
  have hR3 : upTo16 (planStart L 8 4) % 16 = 0 := by unfold upTo16; omega
  have hS0 : 14 ≤ planStart L 8 4 := by unfold planStart; omega
  have hS1 : planStart L 8 4 ≤ 600 := by unfold planStart; omega
  have hS2 : planStart L 8 4 + 16 ≤ (L : Int) := by unfold planStart; omega
  have HS := Lib.hid (show planStart L 8 4 = 2 + 8 + 4 + ((L : Int) / 16 + 7) / 8 from rfl)
  have HR3 := Lib.hid hR3
  clear hR3
  go_enter Tryz.func9, Tryz.ntmps9
  go_wp2
  go_loopg [43] 16 (fun k _ wr => PlanRel w L 8 4 k wr)
  case atStart => exact ⟨_, Int.le_refl _, hR1, by omega, Cl.new_ _ _ _ _ (by simp), (Cl.new _ _ _).alloc _, by (repeat (first | with_reducible exact Below.refl _ _ | with_reducible assumption | with_reducible refine below_drewN ?_ _ | with_reducible refine Below.drew ?_ | with_reducible refine Below.alloc ?_ (by first | omega | (simp; omega) | simp) _ | with_reducible refine Below.setCell ?_ (by first | omega | (simp; omega) | simp) _))⟩
  case round =>
    obtain ⟨h, hh1, hh2, hh3, hO, hZ, hb⟩ := hrel
    obtain ⟨c0, c1, c2, c3, c4, c5, c6, c7⟩ := hO.cells8
    obtain ⟨f0, f1, f2, f3, f4, f5, f6, f7⟩ := hO.free8
    have hs := hO.lt
    by_cases hm : h % 16 = 0
    · have he : h = upTo16 (planStart L 8 4) := by have := HR3.out; omega
      have HE := Lib.hid he
      have b1 : (h % 16 != 0) = false := by simp [hm]
      clear he hm
      obtain ⟨y0, y1, y2, y3, y4, y5, y6, y7⟩ := hZ.cells8
      obtain ⟨g0, g1, g2, g3, g4, g5, g6, g7⟩ := hZ.free8
      have hs2 := hZ.lt
      go_wp2
      refine bodyPost_ret (v := .tuple #[.agg #[.int .i64 L, .int .i64 2, .int .i64 8, .int .i64 (2 + 8), .int .i64 4, .int .i64 (2 + 8 + 4), .int .i64 h, .int .i64 (((L : Int) - h) / 16)], .int .i64 0]) ?_ rfl ⟨by rw [HE.out], by (repeat (first | with_reducible exact Below.refl _ _ | with_reducible assumption | with_reducible refine below_drewN ?_ _ | with_reducible refine Below.drew ?_ | with_reducible refine Below.alloc ?_ (by first | omega | (simp; omega) | simp) _ | with_reducible refine Below.setCell ?_ (by first | omega | (simp; omega) | simp) _))⟩
      simp [results, Tryz.results9, go_sem, *]
    · have b1 : (h % 16 != 0) = true := by simp [hm]
      have hlt : h < upTo16 (planStart L 8 4) := by have := HR3.out; omega
      clear hm
      go_wp2
      go_roundg (gk - 1)
      case measure => omega
      case rel => exact ⟨h + 1, by omega, by omega, by omega, hO.set_ 6 _, hZ.far (by simp) _, by (repeat (first | with_reducible exact Below.refl _ _ | with_reducible assumption | with_reducible refine below_drewN ?_ _ | with_reducible refine Below.drew ?_ | with_reducible refine Below.alloc ?_ (by first | omega | (simp; omega) | simp) _ | with_reducible refine Below.setCell ?_ (by first | omega | (simp; omega) | simp) _))⟩

set_option maxHeartbeats 1000000 in
theorem plan_b (w : World) (L : Nat) (h1 : 64 ≤ L) (h2 : L ≤ 4096) (hA : 8 < L / 16) (hB : L / 32 ≤ 4) :
    Calls Tryz.prog 9 #[.int .i64 (L : Int)] w (PlanPost w L ((L : Int) / 16) 4) := by
  have hR1 : planStart L ((L : Int) / 16) 4 ≤ upTo16 (planStart L ((L : Int) / 16) 4) := by unfold upTo16; omega
  have hR2 : upTo16 (planStart L ((L : Int) / 16) 4) < planStart L ((L : Int) / 16) 4 + 16 := by unfold upTo16; omega
  have hR3 : upTo16 (planStart L ((L : Int) / 16) 4) % 16 = 0 := by unfold upTo16; omega
  have hS0 : 14 ≤ planStart L ((L : Int) / 16) 4 := by unfold planStart; omega
  have hS1 : planStart L ((L : Int) / 16) 4 ≤ 600 := by unfold planStart; omega
  have hS2 : planStart L ((L : Int) / 16) 4 + 16 ≤ (L : Int) := by unfold planStart; omega
  have HS := Lib.hid (show planStart L ((L : Int) / 16) 4 = 2 + ((L : Int) / 16) + 4 + ((L : Int) / 16 + 7) / 8 from rfl)
  have HR3 := Lib.hid hR3
  clear hR3
  go_enter Tryz.func9, Tryz.ntmps9
  go_wp2
  go_loopg [43] 16 (fun k _ wr => PlanRel w L ((L : Int) / 16) 4 k wr)
  case atStart => exact ⟨_, Int.le_refl _, hR1, by omega, Cl.new_ _ _ _ _ (by simp), (Cl.new _ _ _).alloc _, by (repeat (first | with_reducible exact Below.refl _ _ | with_reducible assumption | with_reducible refine below_drewN ?_ _ | with_reducible refine Below.drew ?_ | with_reducible refine Below.alloc ?_ (by first | omega | (simp; omega) | simp) _ | with_reducible refine Below.setCell ?_ (by first | omega | (simp; omega) | simp) _))⟩
  case round =>
    obtain ⟨h, hh1, hh2, hh3, hO, hZ, hb⟩ := hrel
    obtain ⟨c0, c1, c2, c3, c4, c5, c6, c7⟩ := hO.cells8
    obtain ⟨f0, f1, f2, f3, f4, f5, f6, f7⟩ := hO.free8
    have hs := hO.lt
    by_cases hm : h % 16 = 0
    · have he : h = upTo16 (planStart L ((L : Int) / 16) 4) := by have := HR3.out; omega
      have HE := Lib.hid he
      have b1 : (h % 16 != 0) = false := by simp [hm]
      clear he hm
      obtain ⟨y0, y1, y2, y3, y4, y5, y6, y7⟩ := hZ.cells8
      obtain ⟨g0, g1, g2, g3, g4, g5, g6, g7⟩ := hZ.free8
      have hs2 := hZ.lt
      go_wp2
      refine bodyPost_ret (v := .tuple #[.agg #[.int .i64 L, .int .i64 2, .int .i64 ((L : Int) / 16), .int .i64 (2 + ((L : Int) / 16)), .int .i64 4, .int .i64 (2 + ((L : Int) / 16) + 4), .int .i64 h, .int .i64 (((L : Int) - h) / 16)], .int .i64 0]) ?_ rfl ⟨by rw [HE.out], by (repeat (first | with_reducible exact Below.refl _ _ | with_reducible assumption | with_reducible refine below_drewN ?_ _ | with_reducible refine Below.drew ?_ | with_reducible refine Below.alloc ?_ (by first | omega | (simp; omega) | simp) _ | with_reducible refine Below.setCell ?_ (by first | omega | (simp; omega) | simp) _))⟩
      simp [results, Tryz.results9, go_sem, *]
    · have b1 : (h % 16 != 0) = true := by simp [hm]
      have hlt : h < upTo16 (planStart L ((L : Int) / 16) 4) := by have := HR3.out; omega
      clear hm
      go_wp2
      go_roundg (gk - 1)
      case measure => omega
      case rel => exact ⟨h + 1, by omega, by omega, by omega, hO.set_ 6 _, hZ.far (by simp) _, by (repeat (first | with_reducible exact Below.refl _ _ | with_reducible assumption | with_reducible refine below_drewN ?_ _ | with_reducible refine Below.drew ?_ | with_reducible refine Below.alloc ?_ (by first | omega | (simp; omega) | simp) _ | with_reducible refine Below.setCell ?_ (by first | omega | (simp; omega) | simp) _))⟩

set_option maxHeartbeats 1000000 in
theorem plan_c (w : World) (L : Nat) (h1 : 64 ≤ L) (h2 : L ≤ 4096) (hA : 8 < L / 16) (hB : 4 < L / 32) (hC : L / 32 < 16) :
    Calls Tryz.prog 9 #[.int .i64 (L : Int)] w (PlanPost w L ((L : Int) / 16) ((L : Int) / 32)) := by
  have hR1 : planStart L ((L : Int) / 16) ((L : Int) / 32) ≤ upTo16 (planStart L ((L : Int) / 16) ((L : Int) / 32)) := by unfold upTo16; omega
  have hR2 : upTo16 (planStart L ((L : Int) / 16) ((L : Int) / 32)) < planStart L ((L : Int) / 16) ((L : Int) / 32) + 16 := by unfold upTo16; omega
  have hR3 : upTo16 (planStart L ((L : Int) / 16) ((L : Int) / 32)) % 16 = 0 := by unfold upTo16; omega
  have hS0 : 14 ≤ planStart L ((L : Int) / 16) ((L : Int) / 32) := by unfold planStart; omega
  have hS1 : planStart L ((L : Int) / 16) ((L : Int) / 32) ≤ 600 := by unfold planStart; omega
  have hS2 : planStart L ((L : Int) / 16) ((L : Int) / 32) + 16 ≤ (L : Int) := by unfold planStart; omega
  have HS := Lib.hid (show planStart L ((L : Int) / 16) ((L : Int) / 32) = 2 + ((L : Int) / 16) + ((L : Int) / 32) + ((L : Int) / 16 + 7) / 8 from rfl)
  have HR3 := Lib.hid hR3
  clear hR3
  go_enter Tryz.func9, Tryz.ntmps9
  go_wp2
  go_loopg [43] 16 (fun k _ wr => PlanRel w L ((L : Int) / 16) ((L : Int) / 32) k wr)
  case atStart => exact ⟨_, Int.le_refl _, hR1, by omega, Cl.new_ _ _ _ _ (by simp), (Cl.new _ _ _).alloc _, by (repeat (first | with_reducible exact Below.refl _ _ | with_reducible assumption | with_reducible refine below_drewN ?_ _ | with_reducible refine Below.drew ?_ | with_reducible refine Below.alloc ?_ (by first | omega | (simp; omega) | simp) _ | with_reducible refine Below.setCell ?_ (by first | omega | (simp; omega) | simp) _))⟩
  case round =>
    obtain ⟨h, hh1, hh2, hh3, hO, hZ, hb⟩ := hrel
    obtain ⟨c0, c1, c2, c3, c4, c5, c6, c7⟩ := hO.cells8
    obtain ⟨f0, f1, f2, f3, f4, f5, f6, f7⟩ := hO.free8
    have hs := hO.lt
    by_cases hm : h % 16 = 0
    · have he : h = upTo16 (planStart L ((L : Int) / 16) ((L : Int) / 32)) := by have := HR3.out; omega
      have HE := Lib.hid he
      have b1 : (h % 16 != 0) = false := by simp [hm]
      clear he hm
      obtain ⟨y0, y1, y2, y3, y4, y5, y6, y7⟩ := hZ.cells8
      obtain ⟨g0, g1, g2, g3, g4, g5, g6, g7⟩ := hZ.free8
      have hs2 := hZ.lt
      go_wp2
      refine bodyPost_ret (v := .tuple #[.agg #[.int .i64 L, .int .i64 2, .int .i64 ((L : Int) / 16), .int .i64 (2 + ((L : Int) / 16)), .int .i64 ((L : Int) / 32), .int .i64 (2 + ((L : Int) / 16) + ((L : Int) / 32)), .int .i64 h, .int .i64 (((L : Int) - h) / 16)], .int .i64 0]) ?_ rfl ⟨by rw [HE.out], by (repeat (first | with_reducible exact Below.refl _ _ | with_reducible assumption | with_reducible refine below_drewN ?_ _ | with_reducible refine Below.drew ?_ | with_reducible refine Below.alloc ?_ (by first | omega | (simp; omega) | simp) _ | with_reducible refine Below.setCell ?_ (by first | omega | (simp; omega) | simp) _))⟩
      simp [results, Tryz.results9, go_sem, *]
    · have b1 : (h % 16 != 0) = true := by simp [hm]
      have hlt : h < upTo16 (planStart L ((L : Int) / 16) ((L : Int) / 32)) := by have := HR3.out; omega
      clear hm
      go_wp2
      go_roundg (gk - 1)
      case measure => omega
      case rel => exact ⟨h + 1, by omega, by omega, by omega, hO.set_ 6 _, hZ.far (by simp) _, by (repeat (first | with_reducible exact Below.refl _ _ | with_reducible assumption | with_reducible refine below_drewN ?_ _ | with_reducible refine Below.drew ?_ | with_reducible refine Below.alloc ?_ (by first | omega | (simp; omega) | simp) _ | with_reducible refine Below.setCell ?_ (by first | omega | (simp; omega) | simp) _))⟩

set_option maxHeartbeats 1000000 in
theorem plan_d (w : World) (L : Nat) (h1 : 64 ≤ L) (h2 : L ≤ 4096) (hA : 8 < L / 16) (hB : 16 ≤ L / 32) :
    Calls Tryz.prog 9 #[.int .i64 (L : Int)] w (PlanPost w L ((L : Int) / 16) 16) := by
  have hR1 : planStart L ((L : Int) / 16) 16 ≤ upTo16 (planStart L ((L : Int) / 16) 16) := by unfold upTo16; omega
  have hR2 : upTo16 (planStart L ((L : Int) / 16) 16) < planStart L ((L : Int) / 16) 16 + 16 := by unfold upTo16; omega
  have hR3 : upTo16 (planStart L ((L : Int) / 16) 16) % 16 = 0 := by unfold upTo16; omega
  have hS0 : 14 ≤ planStart L ((L : Int) / 16) 16 := by unfold planStart; omega
  have hS1 : planStart L ((L : Int) / 16) 16 ≤ 600 := by unfold planStart; omega
  have hS2 : planStart L ((L : Int) / 16) 16 + 16 ≤ (L : Int) := by unfold planStart; omega
  have HS := Lib.hid (show planStart L ((L : Int) / 16) 16 = 2 + ((L : Int) / 16) + 16 + ((L : Int) / 16 + 7) / 8 from rfl)
  have HR3 := Lib.hid hR3
  clear hR3
  go_enter Tryz.func9, Tryz.ntmps9
  go_wp2
  go_loopg [43] 16 (fun k _ wr => PlanRel w L ((L : Int) / 16) 16 k wr)
  case atStart => exact ⟨_, Int.le_refl _, hR1, by omega, Cl.new_ _ _ _ _ (by simp), (Cl.new _ _ _).alloc _, by (repeat (first | with_reducible exact Below.refl _ _ | with_reducible assumption | with_reducible refine below_drewN ?_ _ | with_reducible refine Below.drew ?_ | with_reducible refine Below.alloc ?_ (by first | omega | (simp; omega) | simp) _ | with_reducible refine Below.setCell ?_ (by first | omega | (simp; omega) | simp) _))⟩
  case round =>
    obtain ⟨h, hh1, hh2, hh3, hO, hZ, hb⟩ := hrel
    obtain ⟨c0, c1, c2, c3, c4, c5, c6, c7⟩ := hO.cells8
    obtain ⟨f0, f1, f2, f3, f4, f5, f6, f7⟩ := hO.free8
    have hs := hO.lt
    by_cases hm : h % 16 = 0
    · have he : h = upTo16 (planStart L ((L : Int) / 16) 16) := by have := HR3.out; omega
      have HE := Lib.hid he
      have b1 : (h % 16 != 0) = false := by simp [hm]
      clear he hm
      obtain ⟨y0, y1, y2, y3, y4, y5, y6, y7⟩ := hZ.cells8
      obtain ⟨g0, g1, g2, g3, g4, g5, g6, g7⟩ := hZ.free8
      have hs2 := hZ.lt
      go_wp2
      refine bodyPost_ret (v := .tuple #[.agg #[.int .i64 L, .int .i64 2, .int .i64 ((L : Int) / 16), .int .i64 (2 + ((L : Int) / 16)), .int .i64 16, .int .i64 (2 + ((L : Int) / 16) + 16), .int .i64 h, .int .i64 (((L : Int) - h) / 16)], .int .i64 0]) ?_ rfl ⟨by rw [HE.out], by (repeat (first | with_reducible exact Below.refl _ _ | with_reducible assumption | with_reducible refine below_drewN ?_ _ | with_reducible refine Below.drew ?_ | with_reducible refine Below.alloc ?_ (by first | omega | (simp; omega) | simp) _ | with_reducible refine Below.setCell ?_ (by first | omega | (simp; omega) | simp) _))⟩
      simp [results, Tryz.results9, go_sem, *]
    · have b1 : (h % 16 != 0) = true := by simp [hm]
      have hlt : h < upTo16 (planStart L ((L : Int) / 16) 16) := by have := HR3.out; omega
      clear hm
      go_wp2
      go_roundg (gk - 1)
      case measure => omega
      case rel => exact ⟨h + 1, by omega, by omega, by omega, hO.set_ 6 _, hZ.far (by simp) _, by (repeat (first | with_reducible exact Below.refl _ _ | with_reducible assumption | with_reducible refine below_drewN ?_ _ | with_reducible refine Below.drew ?_ | with_reducible refine Below.alloc ?_ (by first | omega | (simp; omega) | simp) _ | with_reducible refine Below.setCell ?_ (by first | omega | (simp; omega) | simp) _))⟩

theorem plan_calls (w : World) (L : Nat) (h1 : 64 ≤ L) (h2 : L ≤ 4096) :
    Calls Tryz.prog 9 #[.int .i64 (L : Int)] w (PlanPost w L (planLogs L) (planIntents L)) := by
  by_cases hA : 8 < L / 16
  · have e1 : planLogs L = (L : Int) / 16 := by unfold planLogs; rw [if_pos (by omega)]
    by_cases hB : 4 < L / 32
    · by_cases hC : L / 32 < 16
      · have e2 : planIntents L = (L : Int) / 32 := by unfold planIntents; rw [if_pos (by omega), if_pos (by omega)]
        rw [e1, e2]
        exact plan_c w L h1 h2 hA hB hC
      · have e2 : planIntents L = 16 := by unfold planIntents; rw [if_pos (by omega), if_neg (by omega)]
        rw [e1, e2]
        exact plan_d w L h1 h2 hA (by omega)
    · have e2 : planIntents L = 4 := by unfold planIntents; rw [if_neg (by omega)]
      rw [e1, e2]
      exact plan_b w L h1 h2 hA (by omega)
  · have e1 : planLogs L = 8 := by unfold planLogs; rw [if_neg (by omega)]
    have e2 : planIntents L = 4 := by unfold planIntents; rw [if_neg (by omega)]
    rw [e1, e2]
    exact plan_a w L h1 h2 (by omega)

end Go.Proofs.YtckamjbdogpacaaGreatDoor
