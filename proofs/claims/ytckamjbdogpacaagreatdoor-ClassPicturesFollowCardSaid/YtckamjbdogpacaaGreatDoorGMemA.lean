/-
  A memory of any content: what lies where. has, shows, State, Load: what is read hangs on the memory alone.
  shows, Load and State over a memory of any content.
-/
import Derived.Test.YtckamjbdogpacaaGreatDoorGFixB
import Derived.Test.YtckamjbdogpacaaGreatDoorMemC
namespace Go.Proofs.YtckamjbdogpacaaGreatDoor
open Go.RowKit
set_option linter.unusedSimpArgs false
set_option linter.unusedVariables false

/-- 'L' lines, whose durable words are 'D', whose codes are 'C'. -/
def LnG (cur : Array Value) (L : Nat) (D : Nat → Nat → Int) (C : Nat → Int) : Prop := cur.size = L * 11 ∧ ∀ i, i < L → WIn (D i) ∧ (∀ j, j < 8 → cur[i * 11 + j]? = some (.int .i64 (D i j))) ∧ cur[i * 11 + 8]? = some (.int .i64 (C i))
/-- A pending store names a word of a line, and a word's value. -/
def StIn (ps : List (Nat × Int)) : Prop := ∀ p ∈ ps, p.1 < 8 ∧ 0 ≤ p.2 ∧ p.2 ≤ 1099511627775
/-- The pending stores of each line are a row of the owner's; the mark is within them. -/
def PeG (w : World) (base : Nat) (cur : Array Value) (L : Nat) (P : Nat → List (Nat × Int)) (E : Nat) : Prop :=
  ∀ i, i < L → ∃ (v : Value) (m : Nat), cur[i * 11 + 9]? = some v ∧ cur[i * 11 + 10]? = some (.int .i64 (m : Int)) ∧ m ≤ (P i).length ∧ w.ownsRow base 137 2 v (P i).length (stCells (P i)) ∧ (P i).length ≤ E ∧ StIn (P i)
/-- The keys of the map of busy lines are lines. -/
def KeysG (es : Array MapEntry) (ck L : Nat) : Prop := (∀ x ∈ es.toList, ∃ n : Nat, n < L ∧ x.key = .int .i64 (n : Int)) ∧ MapKept.Stamped es ck

/-- All blocks from 'n' on are of 'F'. -/
def Up (F : Nat → Prop) (n : Nat) : Prop := ∀ g, n ≤ g → F g
theorem Up.mono {F : Nat → Prop} {n m : Nat} (h : Up F n) (hm : n ≤ m) : Up F m := fun g hg => h g (Nat.le_trans hm hg)
/-- The blocks of a memory are of 'F'. -/
def OwnF (F : Nat → Prop) (gm gl gb : Nat) (v : Value) (cur : Array Value) (L : Nat) : Prop := F gm ∧ F gl ∧ F gb ∧ (∀ b, v.ownBlock = some b → F b) ∧ ∀ i, i < L → ∀ u, cur[i * 11 + 9]? = some u → ∀ b, u.ownBlock = some b → F b
theorem OwnF.ev {F : Nat → Prop} {gm gl gb gg n c L : Nat} {v : Value} {cur : Array Value} (h : OwnF F gm gl gb v cur L) (hf : F gg) : OwnF F gm gl gb (.slice (some ⟨gg, 0, none⟩) n c) cur L :=
  ⟨h.1, h.2.1, h.2.2.1, fun b hb => by simp only [Value.ownBlock, Option.some.injEq] at hb; exact hb ▸ hf, h.2.2.2.2⟩
theorem OwnF.set {F : Nat → Prop} {gm gl gb L : Nat} {v : Value} {cur : Array Value} (h : OwnF F gm gl gb v cur L) (k : Nat) (u : Value) (hk : (∀ i, i < L → k ≠ i * 11 + 9) ∨ ∀ b, u.ownBlock = some b → F b) : OwnF F gm gl gb v (cur.setIfInBounds k u) L := by
  refine ⟨h.1, h.2.1, h.2.2.1, h.2.2.2.1, fun i hi x hx b hb => ?_⟩
  by_cases he : k = i * 11 + 9
  · rcases hk with hk | hk
    · exact absurd he (hk i hi)
    · subst he
      rw [Array.getElem?_setIfInBounds] at hx
      simp only [if_true] at hx
      split at hx
      · injection hx with hx
        subst hx
        exact hk b hb
      · cases hx
  · rw [Array.getElem?_setIfInBounds_ne he] at hx
    exact h.2.2.2.2 i hi x hx b hb

/-- What has grown: only blocks of 'F' have changed. -/
def GrewF (base : Nat) (F : Nat → Prop) (w w' : World) : Prop := GrewM base w w' ∧ ∀ g, g < w.heap.size → w'.heap[g]? = w.heap[g]? ∨ F g
theorem GrewF.of_below {base : Nat} {F : Nat → Prop} {w w' : World} (hb : Below w.heap.size w w') : GrewF base F w w' := ⟨GrewM.of_below hb, fun g hg => .inl (hb.block g hg)⟩
theorem GrewF.trans {base : Nat} {F : Nat → Prop} {w w' w'' : World} (h : GrewF base F w w') (h' : GrewF base F w' w'') : GrewF base F w w'' := by
  refine ⟨h.1.trans h'.1, fun g hg => ?_⟩
  rcases h.2 g hg with h1 | h1
  · rcases h'.2 g (Nat.lt_of_lt_of_le hg h.1.size) with h2 | h2
    · exact .inl (h2.trans h1)
    · exact .inr h2
  · exact .inr h1
theorem GrewF.size {base : Nat} {F : Nat → Prop} {w w' : World} (h : GrewF base F w w') : w.heap.size ≤ w'.heap.size := h.1.size
theorem GrewF.set {w : World} {base g : Nat} {F : Nat → Prop} {t : TypeId} {cs : Array Value} (hc : Cl w g t cs) (hb : base ≤ g) (hf : F g) (ht : t = 92 ∨ t = 88 ∨ t = 137 ∨ t = 111) (i : Nat) (u : Value) : GrewF base F w (w.setCell ⟨g, i, none⟩ u) := by
  refine ⟨GrewM.set hc hb ht i u, fun k hk => ?_⟩
  by_cases hkg : k = g
  · subst hkg
    exact .inr hf
  · exact .inl (Below.heap_setCell _ _ _ _ hkg)
theorem GrewF.of_grown {w w' : World} {base : Nat} {F : Nat → Prop} {e : TypeId} {size n : Nat} {v : Value} {xs : List Value} (ho : w.ownsRow base e size v n xs) (hgr : w.grownBy w' v.ownBlock) (ht : e = 92 ∨ e = 88 ∨ e = 137 ∨ e = 111) (hf : ∀ b, v.ownBlock = some b → F b) : GrewF base F w w' := by
  refine ⟨GrewM.of_grew (Grew.of_grown ho hgr) ht, fun k hk => ?_⟩
  by_cases hkb : some k = v.ownBlock
  · exact .inr (hf k hkb.symm)
  · exact .inl (hgr.block k hk hkb)

/-- A memory at block 'gm': all of it lies from block 'base' on, in blocks of 'F'. -/
def MemG (base : Nat) (F : Nat → Prop) (w : World) (gm L : Nat) (D : Nat → Nat → Int) (C : Nat → Int) (P : Nat → List (Nat × Int)) (E : Nat) : Prop :=
  ∃ gl gb cur sp Ae ne ce xs es ck, base ≤ gm ∧ base ≤ gl ∧ base ≤ gb ∧ L ≤ 200 ∧
    Cl w gm 92 #[.slice (some ⟨gl, 0, none⟩) L L, .map (some gb), .int .i64 sp, .slice Ae ne ce] ∧
    Cl w gl 88 cur ∧ LnG cur L D C ∧ PeG w base cur L P E ∧ (ApartP cur L ∧ OwnF F gm gl gb (.slice Ae ne ce) cur L) ∧
    w.ownsRow base 111 12 (.slice Ae ne ce) ne xs ∧ ne ≤ E ∧ w.heap[gb]? = some (.map es ck) ∧ KeysG es ck L

theorem MemG.below {base : Nat} {F : Nat → Prop} {w w' : World} {gm L : Nat} {D : Nat → Nat → Int} {C : Nat → Int} {P : Nat → List (Nat × Int)} {E : Nat} (h : MemG base F w gm L D C P E) (hb : Below w.heap.size w w') : MemG base F w' gm L D C P E := by
  obtain ⟨gl, gb, cur, sp, Ae, ne, ce, xs, es, ck, h1, h2, h3, h4, hM, hL, hZ, hP, hA, hE, hn, hB, hK⟩ := h
  refine ⟨gl, gb, cur, sp, Ae, ne, ce, xs, es, ck, h1, h2, h3, h4, hM.below hb hM.lt, hL.below hb hL.lt, hZ, fun i hi => ?_, hA, own_below hE hb, hn, (hb.block gb (lt_of_heap hB)).trans hB, hK⟩
  obtain ⟨v, m, a, b, c, d, e⟩ := hP i hi
  exact ⟨v, m, a, b, c, own_below d hb, e⟩

/-- What a word shows behind some stores. -/
def shB (f : Nat → Int) (ps : List (Nat × Int)) (i : Nat) : Int := ps.foldl (fun a p => if p.1 = i then p.2 else a) (f i)
theorem shB_snoc (f : Nat → Int) (ps : List (Nat × Int)) (p : Nat × Int) (i : Nat) : shB f (ps ++ [p]) i = if p.1 = i then p.2 else shB f ps i := by simp [shB]
theorem shB_nil (f : Nat → Int) (i : Nat) : shB f [] i = f i := rfl
theorem shB_set (f : Nat → Int) (ps : List (Nat × Int)) (p : Nat × Int) (hp : p.1 < 8) : (#[.int .i64 ((shB f ps) 0), .int .i64 ((shB f ps) 1), .int .i64 ((shB f ps) 2), .int .i64 ((shB f ps) 3), .int .i64 ((shB f ps) 4), .int .i64 ((shB f ps) 5), .int .i64 ((shB f ps) 6), .int .i64 ((shB f ps) 7)] : Array Value).setIfInBounds p.1 (.int .i64 p.2) = #[.int .i64 ((shB f (ps ++ [p])) 0), .int .i64 ((shB f (ps ++ [p])) 1), .int .i64 ((shB f (ps ++ [p])) 2), .int .i64 ((shB f (ps ++ [p])) 3), .int .i64 ((shB f (ps ++ [p])) 4), .int .i64 ((shB f (ps ++ [p])) 5), .int .i64 ((shB f (ps ++ [p])) 6), .int .i64 ((shB f (ps ++ [p])) 7)] := by
  rw [w8_set _ _ _ hp]
  have h : ∀ i, setW (shB f ps) p.1 p.2 i = shB f (ps ++ [p]) i := fun i => by
    rw [shB_snoc]
    unfold setW
    by_cases h : i = p.1
    · rw [if_pos h, if_pos h.symm]
    · rw [if_neg h, if_neg (fun e => h e.symm)]
  simp only [h]
theorem WIn.shB {f : Nat → Int} (h : WIn f) {ps : List (Nat × Int)} (hp : StIn ps) : WIn (shB f ps) := by
  induction ps generalizing f with
  | nil => exact h
  | cons p ps ih =>
    have h2 := ih (f := setW f p.1 p.2) (h.set p.1 (hp p List.mem_cons_self).2.1 (hp p List.mem_cons_self).2.2) (fun q hq => hp q (List.mem_cons_of_mem _ hq))
    intro k hk
    have h3 := h2 k hk
    have e : Go.Proofs.YtckamjbdogpacaaGreatDoor.shB f (p :: ps) k = Go.Proofs.YtckamjbdogpacaaGreatDoor.shB (setW f p.1 p.2) ps k := by
      unfold Go.Proofs.YtckamjbdogpacaaGreatDoor.shB setW
      simp only [List.foldl_cons]
      by_cases hk2 : p.1 = k
      · rw [if_pos hk2, if_pos hk2.symm]
      · rw [if_neg hk2, if_neg (fun e => hk2 e.symm)]
    rw [e]
    exact h3

/-- The cells of one line, as a walk asks for them. -/
def LineG (w : World) (gl n : Nat) (f : Nat → Int) (c : Int) (v : Value) : Prop := (w.cell? ⟨gl, n * 11, none⟩ = some (.int .i64 (f 0)) ∧ w.cell? ⟨gl, n * 11 + 1, none⟩ = some (.int .i64 (f 1)) ∧ w.cell? ⟨gl, n * 11 + 2, none⟩ = some (.int .i64 (f 2)) ∧ w.cell? ⟨gl, n * 11 + 3, none⟩ = some (.int .i64 (f 3)) ∧
  w.cell? ⟨gl, n * 11 + 4, none⟩ = some (.int .i64 (f 4)) ∧ w.cell? ⟨gl, n * 11 + 5, none⟩ = some (.int .i64 (f 5)) ∧ w.cell? ⟨gl, n * 11 + 6, none⟩ = some (.int .i64 (f 6)) ∧ w.cell? ⟨gl, n * 11 + 7, none⟩ = some (.int .i64 (f 7)) ∧ w.cell? ⟨gl, n * 11 + 8, none⟩ = some (.int .i64 c)) ∧ w.cell? ⟨gl, n * 11 + 9, none⟩ = some v
theorem LineG.of {w : World} {gl L n : Nat} {cur : Array Value} {D : Nat → Nat → Int} {C : Nat → Int} {v : Value} (hL : Cl w gl 88 cur) (hZ : LnG cur L D C) (hn : n < L) (hv : cur[n * 11 + 9]? = some v) : LineG w gl n (D n) (C n) v := by
  obtain ⟨_, h1, h2⟩ := hZ.2 n hn
  have g : ∀ j, j < 8 → w.cell? ⟨gl, n * 11 + j, none⟩ = some (.int .i64 (D n j)) := fun j hj => (hL.cell _).trans (h1 j hj)
  exact ⟨⟨g 0 (by omega), g 1 (by omega), g 2 (by omega), g 3 (by omega), g 4 (by omega), g 5 (by omega), g 6 (by omega), g 7 (by omega), (hL.cell _).trans h2⟩, (hL.cell _).trans hv⟩
theorem LineG.below {w w' : World} {gl n : Nat} {f : Nat → Int} {c : Int} {v : Value} (h : LineG w gl n f c v) (hb : Below w.heap.size w w') : LineG w' gl n f c v := by
  obtain ⟨⟨l0, l1, l2, l3, l4, l5, l6, l7, l8⟩, l9⟩ := h
  have hgl : gl < w.heap.size := World.block_lt_of_cell? w _ l0
  have cl_ : ∀ o, w'.cell? ⟨gl, o, none⟩ = w.cell? ⟨gl, o, none⟩ := fun o => hb.cell (p := ⟨gl, o, none⟩) hgl
  exact ⟨⟨(cl_ _).trans l0, (cl_ _).trans l1, (cl_ _).trans l2, (cl_ _).trans l3, (cl_ _).trans l4, (cl_ _).trans l5, (cl_ _).trans l6, (cl_ _).trans l7, (cl_ _).trans l8⟩, (cl_ _).trans l9⟩

def hasB (n : Int) (L : Nat) : Bool := decide (0 ≤ n ∧ n < L)
set_option maxHeartbeats 400000 in
theorem has_calls (w : World) (gm L : Nat) (n : Int) (A : Option Addr) (c : Nat) (hm : w.cell? ⟨gm, 0, none⟩ = some (.slice A L c)) (_hL : L ≤ 200) :
    Calls Tryz.prog 63 #[.pointer (some ⟨gm, 0, none⟩), .int .i64 n] w fun e w' => e = .returned (.bool (hasB n L)) ∧ w = w' := by
  by_cases h0 : 0 ≤ n
  · by_cases h1 : n < L
    · have HR : Hid (hasB n L = true) := decide_eq_true ⟨h0, h1⟩
      have b1 : decide (n < (L : Int)) = true := decide_eq_true h1
      go_enter Tryz.func63, Tryz.ntmps63
      go_wp2
      go_ret
      exact ⟨by rw [HR.out, ← b1]; rfl, rfl⟩
    · have HR : Hid (hasB n L = false) := decide_eq_false (by omega)
      have b1 : decide (n < (L : Int)) = false := decide_eq_false h1
      go_enter Tryz.func63, Tryz.ntmps63
      go_wp2
      go_ret
      exact ⟨by rw [HR.out, ← b1]; rfl, rfl⟩
  · have HR : Hid (hasB n L = false) := decide_eq_false (by omega)
    go_enter Tryz.func63, Tryz.ntmps63
    go_wp2
    go_ret
    exact ⟨by rw [HR.out]; rfl, rfl⟩
end Go.Proofs.YtckamjbdogpacaaGreatDoor

namespace Go.Proofs.YtckamjbdogpacaaGreatDoor
open Go.RowKit
set_option linter.unusedSimpArgs false
set_option linter.unusedVariables false

set_option maxRecDepth 100000 in
set_option maxHeartbeats 4000000 in
theorem shows_err (w : World) (T f f' : Nat → Int) (cd er : Int) (gl n : Nat) (v : Value) (kk : Int) (hF : FixTo T f cd f' er) (her : er ≠ 0) (hT : Tb w T) (hdb : Db w) (hL : LineG w gl n f cd v) :
    Calls Tryz.prog 78 #[.pointer (some ⟨gl, n * 11, none⟩), .int .i64 kk] w fun e w' => e = .returned (.tuple #[.agg #[.int .i64 0, .int .i64 0, .int .i64 0, .int .i64 0, .int .i64 0, .int .i64 0, .int .i64 0, .int .i64 0], .int .i64 er]) ∧ Below w.heap.size w w' := by
  have ber : (er != 0) = true := by simp [her]
  obtain ⟨⟨l0, l1, l2, l3, l4, l5, l6, l7, l8⟩, l9⟩ := hL
  have hgl : gl < w.heap.size := World.block_lt_of_cell? w _ l0
  obtain ⟨_, cc, hfix⟩ := hF
  have HF := Lib.hid hfix
  clear hfix
  clear her
  go_enter Tryz.func78, Tryz.ntmps78
  go_upto_region 1 with (fail)
  generalize hwn : w.alloc (.cells #[.int .i64 0, .int .i64 0, .int .i64 0, .int .i64 0, .int .i64 0, .int .i64 0, .int .i64 0, .int .i64 0] 67) = wn
  have hZn : Cl wn w.heap.size 67 #[.int .i64 0, .int .i64 0, .int .i64 0, .int .i64 0, .int .i64 0, .int .i64 0, .int .i64 0, .int .i64 0] := by rw [← hwn]; exact Cl.new _ _ _
  have hAn : Below w.heap.size w wn := by rw [← hwn]; (repeat (first | with_reducible exact Below.refl _ _ | with_reducible assumption | with_reducible refine below_drewN ?_ _ | with_reducible refine Below.drew ?_ | with_reducible refine Below.alloc ?_ (by first | omega | (simp; omega) | simp) _ | with_reducible refine Below.setCell ?_ (by first | omega | (simp; omega) | simp) _))
  clear hwn
  have cl_ : ∀ o, wn.cell? ⟨gl, o, none⟩ = w.cell? ⟨gl, o, none⟩ := fun o => hAn.cell (p := ⟨gl, o, none⟩) hgl
  replace l0 := (cl_ _).trans l0
  replace l1 := (cl_ _).trans l1
  replace l2 := (cl_ _).trans l2
  replace l3 := (cl_ _).trans l3
  replace l4 := (cl_ _).trans l4
  replace l5 := (cl_ _).trans l5
  replace l6 := (cl_ _).trans l6
  replace l7 := (cl_ _).trans l7
  replace l8 := (cl_ _).trans l8
  replace l9 := (cl_ _).trans l9
  have hgn : gl < wn.heap.size := Nat.lt_of_lt_of_le hgl hAn.size
  clear cl_
  have hzl := hZn.lt
  have yn : ¬ gl = wn.heap.size := by omega
  have yn' : ¬ wn.heap.size = gl := by omega
  have hTn := Lib.hid (hT.below hAn)
  have hDn := Lib.hid (hdb.below hAn)
  clear hT hdb
  go_cut [6, 7, 8] (fun s t u wx => ∃ g, s = .pointer (some ⟨g, 0, none⟩) ∧ t = .int .i64 cc ∧ u = .int .i64 er ∧ wn.heap.size ≤ g ∧ Cl wx g 67 #[.int .i64 (f' 0), .int .i64 (f' 1), .int .i64 (f' 2), .int .i64 (f' 3), .int .i64 (f' 4), .int .i64 (f' 5), .int .i64 (f' 6), .int .i64 (f' 7)] ∧ Below wn.heap.size wn wx)
  case first =>
    go_region_held3 (fun w' => w'.cell? ⟨gl, n * 11, none⟩ = some (.int .i64 (f 0)) ∧ w'.cell? ⟨gl, n * 11 + 1, none⟩ = some (.int .i64 (f 1)) ∧ w'.cell? ⟨gl, n * 11 + 2, none⟩ = some (.int .i64 (f 2)) ∧ w'.cell? ⟨gl, n * 11 + 3, none⟩ = some (.int .i64 (f 3)) ∧ w'.cell? ⟨gl, n * 11 + 4, none⟩ = some (.int .i64 (f 4)) ∧ w'.cell? ⟨gl, n * 11 + 5, none⟩ = some (.int .i64 (f 5)) ∧ w'.cell? ⟨gl, n * 11 + 6, none⟩ = some (.int .i64 (f 6)) ∧ w'.cell? ⟨gl, n * 11 + 7, none⟩ = some (.int .i64 (f 7)) ∧ w'.cell? ⟨gl, n * 11 + 8, none⟩ = some (.int .i64 cd)) (go_keep)
      (first | (go_at_call 103; refine (HF.out _ (hTn.out.below (by (repeat (first | with_reducible exact Below.refl _ _ | with_reducible assumption | with_reducible refine below_drewN ?_ _ | with_reducible refine Below.drew ?_ | with_reducible refine Below.alloc ?_ (by first | omega | (simp; omega) | simp) _ | with_reducible refine Below.setCell ?_ (by first | omega | (simp; omega) | simp) _)))) (hDn.out.below (by (repeat (first | with_reducible exact Below.refl _ _ | with_reducible assumption | with_reducible refine below_drewN ?_ _ | with_reducible refine Below.drew ?_ | with_reducible refine Below.alloc ?_ (by first | omega | (simp; omega) | simp) _ | with_reducible refine Below.setCell ?_ (by first | omega | (simp; omega) | simp) _))))).mono ?_; rintro e wa ⟨rfl, ba0⟩; (have ba : Below wn.heap.size wn wa := (by first | exact below_of_drew ba0 | exact Below.trans (by (repeat (first | with_reducible exact Below.refl _ _ | with_reducible assumption | with_reducible refine below_drewN ?_ _ | with_reducible refine Below.drew ?_ | with_reducible refine Below.alloc ?_ (by first | omega | (simp; omega) | simp) _ | with_reducible refine Below.setCell ?_ (by first | omega | (simp; omega) | simp) _))) (ba0.mono (by simp)))); (have e0 := (ba.cell (p := ⟨gl, n * 11, none⟩) hgn).trans l0); (have e1 := (ba.cell (p := ⟨gl, n * 11 + 1, none⟩) hgn).trans l1); (have e2 := (ba.cell (p := ⟨gl, n * 11 + 2, none⟩) hgn).trans l2); (have e3 := (ba.cell (p := ⟨gl, n * 11 + 3, none⟩) hgn).trans l3); (have e4 := (ba.cell (p := ⟨gl, n * 11 + 4, none⟩) hgn).trans l4); (have e5 := (ba.cell (p := ⟨gl, n * 11 + 5, none⟩) hgn).trans l5); (have e6 := (ba.cell (p := ⟨gl, n * 11 + 6, none⟩) hgn).trans l6); (have e7 := (ba.cell (p := ⟨gl, n * 11 + 7, none⟩) hgn).trans l7); (have e8 := (ba.cell (p := ⟨gl, n * 11 + 8, none⟩) hgn).trans l8); (have sa := ba.size); (have q1 : gl < wa.heap.size := (by omega)); (first | (have g1 := (Cl.new wn 67 #[.int .i64 0, .int .i64 0, .int .i64 0, .int .i64 0, .int .i64 0, .int .i64 0, .int .i64 0, .int .i64 0]).drew.below ba0 (by simp); obtain ⟨k0, k1, k2, k3, k4, k5, k6, k7⟩ := g1.has8'; obtain ⟨j0, j1, j2, j3, j4, j5, j6, j7⟩ := g1.free8') | skip)))
    all_goals (go_wp2_with fail; go_meet)
    · exact ⟨wa.heap.size, rfl, rfl, rfl, by omega, Cl.new _ _ _, by (repeat (first | with_reducible exact Below.refl _ _ | with_reducible assumption | with_reducible refine below_drewN ?_ _ | with_reducible refine Below.drew ?_ | with_reducible refine Below.alloc ?_ (by first | omega | (simp; omega) | simp) _ | with_reducible refine Below.setCell ?_ (by first | omega | (simp; omega) | simp) _))⟩
    · exact ⟨wn.heap.size, rfl, rfl, rfl, by omega, g1.set8 _ _ _ _ _ _ _ _, by (repeat (first | with_reducible exact Below.refl _ _ | with_reducible assumption | with_reducible refine below_drewN ?_ _ | with_reducible refine Below.drew ?_ | with_reducible refine Below.alloc ?_ (by first | omega | (simp; omega) | simp) _ | with_reducible refine Below.setCell ?_ (by first | omega | (simp; omega) | simp) _))⟩
  case rest =>
    obtain ⟨g, rfl, rfl, rfl, hg, hG, hbx⟩ := hcut
    obtain ⟨w2, hw2⟩ : ∃ x : World, x = wc := ⟨_, rfl⟩
    subst hw2
    have hB := hAn.trans (hbx.mono hAn.size)
    have hZ2 := hZn.below hbx hZn.lt
    have hg2 := hG.lt
    have hz2 := hZ2.lt
    have ngz : g ≠ w.heap.size := by omega
    have hgw : w.heap.size < g := by omega
    clear l0 l1 l2 l3 l4 l5 l6 l7 l8 l9 hbx hZn hAn hgn yn yn' hzl HF hTn hDn
    obtain ⟨y0, y1, y2, y3, y4, y5, y6, y7⟩ := hZ2.free8'
    obtain ⟨z0, z1, z2, z3, z4, z5, z6, z7⟩ := hZ2.has8'
    go_wp2_with fail
    refine bodyPost_ret (v := .tuple #[.agg #[.int .i64 0, .int .i64 0, .int .i64 0, .int .i64 0, .int .i64 0, .int .i64 0, .int .i64 0, .int .i64 0], .int .i64 er]) ?_ rfl ⟨rfl, ?_⟩
    · simp [results, Tryz.results78, go_sem, *]
    · (repeat (first | with_reducible exact Below.refl _ _ | with_reducible assumption | with_reducible refine below_drewN ?_ _ | with_reducible refine Below.drew ?_ | with_reducible refine Below.alloc ?_ (by first | omega | (simp; omega) | simp) _ | with_reducible refine Below.setCell ?_ (by first | omega | (simp; omega) | simp) _))

/-- What a line shows behind its first pending stores. -/
def ShowRelG (w : World) (g : Nat) (f : Nat → Int) (ps : List (Nat × Int)) (k : Nat) (A : Option Addr) (cs : Nat) (i : Value) (wr : World) : Prop :=
  ∃ j : Nat, j ≤ k ∧ i = .int .i64 j ∧ Cl wr g 67 #[.int .i64 ((shB f (ps.take j)) 0), .int .i64 ((shB f (ps.take j)) 1), .int .i64 ((shB f (ps.take j)) 2), .int .i64 ((shB f (ps.take j)) 3), .int .i64 ((shB f (ps.take j)) 4), .int .i64 ((shB f (ps.take j)) 5), .int .i64 ((shB f (ps.take j)) 6), .int .i64 ((shB f (ps.take j)) 7)] ∧ Cl wr w.heap.size 67 #[.int .i64 0, .int .i64 0, .int .i64 0, .int .i64 0, .int .i64 0, .int .i64 0, .int .i64 0, .int .i64 0] ∧ Rd wr 137 2 (.slice A ps.length cs) ps.length (stCells ps) ∧ Below w.heap.size w wr

set_option maxRecDepth 100000 in
set_option maxHeartbeats 4000000 in
theorem shows_ok (w : World) (T f f' : Nat → Int) (cd : Int) (gl n : Nat) (A : Option Addr) (cs : Nat) (ps : List (Nat × Int)) (k : Nat) (hF : FixTo T f cd f' 0) (hT : Tb w T) (hdb : Db w) (hL : LineG w gl n f cd (.slice A ps.length cs)) (hR : Rd w 137 2 (.slice A ps.length cs) ps.length (stCells ps)) (hk : k ≤ ps.length) (hl : ps.length ≤ 1000) (h8 : StIn ps) :
    Calls Tryz.prog 78 #[.pointer (some ⟨gl, n * 11, none⟩), .int .i64 (k : Int)] w fun e w' => e = .returned (.tuple #[.agg #[.int .i64 ((shB f' (ps.take k)) 0), .int .i64 ((shB f' (ps.take k)) 1), .int .i64 ((shB f' (ps.take k)) 2), .int .i64 ((shB f' (ps.take k)) 3), .int .i64 ((shB f' (ps.take k)) 4), .int .i64 ((shB f' (ps.take k)) 5), .int .i64 ((shB f' (ps.take k)) 6), .int .i64 ((shB f' (ps.take k)) 7)], .int .i64 0]) ∧ Below w.heap.size w w' := by
  have hR0 := hR
  obtain ⟨_, A', c', hv', hcc, hmx, hnil, hcell⟩ := hR
  injection hv' with e1 _ e3
  subst e1
  subst e3
  obtain ⟨er, her⟩ : ∃ er : Int, er = 0 := ⟨_, rfl⟩
  rw [← her] at hF
  have HER := Lib.hid her
  clear her
  obtain ⟨⟨l0, l1, l2, l3, l4, l5, l6, l7, l8⟩, l9⟩ := hL
  have hgl : gl < w.heap.size := World.block_lt_of_cell? w _ l0
  obtain ⟨_, cc, hfix⟩ := hF
  have HF := Lib.hid hfix
  clear hfix
  go_enter Tryz.func78, Tryz.ntmps78
  go_upto_region 1 with (fail)
  generalize hwn : w.alloc (.cells #[.int .i64 0, .int .i64 0, .int .i64 0, .int .i64 0, .int .i64 0, .int .i64 0, .int .i64 0, .int .i64 0] 67) = wn
  have hZn : Cl wn w.heap.size 67 #[.int .i64 0, .int .i64 0, .int .i64 0, .int .i64 0, .int .i64 0, .int .i64 0, .int .i64 0, .int .i64 0] := by rw [← hwn]; exact Cl.new _ _ _
  have hAn : Below w.heap.size w wn := by rw [← hwn]; (repeat (first | with_reducible exact Below.refl _ _ | with_reducible assumption | with_reducible refine below_drewN ?_ _ | with_reducible refine Below.drew ?_ | with_reducible refine Below.alloc ?_ (by first | omega | (simp; omega) | simp) _ | with_reducible refine Below.setCell ?_ (by first | omega | (simp; omega) | simp) _))
  clear hwn
  have cl_ : ∀ o, wn.cell? ⟨gl, o, none⟩ = w.cell? ⟨gl, o, none⟩ := fun o => hAn.cell (p := ⟨gl, o, none⟩) hgl
  replace l0 := (cl_ _).trans l0
  replace l1 := (cl_ _).trans l1
  replace l2 := (cl_ _).trans l2
  replace l3 := (cl_ _).trans l3
  replace l4 := (cl_ _).trans l4
  replace l5 := (cl_ _).trans l5
  replace l6 := (cl_ _).trans l6
  replace l7 := (cl_ _).trans l7
  replace l8 := (cl_ _).trans l8
  replace l9 := (cl_ _).trans l9
  have hgn : gl < wn.heap.size := Nat.lt_of_lt_of_le hgl hAn.size
  clear cl_
  have hzl := hZn.lt
  have yn : ¬ gl = wn.heap.size := by omega
  have yn' : ¬ wn.heap.size = gl := by omega
  have hTn := Lib.hid (hT.below hAn)
  have hDn := Lib.hid (hdb.below hAn)
  clear hT hdb
  go_cut [6, 7, 8] (fun s t u wx => ∃ g, s = .pointer (some ⟨g, 0, none⟩) ∧ t = .int .i64 cc ∧ u = .int .i64 er ∧ wn.heap.size ≤ g ∧ Cl wx g 67 #[.int .i64 (f' 0), .int .i64 (f' 1), .int .i64 (f' 2), .int .i64 (f' 3), .int .i64 (f' 4), .int .i64 (f' 5), .int .i64 (f' 6), .int .i64 (f' 7)] ∧ Below wn.heap.size wn wx)
  case first =>
    go_region_held3 (fun w' => w'.cell? ⟨gl, n * 11, none⟩ = some (.int .i64 (f 0)) ∧ w'.cell? ⟨gl, n * 11 + 1, none⟩ = some (.int .i64 (f 1)) ∧ w'.cell? ⟨gl, n * 11 + 2, none⟩ = some (.int .i64 (f 2)) ∧ w'.cell? ⟨gl, n * 11 + 3, none⟩ = some (.int .i64 (f 3)) ∧ w'.cell? ⟨gl, n * 11 + 4, none⟩ = some (.int .i64 (f 4)) ∧ w'.cell? ⟨gl, n * 11 + 5, none⟩ = some (.int .i64 (f 5)) ∧ w'.cell? ⟨gl, n * 11 + 6, none⟩ = some (.int .i64 (f 6)) ∧ w'.cell? ⟨gl, n * 11 + 7, none⟩ = some (.int .i64 (f 7)) ∧ w'.cell? ⟨gl, n * 11 + 8, none⟩ = some (.int .i64 cd)) (go_keep)
      (first | (go_at_call 103; refine (HF.out _ (hTn.out.below (by (repeat (first | with_reducible exact Below.refl _ _ | with_reducible assumption | with_reducible refine below_drewN ?_ _ | with_reducible refine Below.drew ?_ | with_reducible refine Below.alloc ?_ (by first | omega | (simp; omega) | simp) _ | with_reducible refine Below.setCell ?_ (by first | omega | (simp; omega) | simp) _)))) (hDn.out.below (by (repeat (first | with_reducible exact Below.refl _ _ | with_reducible assumption | with_reducible refine below_drewN ?_ _ | with_reducible refine Below.drew ?_ | with_reducible refine Below.alloc ?_ (by first | omega | (simp; omega) | simp) _ | with_reducible refine Below.setCell ?_ (by first | omega | (simp; omega) | simp) _))))).mono ?_; rintro e wa ⟨rfl, ba0⟩; (have ba : Below wn.heap.size wn wa := (by first | exact below_of_drew ba0 | exact Below.trans (by (repeat (first | with_reducible exact Below.refl _ _ | with_reducible assumption | with_reducible refine below_drewN ?_ _ | with_reducible refine Below.drew ?_ | with_reducible refine Below.alloc ?_ (by first | omega | (simp; omega) | simp) _ | with_reducible refine Below.setCell ?_ (by first | omega | (simp; omega) | simp) _))) (ba0.mono (by simp)))); (have e0 := (ba.cell (p := ⟨gl, n * 11, none⟩) hgn).trans l0); (have e1 := (ba.cell (p := ⟨gl, n * 11 + 1, none⟩) hgn).trans l1); (have e2 := (ba.cell (p := ⟨gl, n * 11 + 2, none⟩) hgn).trans l2); (have e3 := (ba.cell (p := ⟨gl, n * 11 + 3, none⟩) hgn).trans l3); (have e4 := (ba.cell (p := ⟨gl, n * 11 + 4, none⟩) hgn).trans l4); (have e5 := (ba.cell (p := ⟨gl, n * 11 + 5, none⟩) hgn).trans l5); (have e6 := (ba.cell (p := ⟨gl, n * 11 + 6, none⟩) hgn).trans l6); (have e7 := (ba.cell (p := ⟨gl, n * 11 + 7, none⟩) hgn).trans l7); (have e8 := (ba.cell (p := ⟨gl, n * 11 + 8, none⟩) hgn).trans l8); (have sa := ba.size); (have q1 : gl < wa.heap.size := (by omega)); (first | (have g1 := (Cl.new wn 67 #[.int .i64 0, .int .i64 0, .int .i64 0, .int .i64 0, .int .i64 0, .int .i64 0, .int .i64 0, .int .i64 0]).drew.below ba0 (by simp); obtain ⟨k0, k1, k2, k3, k4, k5, k6, k7⟩ := g1.has8'; obtain ⟨j0, j1, j2, j3, j4, j5, j6, j7⟩ := g1.free8') | skip)))
    all_goals (go_wp2_with fail; go_meet)
    · exact ⟨wa.heap.size, rfl, rfl, rfl, by omega, Cl.new _ _ _, by (repeat (first | with_reducible exact Below.refl _ _ | with_reducible assumption | with_reducible refine below_drewN ?_ _ | with_reducible refine Below.drew ?_ | with_reducible refine Below.alloc ?_ (by first | omega | (simp; omega) | simp) _ | with_reducible refine Below.setCell ?_ (by first | omega | (simp; omega) | simp) _))⟩
    · exact ⟨wn.heap.size, rfl, rfl, rfl, by omega, g1.set8 _ _ _ _ _ _ _ _, by (repeat (first | with_reducible exact Below.refl _ _ | with_reducible assumption | with_reducible refine below_drewN ?_ _ | with_reducible refine Below.drew ?_ | with_reducible refine Below.alloc ?_ (by first | omega | (simp; omega) | simp) _ | with_reducible refine Below.setCell ?_ (by first | omega | (simp; omega) | simp) _))⟩
  case rest =>
    obtain ⟨g, rfl, rfl, rfl, hg, hG, hbx⟩ := hcut
    obtain ⟨w2, hw2⟩ : ∃ x : World, x = wc := ⟨_, rfl⟩
    subst hw2
    have hB := hAn.trans (hbx.mono hAn.size)
    have hZ2 := hZn.below hbx hZn.lt
    have hg2 := hG.lt
    have hz2 := hZ2.lt
    have ngz : g ≠ w.heap.size := by omega
    have hgw : w.heap.size < g := by omega
    have l9' := (hbx.cell (p := ⟨gl, n * 11 + 9, none⟩) hgn).trans l9
    have hl3 : gl < w2.heap.size := Nat.lt_of_lt_of_le hgn hbx.size
    clear l0 l1 l2 l3 l4 l5 l6 l7 l8 l9 hbx hZn hAn hgn yn yn' hzl HF hTn hDn
    have hRn := hR0.below hB
    have H8 := Lib.hid h8
    rw [HER.out]
    have kcs : k ≤ cs := by omega
    have ki0 : (0 : Int) ≤ (k : Int) := by omega
    have ki1 : (k : Int) ≤ (cs : Int) := by omega
    clear hcell h8 hR0 HER
    go_wp2_with fail
    go_loopw [10, 37] (fun _ i wr => ShowRelG w g f' ps k A cs i wr) (fun _ i _ => k - (intOf i).toNat)
    case atStart => exact ⟨0, Nat.zero_le _, rfl, hG, hZ2, hRn, hB⟩
    case round =>
      clear hG hZ2 hB l9'
      obtain ⟨j, hj, rfl, hG, hZ, hRj, hb⟩ := hrel
      have hgl2 := hG.lt
      have hzl2 := hZ.lt
      by_cases hlt : j < k
      · obtain ⟨⟨wd, vl⟩, hp⟩ : ∃ x, ps[j]? = some x := ⟨_, List.getElem?_eq_getElem (show j < ps.length by omega)⟩
        have hw8 : wd < 8 := (H8.out _ (List.mem_of_getElem? hp)).1
        have hT : ps.take (j + 1) = ps.take j ++ [(wd, vl)] := by rw [List.take_add_one, hp]; rfl
        obtain ⟨c0, c1⟩ := stCells_get ps j _ hp
        obtain ⟨_, A1, c2, hv2, _, _, _, hcell⟩ := hRj
        obtain ⟨b, o, cur, fr, hA, hh, hcl⟩ := hcell (by omega)
        injection hv2 with f1 _ f3
        subst hA
        subst f1
        subst f3
        have hbl := lt_of_heap hh
        have d0 : wr.cell? ⟨b, o + j * 2, none⟩ = some (.int .i64 (wd : Int)) := by rw [cell_of_row wr b _ cur _ fr hh]; exact hcl _ _ c0
        have d1 : wr.cell? ⟨b, o + j * 2 + 1, none⟩ = some (.int .i64 vl) := by rw [Nat.add_assoc, cell_of_row wr b _ cur _ fr hh]; exact hcl _ _ c1
        have ng : b ≠ g := by
          rintro rfl
          unfold Cl at hG
          rw [hh] at hG
          injection hG with hG
          injection hG with _ ht
          exact absurd ht (by decide)
        have ng' : g ≠ b := Ne.symm ng
        have gw := (hG.cell wd).trans (w8_get _ _ hw8)
        have gf := hG.free wd
        have HT := Lib.hid hT
        have hRj' : Rd wr 137 2 (.slice (some ⟨b, o, none⟩) ps.length cs) ps.length (stCells ps) := ⟨by assumption, _, cs, rfl, hcc, hmx, hnil, fun _ => ⟨b, o, cur, fr, rfl, hh, hcl⟩⟩
        have hset := hG.set_ wd (.int .i64 vl)
        rw [shB_set f' (ps.take j) (wd, vl) hw8, ← hT] at hset
        clear hcell hT c0 c1 hp
        go_wp2_with fail
        exact ⟨⟨j + 1, by omega, by go_num, hset.alloc _, (hZ.far (Ne.symm ngz) _).alloc _, Rd.alloc (Rd.far hRj' hG (by decide) _ _) _, by (repeat (first | with_reducible exact Below.refl _ _ | with_reducible assumption | with_reducible refine below_drewN ?_ _ | with_reducible refine Below.drew ?_ | with_reducible refine Below.alloc ?_ (by first | omega | (simp; omega) | simp) _ | with_reducible refine Below.setCell ?_ (by first | omega | (simp; omega) | simp) _))⟩, by simp [intOf]; omega⟩
      · obtain rfl : j = k := by omega
        obtain ⟨x0, x1, x2, x3, x4, x5, x6, x7⟩ := hG.has8'
        obtain ⟨y0, y1, y2, y3, y4, y5, y6, y7⟩ := hZ.free8'
        obtain ⟨z0, z1, z2, z3, z4, z5, z6, z7⟩ := hZ.has8'
        have ngz' : ¬ w.heap.size = g := fun h => ngz h.symm
        go_wp2_with fail
        refine bodyPost_ret (v := .tuple #[.agg #[.int .i64 ((shB f' (ps.take j)) 0), .int .i64 ((shB f' (ps.take j)) 1), .int .i64 ((shB f' (ps.take j)) 2), .int .i64 ((shB f' (ps.take j)) 3), .int .i64 ((shB f' (ps.take j)) 4), .int .i64 ((shB f' (ps.take j)) 5), .int .i64 ((shB f' (ps.take j)) 6), .int .i64 ((shB f' (ps.take j)) 7)], .int .i64 0]) ?_ rfl ⟨rfl, ?_⟩
        · simp [results, Tryz.results78, go_sem, *]
        · (repeat (first | with_reducible exact Below.refl _ _ | with_reducible assumption | with_reducible refine below_drewN ?_ _ | with_reducible refine Below.drew ?_ | with_reducible refine Below.alloc ?_ (by first | omega | (simp; omega) | simp) _ | with_reducible refine Below.setCell ?_ (by first | omega | (simp; omega) | simp) _))

/-- What a line shows: the words, and the error. -/
def shF (f' : Nat → Int) (e : Int) (ps : List (Nat × Int)) : Nat → Int := if e = 0 then shB f' ps else fun _ => 0
theorem shF_in {T f f' : Nat → Int} {c e : Int} (hF : FixTo T f c f' e) {ps : List (Nat × Int)} (hp : StIn ps) : WIn (shF f' e ps) := by
  unfold shF
  split
  · exact hF.1.shB hp
  · exact win_zero
theorem StIn.take {ps : List (Nat × Int)} (h : StIn ps) (k : Nat) : StIn (ps.take k) := fun p hp => h p (List.mem_of_mem_take hp)
theorem shows_any (w : World) (T f f' : Nat → Int) (cd er : Int) (gl n : Nat) (A : Option Addr) (cs : Nat) (ps : List (Nat × Int)) (k : Nat) (hF : FixTo T f cd f' er) (hT : Tb w T) (hdb : Db w) (hL : LineG w gl n f cd (.slice A ps.length cs)) (hR : Rd w 137 2 (.slice A ps.length cs) ps.length (stCells ps)) (hk : k ≤ ps.length) (hl : ps.length ≤ 1000) (h8 : StIn ps) :
    Calls Tryz.prog 78 #[.pointer (some ⟨gl, n * 11, none⟩), .int .i64 (k : Int)] w fun e w' => e = .returned (.tuple #[.agg #[.int .i64 ((shF f' er (ps.take k)) 0), .int .i64 ((shF f' er (ps.take k)) 1), .int .i64 ((shF f' er (ps.take k)) 2), .int .i64 ((shF f' er (ps.take k)) 3), .int .i64 ((shF f' er (ps.take k)) 4), .int .i64 ((shF f' er (ps.take k)) 5), .int .i64 ((shF f' er (ps.take k)) 6), .int .i64 ((shF f' er (ps.take k)) 7)], .int .i64 er]) ∧ Below w.heap.size w w' := by
  by_cases her : er = 0
  · subst her
    rw [shF, if_pos rfl]
    exact shows_ok w T f f' cd gl n A cs ps k hF hT hdb hL hR hk hl h8
  · rw [shF, if_neg her]
    exact shows_err w T f f' cd er gl n _ k hF her hT hdb hL
end Go.Proofs.YtckamjbdogpacaaGreatDoor
