/-
  What is carried through the examples of layer 11.
-/
import Derived.Test.YtcoeoggoaiebeaaDoorFill
import Derived.Test.YtcoeoggoaiebeaaDoorScan
import Derived.Test.YtcoeoggoaiebeaaDoorContent
import Derived.Test.YtcoeoggoaiebeaaDoorCheck
import Derived.Test.YtcoeoggoaiebeaaDoorSame
namespace Go.Proofs.YtcoeoggoaiebeaaDoor
open Go.RowKit
set_option linter.unusedSimpArgs false
set_option linter.unusedVariables false

theorem plan64 (w : World) : Calls Tryd.prog 13 #[.int .i64 64] w fun e w' => e = .returned (.tuple #[.agg #[.int .i64 64, .int .i64 2, .int .i64 8, .int .i64 10, .int .i64 4, .int .i64 14, .int .i64 16, .int .i64 3], .int .i64 0]) ∧ Below w.heap.size w w' := by
  refine (plan_a w 64 (by omega) (by omega) (by omega)).mono ?_
  rintro e w' ⟨rfl, hb⟩
  exact ⟨rfl, hb⟩

theorem RdI.of_cl {w : World} {g : Nat} (xs : List Int) (n : Nat) (hn : xs.length = n) (hm : n ≤ 100) (h : Cl w g 3 (xs.map (Value.int .i64)).toArray) : RdI w (.slice (some ⟨g, 0, none⟩) n n) xs := by
  subst hn
  refine ⟨by simp, some ⟨g, 0, none⟩, xs.length, rfl, Nat.le_refl _, by unfold maxLen; omega, by simp, fun _ => ⟨g, 0, _, (0, 0), rfl, h, fun j u hu => ?_⟩⟩
  simpa using hu

def Q0 : Nat → List (Nat × Int) := fun _ => []
def Q1 : Nat → List (Nat × Int) := upd Q0 14 (0, 4)
def Q2 : Nat → List (Nat × Int) := upd Q1 24 (0, 306)
def Q3 : Nat → List (Nat × Int) := upd (upd Q2 24 (1, 5)) 24 (2, 6)
theorem upd_8 {P : Nat → List (Nat × Int)} (h : ∀ n, ∀ p ∈ P n, p.1 < 8) (m : Nat) (x : Nat × Int) (hx : x.1 < 8) : ∀ n, ∀ p ∈ upd P m x n, p.1 < 8 := by
  intro n p hp
  unfold upd at hp
  split at hp
  · rcases List.mem_append.1 hp with h1 | h1
    · exact h n p h1
    · simp at h1; subst h1; exact hx
  · exact h n p hp
theorem Q0_8 : ∀ n, ∀ p ∈ Q0 n, p.1 < 8 := fun n p hp => by simp [Q0] at hp
theorem Q1_8 : ∀ n, ∀ p ∈ Q1 n, p.1 < 8 := upd_8 Q0_8 _ _ (by decide)
theorem Q2_8 : ∀ n, ∀ p ∈ Q2 n, p.1 < 8 := upd_8 Q1_8 _ _ (by decide)
theorem Q3_8 : ∀ n, ∀ p ∈ Q3 n, p.1 < 8 := upd_8 (upd_8 Q2_8 _ _ (by decide)) _ _ (by decide)

/-- What the examples have at hand: the layout, the memory, the tables. -/
def SanSt (w wr : World) (gL gm base : Nat) (P : Nat → List (Nat × Int)) (E : Nat) : Prop :=
  Cl wr gL 31 #[.int .i64 64, .int .i64 2, .int .i64 8, .int .i64 10, .int .i64 4, .int .i64 14, .int .i64 16, .int .i64 3] ∧ MemIs base wr gm 64 P E ∧ Hd wr ∧ Pt wr ∧ Below w.heap.size w wr ∧ w.heap.size ≤ base ∧ base ≤ wr.heap.size ∧ 2 < base ∧ 0 < base
theorem SanSt.below {w wr wr' : World} {gL gm base : Nat} {P : Nat → List (Nat × Int)} {E : Nat} (h : SanSt w wr gL gm base P E) (hb : Below wr.heap.size wr wr') : SanSt w wr' gL gm base P E := by
  obtain ⟨h1, h2, h3, h4, h5, h6, h7, h8, h9⟩ := h
  exact ⟨h1.below hb h1.lt, h2.below hb, h3.below hb, h4.below hb, h5.trans (hb.mono h5.size), h6, Nat.le_trans h7 hb.size, h8, h9⟩
theorem SanSt.grew {w wr wr' : World} {gL gm base : Nat} {P P' : Nat → List (Nat × Int)} {E E' : Nat} (h : SanSt w wr gL gm base P E) (hM : MemIs base wr' gm 64 P' E') (hg : GrewM base wr wr') : SanSt w wr' gL gm base P' E' := by
  obtain ⟨h1, h2, h3, h4, h5, h6, h7, h8, h9⟩ := h
  exact ⟨hg.cl h1 (by decide), hM, h3.grewM h8 hg, h4.grewM h9 hg, hg.below h5 h5.size h6, h6, Nat.le_trans h7 hg.size, h8, h9⟩

theorem san_assigned {w wr : World} {gL gm base : Nat} (h : SanSt w wr gL gm base Q0 0) :
    Calls Tryd.prog 26 #[.pointer (some ⟨gm, 0, none⟩), .agg #[.int .i64 64, .int .i64 2, .int .i64 8, .int .i64 10, .int .i64 4, .int .i64 14, .int .i64 16, .int .i64 3], .int .i64 0] wr fun e w' => e = .returned (.tuple #[.int .i64 (-1), .int .i64 0]) ∧ Below wr.heap.size wr w' :=
  Assigned_calls base wr gm 64 14 0 Q0 0 h.2.1 64 2 8 10 4 14 16 3 0 (by omega) (by omega) (by omega) (by omega) (by omega) (by omega) (by omega) (by omega) (Q0_8 14) (by decide) (by decide)
theorem san_of {w wr : World} {gL gm base : Nat} (h : SanSt w wr gL gm base Q1 1) :
    Calls Tryd.prog 19 #[.pointer (some ⟨gm, 0, none⟩), .agg #[.int .i64 64, .int .i64 2, .int .i64 8, .int .i64 10, .int .i64 4, .int .i64 14, .int .i64 16, .int .i64 3], .int .i64 25] wr fun e w' => e = .returned (.tuple #[.int .i64 24, .int .i64 0]) ∧ Below wr.heap.size wr w' :=
  Of_calls base wr gm 64 14 0 3 8 Q1 1 h.2.1 64 2 8 10 4 14 16 3 25 0 (by omega) (by omega) (by omega) (by omega) (by omega) (by omega) (by omega) (by omega) (by omega) (by omega) (by omega) (by omega) (by omega) (by omega) (Q1_8 14) (by decide) (by omega) (by decide)
theorem san_block {w wr : World} {gL gm base : Nat} (h : SanSt w wr gL gm base Q1 1) :
    Calls Tryd.prog 28 #[.pointer (some ⟨gm, 0, none⟩), .agg #[.int .i64 64, .int .i64 2, .int .i64 8, .int .i64 10, .int .i64 4, .int .i64 14, .int .i64 16, .int .i64 3], .int .i64 24] wr fun e w' => e = .returned (.tuple #[.agg #[.int .i64 24, .int .i64 3, .int .i64 0, .int .i64 0], .int .i64 0]) ∧ Below wr.heap.size wr w' :=
  Block24 wr gm (LdsM.of (n := 14) (r := 0) h.2.1 (by omega) (by omega) (by omega) (by omega) (by omega) (Q1_8 14) (by decide)) h.2.2.1 0 0 0 (LdsM.of (n := 24) (r := 0) h.2.1 (by omega) (by omega) (by omega) (by omega) (by omega) (Q1_8 24) (by decide)) (by omega) (by omega) (by omega) (by omega) (by omega) (fun W _ => proper_zero W 3)
theorem san_scan0 {w wr : World} {gL gm base : Nat} (h : SanSt w wr gL gm base Q0 0) :
    Calls Tryd.prog 27 #[.pointer (some ⟨gm, 0, none⟩), .agg #[.int .i64 64, .int .i64 2, .int .i64 8, .int .i64 10, .int .i64 4, .int .i64 14, .int .i64 16, .int .i64 3]] wr (PicOne wr [-1, -1, -1] [] []) :=
  scanE base wr gm Q0 0 h.2.1 (by decide) (by decide) (by decide) (Q0_8 14)
theorem san_scan3 {w wr : World} {gL gm base : Nat} (h : SanSt w wr gL gm base Q3 5) :
    Calls Tryd.prog 27 #[.pointer (some ⟨gm, 0, none⟩), .agg #[.int .i64 64, .int .i64 2, .int .i64 8, .int .i64 10, .int .i64 4, .int .i64 14, .int .i64 16, .int .i64 3]] wr (PicOne wr [3, -1, -1] [(16, 3, 0, 0), (24, 3, 2, 2)] []) :=
  scanF base wr gm Q3 5 h.2.1 (by decide) (by decide) (by decide) (Q3_8 14) (by decide) (by decide) (Q3_8 16) (Q3_8 24) h.2.2.1
theorem san_check (w : World) (ch bl bd : Value) (hC : RdI w ch [3, -1, -1]) (hR : RdB w bl [(16, 3, 0, 0), (24, 3, 2, 2)]) (hD : RdI w bd []) (hd : Hd w) :
    Calls Tryd.prog 21 #[.agg #[.int .i64 64, .int .i64 2, .int .i64 8, .int .i64 10, .int .i64 4, .int .i64 14, .int .i64 16, .int .i64 3], .agg #[ch, bl, bd]] w fun e w' => e = .returned (.int .i64 0) ∧ Below w.heap.size w w' :=
  check_calls w 64 2 8 10 4 14 16 3 ch bl bd [3] [(16, 3, 0, 0), (24, 3, 2, 2)] hC hR hD hd (by omega) (by omega) (by omega) (by simp) (by decide) (by
    intro b hb
    simp at hb
    rcases hb with rfl | rfl <;> simp [CanB, Bk.kind, Bk.cls, Bk.gen])
theorem san_store1 {w wr : World} {gL gm base : Nat} (h : SanSt w wr gL gm base Q0 0) :
    Calls Tryd.prog 18 #[.pointer (some ⟨gm, 0, none⟩), .int .i64 112, .int .i64 4] wr fun e w' => e = .returned (.int .i64 0) ∧ StorePost base wr gm 64 Q1 1 w' :=
  store_calls base wr gm 64 14 0 112 4 Q0 0 h.2.1 (by omega) (by omega) (by omega) (by omega) (by omega) (by omega) (by omega) (by omega) (by decide) h.2.2.2.2.2.2.1
theorem san_store2 {w wr : World} {gL gm base : Nat} (h : SanSt w wr gL gm base Q1 1) :
    Calls Tryd.prog 18 #[.pointer (some ⟨gm, 0, none⟩), .int .i64 192, .int .i64 306] wr fun e w' => e = .returned (.int .i64 0) ∧ StorePost base wr gm 64 Q2 2 w' :=
  store_calls base wr gm 64 24 0 192 306 Q1 1 h.2.1 (by omega) (by omega) (by omega) (by omega) (by omega) (by omega) (by omega) (by omega) (by decide) h.2.2.2.2.2.2.1
theorem san_lds {w wr : World} {gL gm base gv : Nat} (P : Nat → List (Nat × Int)) (E : Nat) (h8 : ∀ n, ∀ p ∈ P n, p.1 < 8) (h : SanSt w wr gL gm base P E) (hV : Cl wr gv 92 #[.pointer (some ⟨gm, 0, none⟩), .slice none 0 0]) (a : Nat) (ha : a < 512) :
    LdsV wr gv (a : Int) (sh (P (a / 8)) (a % 8)) :=
  LdsV.of hV (LdsM.of (n := a / 8) (r := a % 8) h.2.1 (by omega) (by omega) (by omega) (by omega) (by omega) (h8 (a / 8)) rfl)
theorem san_follow {w wr : World} {gL gm base gv : Nat} (h : SanSt w wr gL gm base Q2 2) (hV : Cl wr gv 92 #[.pointer (some ⟨gm, 0, none⟩), .slice none 0 0]) :
    Calls Tryd.prog 30 #[.pointer (some ⟨gv, 0, none⟩), .agg #[.int .i64 64, .int .i64 2, .int .i64 8, .int .i64 10, .int .i64 4, .int .i64 14, .int .i64 16, .int .i64 3], .int .i64 8216] wr fun e w' => e = .returned (.tuple #[.agg #[.int .i64 24, .int .i64 3, .int .i64 2, .int .i64 2], .int .i64 0]) ∧ Below wr.heap.size wr w' :=
  follow8216 wr gv (san_lds Q2 2 Q2_8 h hV 112 (by omega)) (san_lds Q2 2 Q2_8 h hV 192 (by omega)) h.2.2.1 h.2.2.2.1
theorem san_follow1 {w wr : World} {gL gm base gv : Nat} (h : SanSt w wr gL gm base Q2 2) (hV : Cl wr gv 92 #[.pointer (some ⟨gm, 0, none⟩), .slice none 0 0]) :
    Calls Tryd.prog 30 #[.pointer (some ⟨gv, 0, none⟩), .agg #[.int .i64 64, .int .i64 2, .int .i64 8, .int .i64 10, .int .i64 4, .int .i64 14, .int .i64 16, .int .i64 3], .int .i64 4120] wr fun e w' => e = .returned (.tuple #[.agg #[.int .i64 0, .int .i64 0, .int .i64 0, .int .i64 0], .int .i64 70]) ∧ Below wr.heap.size wr w' :=
  follow4120 wr gv (san_lds Q2 2 Q2_8 h hV 112 (by omega)) (san_lds Q2 2 Q2_8 h hV 192 (by omega)) h.2.2.1 h.2.2.2.1
theorem san_follow2 {w wr : World} {gL gm base gv : Nat} (h : SanSt w wr gL gm base Q2 2) (hV : Cl wr gv 92 #[.pointer (some ⟨gm, 0, none⟩), .slice none 0 0]) :
    Calls Tryd.prog 30 #[.pointer (some ⟨gv, 0, none⟩), .agg #[.int .i64 64, .int .i64 2, .int .i64 8, .int .i64 10, .int .i64 4, .int .i64 14, .int .i64 16, .int .i64 3], .int .i64 8217] wr fun e w' => e = .returned (.tuple #[.agg #[.int .i64 0, .int .i64 0, .int .i64 0, .int .i64 0], .int .i64 1]) ∧ Below wr.heap.size wr w' :=
  follow8217 wr gv (san_lds Q2 2 Q2_8 h hV 112 (by omega)) h.2.2.2.1
theorem san_fill {w wr : World} {gL gm base gv gw : Nat} (h : SanSt w wr gL gm base Q2 2) (hV : Cl wr gv 92 #[.pointer (some ⟨gm, 0, none⟩), .slice none 0 0]) (hW : Cl wr gw 3 #[.int .i64 5, .int .i64 6]) :
    Calls Tryd.prog 31 #[.pointer (some ⟨gv, 0, none⟩), .agg #[.int .i64 64, .int .i64 2, .int .i64 8, .int .i64 10, .int .i64 4, .int .i64 14, .int .i64 16, .int .i64 3], .int .i64 8216, .slice (some ⟨gw, 0, none⟩) 2 2] wr fun e w' => e = .returned (.int .i64 0) ∧ StorePost base wr gm 64 Q3 5 w' :=
  fill_calls base wr gv gm gw Q2 2 h.2.1 (by omega) hV hW (by decide) (by decide) (Q2_8 14) (Q2_8 24) (by decide) h.2.2.1 h.2.2.2.1 h.2.2.2.2.2.2.1
def wd3 (k : Nat) : Int := sh (Q3 ((193 + k) / 8)) ((193 + k) % 8)
theorem san_words {w wr : World} {gL gm base gv : Nat} (h : SanSt w wr gL gm base Q3 5) (hV : Cl wr gv 92 #[.pointer (some ⟨gm, 0, none⟩), .slice none 0 0]) :
    Calls Tryd.prog 32 #[.pointer (some ⟨gv, 0, none⟩), .agg #[.int .i64 64, .int .i64 2, .int .i64 8, .int .i64 10, .int .i64 4, .int .i64 14, .int .i64 16, .int .i64 3], .int .i64 8216] wr (WordsPost wr wd3) :=
  words_calls wr gv wd3 (san_lds Q3 5 Q3_8 h hV 112 (by omega)) (san_lds Q3 5 Q3_8 h hV 192 (by omega)) (fun k hk => by
    have := san_lds Q3 5 Q3_8 h hV (193 + k) (by omega)
    rwa [Int.natCast_add] at this) h.2.2.1 h.2.2.2.1
end Go.Proofs.YtcoeoggoaiebeaaDoor
