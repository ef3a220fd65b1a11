/-
  slices: stableCmpFunc and SortStableFunc at blocks, by the order of class.Free (at most 150 blocks).
-/
import Derived.Test.YtcoeoggoaiebeaaDoorSortD
namespace Go.Proofs.YtcoeoggoaiebeaaDoor
open Go.RowKit
open Go.Sort (swp PermIn SortedIn SWO swp_permIn permIn_refl permIn_trans permIn_mono permIn_all)
set_option linter.unusedSimpArgs false
set_option linter.unusedVariables false

/-- Each stretch of 'bs' elements is sorted. -/
def Blks (bs n : Nat) (d : Array Bk) : Prop := ∀ j, SortedIn ltB (bs * j) (min (bs * j + bs) n) d
/-- The first 'i' stretches of 20 are sorted. -/
def Fst (i : Nat) (d : Array Bk) : Prop := ∀ j, j < i → SortedIn ltB (20 * j) (20 * j + 20) d
theorem Fst.step {i : Nat} {d d' : Array Bk} (h : Fst i d) (hm : MergeOk (20 * i) (20 * i + 20) d d') : Fst (i + 1) d' := by
  intro j hj
  by_cases hji : j = i
  · subst hji; exact hm.2
  · exact SortedIn.kept (h j (by omega)) hm.1 (.inl (by omega))
theorem Fst.last {i n : Nat} {d d' : Array Bk} (h : Fst i d) (hn : n < 20 * i + 20) (hm : MergeOk (20 * i) n d d') : Blks 20 n d' := by
  intro j
  by_cases h1 : j < i
  · exact SortedIn.left (SortedIn.kept (h j h1) hm.1 (.inl (by omega))) (by omega)
  · by_cases h2 : j = i
    · subst h2; exact SortedIn.left hm.2 (by omega)
    · intro p q a b c; omega
/-- Halfway through: stretches of twice the size up to 'i', single ones from there on. -/
def Half (bs n i : Nat) (d : Array Bk) : Prop := (∀ j, j < i → SortedIn ltB (2 * bs * j) (2 * bs * j + 2 * bs) d) ∧ ∀ j, 2 * i ≤ j → SortedIn ltB (bs * j) (min (bs * j + bs) n) d
theorem Half.start {bs n : Nat} {d : Array Bk} (h : Blks bs n d) : Half bs n 0 d := ⟨fun j hj => by omega, fun j _ => h j⟩
theorem half20_parts {n i : Nat} {d : Array Bk} (h : Half 20 n i d) : SortedIn ltB (40 * i) (min (40 * i + 20) n) d ∧ SortedIn ltB (40 * i + 20) (min (40 * i + 40) n) d := by
  have h1 := h.2 (2 * i) (by omega)
  have h2 := h.2 (2 * i + 1) (by omega)
  rw [show 20 * (2 * i) = 40 * i by omega] at h1
  rw [show 20 * (2 * i + 1) = 40 * i + 20 by omega, show 40 * i + 20 + 20 = 40 * i + 40 by omega] at h2
  exact ⟨h1, h2⟩
theorem half20_step {n i : Nat} {d d' : Array Bk} (h : Half 20 n i d) (hm : MergeOk (40 * i) (40 * i + 40) d d') : Half 20 n (i + 1) d' := by
  refine ⟨fun j hj => ?_, fun j hj => SortedIn.kept (h.2 j (by omega)) hm.1 (.inr (by omega))⟩
  by_cases hji : j = i
  · subst hji; exact hm.2
  · exact SortedIn.kept (h.1 j (by omega)) hm.1 (.inl (by omega))
theorem half20_last {n i : Nat} {d d' : Array Bk} (h : Half 20 n i d) (hn : n < 40 * i + 40) (hm : MergeOk (40 * i) n d d') : Blks 40 n d' := by
  intro j
  by_cases h1 : j < i
  · exact SortedIn.left (SortedIn.kept (h.1 j h1) hm.1 (.inl (by omega))) (by omega)
  · by_cases h2 : j = i
    · subst h2; exact SortedIn.left hm.2 (by omega)
    · intro p q a b c; omega
theorem half20_skip {n i : Nat} {d : Array Bk} (h : Half 20 n i d) (hn : n ≤ 40 * i + 20) : Blks 40 n d := by
  intro j
  by_cases h1 : j < i
  · exact SortedIn.left (h.1 j h1) (by omega)
  · by_cases h2 : j = i
    · subst h2
      exact SortedIn.left (half20_parts h).1 (by omega)
    · intro p q a b c; omega
theorem half40_parts {n i : Nat} {d : Array Bk} (h : Half 40 n i d) : SortedIn ltB (80 * i) (min (80 * i + 40) n) d ∧ SortedIn ltB (80 * i + 40) (min (80 * i + 80) n) d := by
  have h1 := h.2 (2 * i) (by omega)
  have h2 := h.2 (2 * i + 1) (by omega)
  rw [show 40 * (2 * i) = 80 * i by omega] at h1
  rw [show 40 * (2 * i + 1) = 80 * i + 40 by omega, show 80 * i + 40 + 40 = 80 * i + 80 by omega] at h2
  exact ⟨h1, h2⟩
theorem half40_step {n i : Nat} {d d' : Array Bk} (h : Half 40 n i d) (hm : MergeOk (80 * i) (80 * i + 80) d d') : Half 40 n (i + 1) d' := by
  refine ⟨fun j hj => ?_, fun j hj => SortedIn.kept (h.2 j (by omega)) hm.1 (.inr (by omega))⟩
  by_cases hji : j = i
  · subst hji; exact hm.2
  · exact SortedIn.kept (h.1 j (by omega)) hm.1 (.inl (by omega))
theorem half40_last {n i : Nat} {d d' : Array Bk} (h : Half 40 n i d) (hn : n < 80 * i + 80) (hm : MergeOk (80 * i) n d d') : Blks 80 n d' := by
  intro j
  by_cases h1 : j < i
  · exact SortedIn.left (SortedIn.kept (h.1 j h1) hm.1 (.inl (by omega))) (by omega)
  · by_cases h2 : j = i
    · subst h2; exact SortedIn.left hm.2 (by omega)
    · intro p q a b c; omega
theorem half40_skip {n i : Nat} {d : Array Bk} (h : Half 40 n i d) (hn : n ≤ 80 * i + 40) : Blks 80 n d := by
  intro j
  by_cases h1 : j < i
  · exact SortedIn.left (h.1 j h1) (by omega)
  · by_cases h2 : j = i
    · subst h2
      exact SortedIn.left (half40_parts h).1 (by omega)
    · intro p q a b c; omega
theorem half80_parts {n i : Nat} {d : Array Bk} (h : Half 80 n i d) : SortedIn ltB (160 * i) (min (160 * i + 80) n) d ∧ SortedIn ltB (160 * i + 80) (min (160 * i + 160) n) d := by
  have h1 := h.2 (2 * i) (by omega)
  have h2 := h.2 (2 * i + 1) (by omega)
  rw [show 80 * (2 * i) = 160 * i by omega] at h1
  rw [show 80 * (2 * i + 1) = 160 * i + 80 by omega, show 160 * i + 80 + 80 = 160 * i + 160 by omega] at h2
  exact ⟨h1, h2⟩
theorem half80_step {n i : Nat} {d d' : Array Bk} (h : Half 80 n i d) (hm : MergeOk (160 * i) (160 * i + 160) d d') : Half 80 n (i + 1) d' := by
  refine ⟨fun j hj => ?_, fun j hj => SortedIn.kept (h.2 j (by omega)) hm.1 (.inr (by omega))⟩
  by_cases hji : j = i
  · subst hji; exact hm.2
  · exact SortedIn.kept (h.1 j (by omega)) hm.1 (.inl (by omega))
theorem half80_last {n i : Nat} {d d' : Array Bk} (h : Half 80 n i d) (hn : n < 160 * i + 160) (hm : MergeOk (160 * i) n d d') : Blks 160 n d' := by
  intro j
  by_cases h1 : j < i
  · exact SortedIn.left (SortedIn.kept (h.1 j h1) hm.1 (.inl (by omega))) (by omega)
  · by_cases h2 : j = i
    · subst h2; exact SortedIn.left hm.2 (by omega)
    · intro p q a b c; omega
theorem half80_skip {n i : Nat} {d : Array Bk} (h : Half 80 n i d) (hn : n ≤ 160 * i + 80) : Blks 160 n d := by
  intro j
  by_cases h1 : j < i
  · exact SortedIn.left (h.1 j h1) (by omega)
  · by_cases h2 : j = i
    · subst h2
      exact SortedIn.left (half80_parts h).1 (by omega)
    · intro p q a b c; omega
theorem Blks.done {bs n : Nat} {d : Array Bk} (h : Blks bs n d) (hn : n ≤ bs) : SortedIn ltB 0 n d := by
  have h0 := h 0
  rw [Nat.mul_zero] at h0
  exact SortedIn.left h0 (by omega)

def StRel1 (w : World) (g : Nat) (d : Array Bk) (av bv : Value) (wr : World) : Prop :=
  ∃ (i : Nat) (d' : Array Bk), av = .int .i64 ((20 * i : Nat) : Int) ∧ bv = .int .i64 ((20 * i + 20 : Nat) : Int) ∧ 20 * i ≤ d.size ∧ Dat wr g d' ∧ PermIn 0 d.size d d' ∧ Fst i d' ∧ Below g w wr
def StRel2 (w : World) (g : Nat) (d : Array Bk) (sv : Value) (wr : World) : Prop :=
  ∃ (bs : Nat) (x : Int) (d' : Array Bk), sv = .int .i64 x ∧ (bs = 20 ∧ x = 20 ∨ bs = 40 ∧ x = 40 ∨ bs = 80 ∧ x = 80 ∨ bs = 160 ∧ x = 160) ∧ Dat wr g d' ∧ PermIn 0 d.size d d' ∧ Blks bs d.size d' ∧ Below g w wr
def StRel3 (w : World) (g bs : Nat) (d : Array Bk) (av bv : Value) (wr : World) : Prop :=
  ∃ (i : Nat) (d' : Array Bk), av = .int .i64 ((2 * bs * i : Nat) : Int) ∧ bv = .int .i64 ((2 * bs * i + 2 * bs : Nat) : Int) ∧ 2 * bs * i ≤ d.size ∧ Dat wr g d' ∧ PermIn 0 d.size d d' ∧ Half bs d.size i d' ∧ Below g w wr

set_option maxRecDepth 100000 in
set_option maxHeartbeats 4000000 in
theorem stable_calls (w : World) (g c : Nat) (d : Array Bk) (hD : Dat w g d) (hs : d.size ≤ 150) :
    Calls Tryd.prog 70 #[.slice (some ⟨g, 0, none⟩) d.size c, .int .i64 (d.size : Int), .func (.func 45) #[] #[]] w (RowPost w g (MergeOk 0 d.size d)) := by
  obtain ⟨n, hn⟩ : ∃ n : Nat, d.size = n := ⟨_, rfl⟩
  rw [hn]
  have HN := Lib.hid hn
  have hs' : n ≤ 150 := by omega
  clear hn hs
  go_enter Tryd.func70, Tryd.ntmps70
  go_wp2_with fail
  go_loopw [7, 8] (fun a b wr => StRel1 w g d a b wr) (fun a _ _ => n - (intOf a).toNat)
  case atStart => exact ⟨0, d, rfl, rfl, by omega, hD, permIn_refl _ _ _, fun j hj => by omega, Below.refl _ _⟩
  case round =>
    clear hD
    obtain ⟨i, d', rfl, rfl, hi, hD, hP, hF, hbl⟩ := hrel
    rw [HN.out] at hi
    have HZ := Lib.hid (hP.1.trans HN.out)
    have HP := Lib.hid hP
    have HF := Lib.hid hF
    clear hP hF
    obtain ⟨A, hA⟩ : ∃ A : Nat, 20 * i = A := ⟨_, rfl⟩
    obtain ⟨B, hB⟩ : ∃ B : Nat, A + 20 = B := ⟨_, rfl⟩
    rw [hA] at hi ⊢
    rw [hB]
    have HA := Lib.hid hA
    have HB := Lib.hid hB
    have hAB : A < B := by omega
    have hB9 : B ≤ 200 := by omega
    clear hA hB
    by_cases hlt : B ≤ n
    · obtain ⟨B2, hB2⟩ : ∃ B2 : Nat, B + 20 = B2 := ⟨_, rfl⟩
      have hBe : (B : Int) + 20 = (B2 : Int) := by omega
      have HB2 := Lib.hid hB2
      clear hB2
      go_wp2_with fail
      rw [← HZ.out]
      refine (insertion_calls _ g A B c d' hD (by omega) (by have := HZ.out; omega) (by have := HZ.out; omega)).mono ?_
      rintro e w1 ⟨rfl, d1, hD1, hM1, hb1⟩
      rw [HZ.out]
      have HE : Hid (PermIn 0 d.size d d1 ∧ Fst (i + 1) d1) := by
        have h1 := HA.out
        have h2 := HB.out
        have h3 := HN.out
        have h4 := HZ.out
        refine ⟨permIn_trans _ _ _ _ _ HP.out (permIn_mono _ _ A B 0 d.size (by omega) (by omega) (by omega) hM1.1), HF.out.step ?_⟩
        rw [h1, h2]
        exact hM1
      clear hM1
      go_wp2_with fail
      go_roundw
      case rel => exact ⟨i + 1, d1, by rw [show 20 * (i + 1) = B by have := HA.out; have := HB.out; omega], by rw [show 20 * (i + 1) + 20 = B2 by have := HA.out; have := HB.out; have := HB2.out; omega], by have := HA.out; have := HB.out; have := HN.out; omega, hD1, HE.out.1, HE.out.2, hbl.trans hb1⟩
      case measure => simp [intOf]; omega
    · go_wp2_with fail
      rw [← HZ.out]
      refine (insertion_calls _ g A d'.size c d' hD (by have := HZ.out; omega) (Nat.le_refl _) (by have := HZ.out; omega)).mono ?_
      rintro e w1 ⟨rfl, d1, hD1, hM1, hb1⟩
      rw [HZ.out] at hM1 ⊢
      have HE : Hid (PermIn 0 d.size d d1 ∧ Blks 20 d.size d1) := by
        have h1 := HA.out
        have h2 := HB.out
        have h3 := HN.out
        have h4 := HZ.out
        refine ⟨permIn_trans _ _ _ _ _ HP.out (permIn_mono _ _ A n 0 d.size (by omega) (by omega) (by omega) hM1.1), ?_⟩
        rw [h3]
        exact HF.out.last (by omega) (by rw [h1]; exact hM1)
      have hB1 := hbl.trans hb1
      clear hM1 hD hbl hb1 HP HF HZ
      go_wp2_with fail
      go_loopw [6, 7, 8, 9] (fun s _ _ _ wr => StRel2 w g d s wr) (fun s _ _ _ _ => n - (intOf s).toNat)
      case atStart => exact ⟨20, 20, d1, rfl, .inl ⟨rfl, rfl⟩, hD1, HE.out.1, HE.out.2, hB1⟩
      case round =>
        clear hD1 HE hB1
        obtain ⟨bs, x, d', rfl, hbs, hD, hP, hF, hbl⟩ := hrel
        have HZ := Lib.hid (hP.1.trans HN.out)
        have HP := Lib.hid hP
        have HF := Lib.hid hF
        clear hP hF
        by_cases hlt2 : bs < n
        · have hbs3 : bs = 20 ∧ x = 20 ∨ bs = 40 ∧ x = 40 ∨ bs = 80 ∧ x = 80 := by omega
          clear hbs
          rcases hbs3 with ⟨rfl, rfl⟩ | ⟨rfl, rfl⟩ | ⟨rfl, rfl⟩
          · have hdn : decide ((20 : Int) < (n : Int)) = true := decide_eq_true (by omega)
            go_wp2_with fail
            go_loopw [7, 8] (fun a b wr => StRel3 w g 20 d a b wr) (fun a _ _ => n - (intOf a).toNat)
            case atStart => exact ⟨0, d', rfl, rfl, by omega, hD, HP.out, Half.start HF.out, hbl⟩
            case round =>
              clear hD HP HF hbl HZ
              obtain ⟨i, d', rfl, rfl, hi, hD, hP, hF, hbl⟩ := hrel
              rw [HN.out] at hi
              have HZ := Lib.hid (hP.1.trans HN.out)
              have HP := Lib.hid hP
              have HF := Lib.hid hF
              clear hP hF
              obtain ⟨A, hA⟩ : ∃ A : Nat, 40 * i = A := ⟨_, rfl⟩
              obtain ⟨B, hB⟩ : ∃ B : Nat, A + 40 = B := ⟨_, rfl⟩
              obtain ⟨M, hM⟩ : ∃ M : Nat, A + 20 = M := ⟨_, rfl⟩
              have hMe : (A : Int) + 20 = (M : Int) := by omega
              rw [show 2 * 20 * i = 40 * i by omega] at hi ⊢
              rw [show 40 * i + 2 * 20 = 40 * i + 40 by omega]
              rw [hA] at hi ⊢
              rw [hB]
              have HA := Lib.hid hA
              have HB := Lib.hid hB
              have HM := Lib.hid hM
              have hAM : A < M := by omega
              have hMB : M < B := by omega
              have hB9 : B ≤ 400 := by omega
              clear hA hB hM
              by_cases hlt3 : B ≤ n
              · obtain ⟨B2, hB2⟩ : ∃ B2 : Nat, B + 40 = B2 := ⟨_, rfl⟩
                have hBe : (B : Int) + 40 = (B2 : Int) := by omega
                have HB2 := Lib.hid hB2
                clear hB2
                go_wp2_with fail
                rw [← HZ.out]
                refine (merges 1000 _ g A M B c d' (by omega) hD hAM hMB (by have := HZ.out; omega) (by have := HZ.out; omega) (by have h1 := (half20_parts HF.out).1; rw [HA.out, HM.out, HN.out] at h1; rw [show min M n = M by omega] at h1; exact h1) (by have h1 := (half20_parts HF.out).2; rw [HA.out, HM.out, HB.out, HN.out] at h1; rw [show min B n = B by omega] at h1; exact h1)).mono ?_
                rintro e w2 ⟨rfl, d2, hD2, hM2, hb2⟩
                rw [HZ.out]
                have HE : Hid (PermIn 0 d.size d d2 ∧ Half 20 d.size (i + 1) d2) := by
                  have h1 := HA.out
                  have h2 := HB.out
                  have h3 := HN.out
                  have h4 := HZ.out
                  refine ⟨permIn_trans _ _ _ _ _ HP.out (permIn_mono _ _ A B 0 d.size (by omega) (by omega) (by omega) hM2.1), half20_step HF.out ?_⟩
                  rw [h1, h2]
                  exact hM2
                clear hM2
                go_wp2_with fail
                go_roundw
                case rel =>
                  have hfin : StRel3 w g 20 d (.int .i64 (B : Int)) (.int .i64 (B2 : Int)) w2 := ⟨i + 1, d2, by rw [show 2 * 20 * (i + 1) = B by have := HA.out; have := HB.out; omega], by rw [show 2 * 20 * (i + 1) + 2 * 20 = B2 by have := HA.out; have := HB.out; have := HB2.out; omega], by have := HA.out; have := HB.out; have := HN.out; omega, hD2, HE.out.1, HE.out.2, hbl.trans hb2⟩
                  first
                    | exact hfin
                    | ((repeat apply Exists.intro); exact ⟨hfin, rfl⟩)
                case measure => simp [intOf]; omega
              · by_cases hlt4 : M < n
                · go_wp2_with fail
                  rw [← HZ.out]
                  refine (merges 1000 _ g A M d'.size c d' (by have := HZ.out; omega) hD hAM (by have := HZ.out; omega) (Nat.le_refl _) (by have := HZ.out; omega) (by have h1 := (half20_parts HF.out).1; rw [HA.out, HM.out, HN.out] at h1; rw [show min M n = M by omega] at h1; exact h1) (by have h1 := (half20_parts HF.out).2; rw [HA.out, HM.out, HB.out, HN.out] at h1; rw [show min B n = d'.size by have := HZ.out; omega] at h1; exact h1)).mono ?_
                  rintro e w2 ⟨rfl, d2, hD2, hM2, hb2⟩
                  rw [HZ.out] at hM2 ⊢
                  have HE : Hid (PermIn 0 d.size d d2 ∧ Blks 40 d.size d2) := by
                    have h1 := HA.out
                    have h2 := HB.out
                    have h3 := HN.out
                    have h4 := HZ.out
                    refine ⟨permIn_trans _ _ _ _ _ HP.out (permIn_mono _ _ A n 0 d.size (by omega) (by omega) (by omega) hM2.1), ?_⟩
                    have h5 := HF.out
                    rw [h3] at h5 ⊢
                    exact half20_last h5 (by omega) (by rw [h1]; exact hM2)
                  clear hM2
                  go_wp2_with fail
                  go_roundw
                  case rel => exact ⟨40, 40, d2, rfl, by omega, hD2, HE.out.1, HE.out.2, hbl.trans hb2⟩
                  case measure => simp [intOf]; omega
                · have HE : Hid (PermIn 0 d.size d d' ∧ Blks 40 d.size d') := by
                    have h1 := HA.out
                    have h3 := HN.out
                    have h6 := HM.out
                    exact ⟨HP.out, half20_skip HF.out (by omega)⟩
                  go_wp2_with fail
                  go_roundw
                  case rel => exact ⟨40, 40, d', rfl, by omega, hD, HE.out.1, HE.out.2, hbl⟩
                  case measure => simp [intOf]; omega
          · have hdn : decide ((40 : Int) < (n : Int)) = true := decide_eq_true (by omega)
            go_wp2_with fail
            go_loopw [7, 8] (fun a b wr => StRel3 w g 40 d a b wr) (fun a _ _ => n - (intOf a).toNat)
            case atStart => exact ⟨0, d', rfl, rfl, by omega, hD, HP.out, Half.start HF.out, hbl⟩
            case round =>
              clear hD HP HF hbl HZ
              obtain ⟨i, d', rfl, rfl, hi, hD, hP, hF, hbl⟩ := hrel
              rw [HN.out] at hi
              have HZ := Lib.hid (hP.1.trans HN.out)
              have HP := Lib.hid hP
              have HF := Lib.hid hF
              clear hP hF
              obtain ⟨A, hA⟩ : ∃ A : Nat, 80 * i = A := ⟨_, rfl⟩
              obtain ⟨B, hB⟩ : ∃ B : Nat, A + 80 = B := ⟨_, rfl⟩
              obtain ⟨M, hM⟩ : ∃ M : Nat, A + 40 = M := ⟨_, rfl⟩
              have hMe : (A : Int) + 40 = (M : Int) := by omega
              rw [show 2 * 40 * i = 80 * i by omega] at hi ⊢
              rw [show 80 * i + 2 * 40 = 80 * i + 80 by omega]
              rw [hA] at hi ⊢
              rw [hB]
              have HA := Lib.hid hA
              have HB := Lib.hid hB
              have HM := Lib.hid hM
              have hAM : A < M := by omega
              have hMB : M < B := by omega
              have hB9 : B ≤ 400 := by omega
              clear hA hB hM
              by_cases hlt3 : B ≤ n
              · obtain ⟨B2, hB2⟩ : ∃ B2 : Nat, B + 80 = B2 := ⟨_, rfl⟩
                have hBe : (B : Int) + 80 = (B2 : Int) := by omega
                have HB2 := Lib.hid hB2
                clear hB2
                go_wp2_with fail
                rw [← HZ.out]
                refine (merges 1000 _ g A M B c d' (by omega) hD hAM hMB (by have := HZ.out; omega) (by have := HZ.out; omega) (by have h1 := (half40_parts HF.out).1; rw [HA.out, HM.out, HN.out] at h1; rw [show min M n = M by omega] at h1; exact h1) (by have h1 := (half40_parts HF.out).2; rw [HA.out, HM.out, HB.out, HN.out] at h1; rw [show min B n = B by omega] at h1; exact h1)).mono ?_
                rintro e w2 ⟨rfl, d2, hD2, hM2, hb2⟩
                rw [HZ.out]
                have HE : Hid (PermIn 0 d.size d d2 ∧ Half 40 d.size (i + 1) d2) := by
                  have h1 := HA.out
                  have h2 := HB.out
                  have h3 := HN.out
                  have h4 := HZ.out
                  refine ⟨permIn_trans _ _ _ _ _ HP.out (permIn_mono _ _ A B 0 d.size (by omega) (by omega) (by omega) hM2.1), half40_step HF.out ?_⟩
                  rw [h1, h2]
                  exact hM2
                clear hM2
                go_wp2_with fail
                go_roundw
                case rel =>
                  have hfin : StRel3 w g 40 d (.int .i64 (B : Int)) (.int .i64 (B2 : Int)) w2 := ⟨i + 1, d2, by rw [show 2 * 40 * (i + 1) = B by have := HA.out; have := HB.out; omega], by rw [show 2 * 40 * (i + 1) + 2 * 40 = B2 by have := HA.out; have := HB.out; have := HB2.out; omega], by have := HA.out; have := HB.out; have := HN.out; omega, hD2, HE.out.1, HE.out.2, hbl.trans hb2⟩
                  first
                    | exact hfin
                    | ((repeat apply Exists.intro); exact ⟨hfin, rfl⟩)
                case measure => simp [intOf]; omega
              · by_cases hlt4 : M < n
                · go_wp2_with fail
                  rw [← HZ.out]
                  refine (merges 1000 _ g A M d'.size c d' (by have := HZ.out; omega) hD hAM (by have := HZ.out; omega) (Nat.le_refl _) (by have := HZ.out; omega) (by have h1 := (half40_parts HF.out).1; rw [HA.out, HM.out, HN.out] at h1; rw [show min M n = M by omega] at h1; exact h1) (by have h1 := (half40_parts HF.out).2; rw [HA.out, HM.out, HB.out, HN.out] at h1; rw [show min B n = d'.size by have := HZ.out; omega] at h1; exact h1)).mono ?_
                  rintro e w2 ⟨rfl, d2, hD2, hM2, hb2⟩
                  rw [HZ.out] at hM2 ⊢
                  have HE : Hid (PermIn 0 d.size d d2 ∧ Blks 80 d.size d2) := by
                    have h1 := HA.out
                    have h2 := HB.out
                    have h3 := HN.out
                    have h4 := HZ.out
                    refine ⟨permIn_trans _ _ _ _ _ HP.out (permIn_mono _ _ A n 0 d.size (by omega) (by omega) (by omega) hM2.1), ?_⟩
                    have h5 := HF.out
                    rw [h3] at h5 ⊢
                    exact half40_last h5 (by omega) (by rw [h1]; exact hM2)
                  clear hM2
                  go_wp2_with fail
                  go_roundw
                  case rel => exact ⟨80, 80, d2, rfl, by omega, hD2, HE.out.1, HE.out.2, hbl.trans hb2⟩
                  case measure => simp [intOf]; omega
                · have HE : Hid (PermIn 0 d.size d d' ∧ Blks 80 d.size d') := by
                    have h1 := HA.out
                    have h3 := HN.out
                    have h6 := HM.out
                    exact ⟨HP.out, half40_skip HF.out (by omega)⟩
                  go_wp2_with fail
                  go_roundw
                  case rel => exact ⟨80, 80, d', rfl, by omega, hD, HE.out.1, HE.out.2, hbl⟩
                  case measure => simp [intOf]; omega
          · have hdn : decide ((80 : Int) < (n : Int)) = true := decide_eq_true (by omega)
            go_wp2_with fail
            go_loopw [7, 8] (fun a b wr => StRel3 w g 80 d a b wr) (fun a _ _ => n - (intOf a).toNat)
            case atStart => exact ⟨0, d', rfl, rfl, by omega, hD, HP.out, Half.start HF.out, hbl⟩
            case round =>
              clear hD HP HF hbl HZ
              obtain ⟨i, d', rfl, rfl, hi, hD, hP, hF, hbl⟩ := hrel
              rw [HN.out] at hi
              have HZ := Lib.hid (hP.1.trans HN.out)
              have HP := Lib.hid hP
              have HF := Lib.hid hF
              clear hP hF
              obtain ⟨A, hA⟩ : ∃ A : Nat, 160 * i = A := ⟨_, rfl⟩
              obtain ⟨B, hB⟩ : ∃ B : Nat, A + 160 = B := ⟨_, rfl⟩
              obtain ⟨M, hM⟩ : ∃ M : Nat, A + 80 = M := ⟨_, rfl⟩
              have hMe : (A : Int) + 80 = (M : Int) := by omega
              rw [show 2 * 80 * i = 160 * i by omega] at hi ⊢
              rw [show 160 * i + 2 * 80 = 160 * i + 160 by omega]
              rw [hA] at hi ⊢
              rw [hB]
              have HA := Lib.hid hA
              have HB := Lib.hid hB
              have HM := Lib.hid hM
              have hAM : A < M := by omega
              have hMB : M < B := by omega
              have hB9 : B ≤ 400 := by omega
              clear hA hB hM
              by_cases hlt3 : B ≤ n
              · obtain ⟨B2, hB2⟩ : ∃ B2 : Nat, B + 160 = B2 := ⟨_, rfl⟩
                have hBe : (B : Int) + 160 = (B2 : Int) := by omega
                have HB2 := Lib.hid hB2
                clear hB2
                go_wp2_with fail
                rw [← HZ.out]
                refine (merges 1000 _ g A M B c d' (by omega) hD hAM hMB (by have := HZ.out; omega) (by have := HZ.out; omega) (by have h1 := (half80_parts HF.out).1; rw [HA.out, HM.out, HN.out] at h1; rw [show min M n = M by omega] at h1; exact h1) (by have h1 := (half80_parts HF.out).2; rw [HA.out, HM.out, HB.out, HN.out] at h1; rw [show min B n = B by omega] at h1; exact h1)).mono ?_
                rintro e w2 ⟨rfl, d2, hD2, hM2, hb2⟩
                rw [HZ.out]
                have HE : Hid (PermIn 0 d.size d d2 ∧ Half 80 d.size (i + 1) d2) := by
                  have h1 := HA.out
                  have h2 := HB.out
                  have h3 := HN.out
                  have h4 := HZ.out
                  refine ⟨permIn_trans _ _ _ _ _ HP.out (permIn_mono _ _ A B 0 d.size (by omega) (by omega) (by omega) hM2.1), half80_step HF.out ?_⟩
                  rw [h1, h2]
                  exact hM2
                clear hM2
                go_wp2_with fail
                go_roundw
                case rel =>
                  have hfin : StRel3 w g 80 d (.int .i64 (B : Int)) (.int .i64 (B2 : Int)) w2 := ⟨i + 1, d2, by rw [show 2 * 80 * (i + 1) = B by have := HA.out; have := HB.out; omega], by rw [show 2 * 80 * (i + 1) + 2 * 80 = B2 by have := HA.out; have := HB.out; have := HB2.out; omega], by have := HA.out; have := HB.out; have := HN.out; omega, hD2, HE.out.1, HE.out.2, hbl.trans hb2⟩
                  first
                    | exact hfin
                    | ((repeat apply Exists.intro); exact ⟨hfin, rfl⟩)
                case measure => simp [intOf]; omega
              · by_cases hlt4 : M < n
                · go_wp2_with fail
                  rw [← HZ.out]
                  refine (merges 1000 _ g A M d'.size c d' (by have := HZ.out; omega) hD hAM (by have := HZ.out; omega) (Nat.le_refl _) (by have := HZ.out; omega) (by have h1 := (half80_parts HF.out).1; rw [HA.out, HM.out, HN.out] at h1; rw [show min M n = M by omega] at h1; exact h1) (by have h1 := (half80_parts HF.out).2; rw [HA.out, HM.out, HB.out, HN.out] at h1; rw [show min B n = d'.size by have := HZ.out; omega] at h1; exact h1)).mono ?_
                  rintro e w2 ⟨rfl, d2, hD2, hM2, hb2⟩
                  rw [HZ.out] at hM2 ⊢
                  have HE : Hid (PermIn 0 d.size d d2 ∧ Blks 160 d.size d2) := by
                    have h1 := HA.out
                    have h2 := HB.out
                    have h3 := HN.out
                    have h4 := HZ.out
                    refine ⟨permIn_trans _ _ _ _ _ HP.out (permIn_mono _ _ A n 0 d.size (by omega) (by omega) (by omega) hM2.1), ?_⟩
                    have h5 := HF.out
                    rw [h3] at h5 ⊢
                    exact half80_last h5 (by omega) (by rw [h1]; exact hM2)
                  clear hM2
                  go_wp2_with fail
                  go_roundw
                  case rel => exact ⟨160, 160, d2, rfl, by omega, hD2, HE.out.1, HE.out.2, hbl.trans hb2⟩
                  case measure => simp [intOf]; omega
                · have HE : Hid (PermIn 0 d.size d d' ∧ Blks 160 d.size d') := by
                    have h1 := HA.out
                    have h3 := HN.out
                    have h6 := HM.out
                    exact ⟨HP.out, half80_skip HF.out (by omega)⟩
                  go_wp2_with fail
                  go_roundw
                  case rel => exact ⟨160, 160, d', rfl, by omega, hD, HE.out.1, HE.out.2, hbl⟩
                  case measure => simp [intOf]; omega
        · have hdn : ¬ x < (n : Int) := by omega
          have HE : Hid (MergeOk 0 n d d') := by
            have h1 := HF.out.done (by have := HN.out; omega)
            have h2 := HP.out
            rw [HN.out] at h1 h2
            exact ⟨h2, h1⟩
          go_wp2_with fail
          go_end0
          exact ⟨rfl, d', hD, HE.out, hbl⟩

set_option maxRecDepth 100000 in
set_option maxHeartbeats 1000000 in
theorem sortStable_calls (w : World) (g c : Nat) (d : Array Bk) (hD : Dat w g d) (hs : d.size ≤ 150) :
    Calls Tryd.prog 44 #[.slice (some ⟨g, 0, none⟩) d.size c, .func (.func 45) #[] #[]] w (RowPost w g (MergeOk 0 d.size d)) := by
  go_enter Tryd.func44, Tryd.ntmps44
  go_wp2_with fail
  refine (stable_calls _ g c d hD hs).mono ?_
  rintro e w1 ⟨rfl, d1, hD1, hM1, hb1⟩
  have HE := Lib.hid hM1
  clear hM1
  go_wp2_with fail
  go_end0
  exact ⟨rfl, d1, hD1, HE.out, hb1⟩

/-! ### No element: whatever the slice's address -/
set_option maxRecDepth 100000 in
set_option maxHeartbeats 1000000 in
theorem insertion0 (w : World) (A : Option Addr) (c : Nat) (fv : Value) : Calls Tryd.prog 85 #[.slice A 0 c, .int .i64 0, .int .i64 0, fv] w fun e w' => e = .returned (.tuple #[]) ∧ w = w' := by
  go_enter Tryd.func85, Tryd.ntmps85
  go_wp2_with fail
  refine wp_loop_rounds 1 ?_
  rw [rounds_succ]
  go_wp2_with fail
  go_end0
  exact ⟨rfl, rfl⟩
set_option maxRecDepth 100000 in
set_option maxHeartbeats 1000000 in
theorem stable0 (w : World) (A : Option Addr) (c : Nat) (fv : Value) : Calls Tryd.prog 70 #[.slice A 0 c, .int .i64 0, fv] w fun e w' => e = .returned (.tuple #[]) ∧ w = w' := by
  go_enter Tryd.func70, Tryd.ntmps70
  go_wp2_with fail
  refine wp_loop_rounds 1 ?_
  rw [rounds_succ]
  go_wp2_with fail
  refine (insertion0 _ A c fv).mono ?_
  rintro e w1 ⟨rfl, rfl⟩
  go_wp2_with fail
  refine wp_loop_rounds 1 ?_
  rw [rounds_succ]
  go_wp2_with fail
  go_end0
  exact ⟨rfl, rfl⟩
set_option maxRecDepth 100000 in
set_option maxHeartbeats 1000000 in
theorem sortStable0 (w : World) (A : Option Addr) (c : Nat) (fv : Value) : Calls Tryd.prog 44 #[.slice A 0 c, fv] w fun e w' => e = .returned (.tuple #[]) ∧ w = w' := by
  go_enter Tryd.func44, Tryd.ntmps44
  go_wp2_with fail
  refine (stable0 _ A c fv).mono ?_
  rintro e w1 ⟨rfl, rfl⟩
  go_wp2_with fail
  go_end0
  exact ⟨rfl, rfl⟩
end Go.Proofs.YtcoeoggoaiebeaaDoor
