/-
  slices: symMergeCmpFunc at blocks: what follows its search, cut into declarations.
-/
import Derived.Test.YtcoeoggoaiebeaaDoorSortC
namespace Go.Proofs.YtcoeoggoaiebeaaDoor
open Go.RowKit
open Go.Sort (swp PermIn SortedIn SWO swp_permIn permIn_refl permIn_trans permIn_mono permIn_all)
set_option linter.unusedSimpArgs false
set_option linter.unusedVariables false

/-- Merging sorted neighbours of at most N elements in all. -/
def Merges (N : Nat) : Prop := ∀ (w : World) (g a m b c : Nat) (d : Array Bk), b - a ≤ N → Dat w g d → a < m → m < b → b ≤ d.size → d.size ≤ 1000 → SortedIn ltB a m d → SortedIn ltB m b d →
  Calls Tryd.prog 86 #[.slice (some ⟨g, 0, none⟩) d.size c, .int .i64 (a : Int), .int .i64 (m : Int), .int .i64 (b : Int), .func (.func 45) #[] #[]] w (RowPost w g (MergeOk a b d))
/-- The code from a region on. -/
def fromRegion (k : Nat) : Code → Option Code
  | .region id ops dr => if id = k then some (.region id ops dr) else none
  | .seq x y => match fromRegion k x with
    | some z => some (.seq z y)
    | none => fromRegion k y
  | .scope x => fromRegion k x
  | _ => none
noncomputable def symFrom (k : Nat) : Code := (Tryd.f86.body.bind (fromRegion k)).getD .skip
def cL : Code → Code
  | .seq x _ => x
  | x => x
def cR : Code → Code
  | .seq _ y => y
  | x => x

set_option maxRecDepth 1000000 in
set_option maxHeartbeats 4000000 in
theorem sym43 (N : Nat) (IH : Hid (Merges N)) (w w5 : World) (g a m b c s e mid : Nat) (d d1 d2 : Array Bk) (hN : b - a ≤ N + 1) (hb : b ≤ d.size) (hs : d.size ≤ 1000) (hme2 : mid ≤ e) (g4 : e ≤ b) (hab1 : a < mid) (hab2 : mid < b)
    (HZ1 : Hid (d1.size = d.size)) (HZ2 : Hid (d2.size = d.size)) (HP1 : Hid (PermIn a b d d1)) (HX : Hid (∀ i j, a ≤ i → i < mid → mid ≤ j → j < b → ltB d1[j]! d1[i]! = false)) (HP2 : Hid (PermIn a mid d1 d2)) (HS2 : Hid (SortedIn ltB a mid d2)) (HM1 : Hid (SortedIn ltB mid e d2)) (HM2 : Hid (SortedIn ltB e b d2))
    (hD2 : Dat w5 g d2) (hb2 : Below g w w5) (K : Act → World → Prop) (hK : ∀ a' w', Code.wp Tryd.prog (cR (symFrom 43)) (bodyPost Tryd.prog Tryd.f86 (RowPost w g (MergeOk a b d))) a' w' → K a' w') (u5 u6 u7 u8 u9 u10 u11 u12 u13 u14 u15 u16 u17 u19 u21 u22 u23 u25 u26 u27 u28 u29 u30 u31 u32 u33 u34 u35 u36 u37 u38 u39 u40 u41 u42 u43 u44 u45 u46 u47 u48 u49 u50 u51 u52 u53 u54 u55 u56 u57 u58 u59 u60 u61 u62 u63 u64 u65 u66 u67 u68 u69 u70 u71 u72 u73 u74 u75 u76 u77 u78 u79 u80 u81 u82 u83 u84 u85 u86 u87 u88 u89 u90 u91 u92 u93 u94 u95 u96 u97 u98 u99 u100 u101 u102 u103 u104 u105 u106 u107 u108 u109 u110 u111 u112 u113 u114 u115 u116 u117 u118 u119 u120 u121 u122 u123 u124 u125 u126 u127 u128 u129 u130 u131 u132 u133 u134 u135 u136 u137 u138 u139 u140 u141 u142 u143 u144 u145 u146 u147 u148 u149 u150 u151 u152 u153 u154 u155 u156 u157 u158 u159 u160 u161 u162 u163 u164 u165 u166 u167 u168 u169 u170 u171 u172 u173 u174 u175 u176 u177 u178 u179 u180 u181 u182 u183 u184 u185 u186 u187 u188 u189 u190 u191 u192 u193 u194 u195 u196 u197 u198 u199 u200 u201 u202 u203 u204 u205 u206 u207 u208 u209 u210 u211 u212 u213 u214 u215 u216 u217 u218 u219 : Value) :
    Code.wp Tryd.prog (cL (symFrom 43)) (Exit.then K (bodyPost Tryd.prog Tryd.f86 (RowPost w g (MergeOk a b d)))) ⟨#[.slice (some ⟨g, 0, none⟩) d.size c, .int .i64 (a : Int), .int .i64 (m : Int), .int .i64 (b : Int), .func (.func 45) #[] #[], u5, u6, u7, u8, u9, u10, u11, u12, u13, u14, u15, u16, u17, .int .i64 (mid : Int), u19, .int .i64 (s : Int), u21, u22, u23, .int .i64 (e : Int), u25, u26, u27, u28, u29, u30, u31, u32, u33, u34, u35, u36, u37, u38, u39, u40, u41, u42, u43, u44, u45, u46, u47, u48, u49, u50, u51, u52, u53, u54, u55, u56, u57, u58, u59, u60, u61, u62, u63, u64, u65, u66, u67, u68, u69, u70, u71, u72, u73, u74, u75, u76, u77, u78, u79, u80, u81, u82, u83, u84, u85, u86, u87, u88, u89, u90, u91, u92, u93, u94, u95, u96, u97, u98, u99, u100, u101, u102, u103, u104, u105, u106, u107, u108, u109, u110, u111, u112, u113, u114, u115, u116, u117, u118, u119, u120, u121, u122, u123, u124, u125, u126, u127, u128, u129, u130, u131, u132, u133, u134, u135, u136, u137, u138, u139, u140, u141, u142, u143, u144, u145, u146, u147, u148, u149, u150, u151, u152, u153, u154, u155, u156, u157, u158, u159, u160, u161, u162, u163, u164, u165, u166, u167, u168, u169, u170, u171, u172, u173, u174, u175, u176, u177, u178, u179, u180, u181, u182, u183, u184, u185, u186, u187, u188, u189, u190, u191, u192, u193, u194, u195, u196, u197, u198, u199, u200, u201, u202, u203, u204, u205, u206, u207, u208, u209, u210, u211, u212, u213, u214, u215, u216, u217, u218, u219], []⟩ w5 := by
  conv => arg 2; whnf
  by_cases c1 : mid < e
  · by_cases c2 : e < b
    · go_wp2_with fail
      conv => arg 2; whnf
      go_wp2_with fail
      rw [← HZ2.out]
      refine (IH.out _ g mid e b c d2 (by omega) hD2 c1 c2 (by have := HZ2.out; omega) (by have := HZ2.out; omega) HM1.out HM2.out).mono ?_
      rintro e' w6 ⟨rfl, d3, hD3, hM3, hb3⟩
      have HE : Hid (MergeOk a b d d3) := by
        have h9 := sym_join (by omega) (by omega) (by have := HZ1.out; omega) HX.out HP2.out HS2.out hM3.1 hM3.2
        exact ⟨permIn_trans _ _ _ _ _ HP1.out h9.1, h9.2⟩
      clear hM3
      go_wp2_with fail
      go_end0
      exact ⟨rfl, d3, hD3, HE.out, hb2.trans hb3⟩
    · have HE : Hid (MergeOk a b d d2) := by
        have h8 := HM1.out
        have h7 : e = b := by omega
        rw [h7] at h8
        have h9 := sym_join (by omega) (by omega) (by have := HZ1.out; omega) HX.out HP2.out HS2.out (permIn_refl _ _ _) h8
        exact ⟨permIn_trans _ _ _ _ _ HP1.out h9.1, h9.2⟩
      go_wp2_with fail
      conv => arg 2; whnf
      go_wp2_with fail
      go_end0
      exact ⟨rfl, d2, hD2, HE.out, hb2⟩
  · have HE : Hid (MergeOk a b d d2) := by
      have h8 := HM2.out
      have h7 : e = mid := by omega
      rw [h7] at h8
      have h9 := sym_join (by omega) (by omega) (by have := HZ1.out; omega) HX.out HP2.out HS2.out (permIn_refl _ _ _) h8
      exact ⟨permIn_trans _ _ _ _ _ HP1.out h9.1, h9.2⟩
    go_wp2_with fail
    conv => arg 2; whnf
    go_wp2_with fail
    go_end0
    exact ⟨rfl, d2, hD2, HE.out, hb2⟩

set_option maxRecDepth 1000000 in
set_option maxHeartbeats 4000000 in
theorem sym41 (N : Nat) (IH : Hid (Merges N)) (w w4 : World) (g a m b c s e mid : Nat) (d d1 : Array Bk) (hN : b - a ≤ N + 1) (hb : b ≤ d.size) (hs : d.size ≤ 1000) (hms : s ≤ mid) (hme2 : mid ≤ e) (g1 : a ≤ s) (g4 : e ≤ b) (hab1 : a < mid) (hab2 : mid < b)
    (HZ1 : Hid (d1.size = d.size)) (HP1 : Hid (PermIn a b d d1)) (HS : Hid (SortedIn ltB a s d1 ∧ SortedIn ltB s mid d1 ∧ SortedIn ltB mid e d1 ∧ SortedIn ltB e b d1 ∧ ∀ i j, a ≤ i → i < mid → mid ≤ j → j < b → ltB d1[j]! d1[i]! = false))
    (hD1 : Dat w4 g d1) (hb1 : Below g w w4) (K K1 : Act → World → Prop) (hK1 : ∀ a' w', Code.wp Tryd.prog (cR (symFrom 41)) (bodyPost Tryd.prog Tryd.f86 (RowPost w g (MergeOk a b d))) a' w' → K1 a' w') (hK : ∀ a' w', Code.wp Tryd.prog (cR (cL (symFrom 41))) (Exit.then K1 (bodyPost Tryd.prog Tryd.f86 (RowPost w g (MergeOk a b d)))) a' w' → K a' w') (u5 u6 u7 u8 u9 u10 u11 u12 u13 u14 u15 u16 u17 u19 u21 u22 u23 u25 u26 u27 u28 u29 u30 u31 u32 u33 u34 u35 u36 u37 u38 u39 u40 u41 u42 u43 u44 u45 u46 u47 u48 u49 u50 u51 u52 u53 u54 u55 u56 u57 u58 u59 u60 u61 u62 u63 u64 u65 u66 u67 u68 u69 u70 u71 u72 u73 u74 u75 u76 u77 u78 u79 u80 u81 u82 u83 u84 u85 u86 u87 u88 u89 u90 u91 u92 u93 u94 u95 u96 u97 u98 u99 u100 u101 u102 u103 u104 u105 u106 u107 u108 u109 u110 u111 u112 u113 u114 u115 u116 u117 u118 u119 u120 u121 u122 u123 u124 u125 u126 u127 u128 u129 u130 u131 u132 u133 u134 u135 u136 u137 u138 u139 u140 u141 u142 u143 u144 u145 u146 u147 u148 u149 u150 u151 u152 u153 u154 u155 u156 u157 u158 u159 u160 u161 u162 u163 u164 u165 u166 u167 u168 u169 u170 u171 u172 u173 u174 u175 u176 u177 u178 u179 u180 u181 u182 u183 u184 u185 u186 u187 u188 u189 u190 u191 u192 u193 u194 u195 u196 u197 u198 u199 u200 u201 u202 u203 u204 u205 u206 u207 u208 u209 u210 u211 u212 u213 u214 u215 u216 u217 u218 u219 : Value) :
    Code.wp Tryd.prog (cL (cL (symFrom 41))) (Exit.then K (Exit.then K1 (bodyPost Tryd.prog Tryd.f86 (RowPost w g (MergeOk a b d))))) ⟨#[.slice (some ⟨g, 0, none⟩) d.size c, .int .i64 (a : Int), .int .i64 (m : Int), .int .i64 (b : Int), .func (.func 45) #[] #[], u5, u6, u7, u8, u9, u10, u11, u12, u13, u14, u15, u16, u17, .int .i64 (mid : Int), u19, .int .i64 (s : Int), u21, u22, u23, .int .i64 (e : Int), u25, u26, u27, u28, u29, u30, u31, u32, u33, u34, u35, u36, u37, u38, u39, u40, u41, u42, u43, u44, u45, u46, u47, u48, u49, u50, u51, u52, u53, u54, u55, u56, u57, u58, u59, u60, u61, u62, u63, u64, u65, u66, u67, u68, u69, u70, u71, u72, u73, u74, u75, u76, u77, u78, u79, u80, u81, u82, u83, u84, u85, u86, u87, u88, u89, u90, u91, u92, u93, u94, u95, u96, u97, u98, u99, u100, u101, u102, u103, u104, u105, u106, u107, u108, u109, u110, u111, u112, u113, u114, u115, u116, u117, u118, u119, u120, u121, u122, u123, u124, u125, u126, u127, u128, u129, u130, u131, u132, u133, u134, u135, u136, u137, u138, u139, u140, u141, u142, u143, u144, u145, u146, u147, u148, u149, u150, u151, u152, u153, u154, u155, u156, u157, u158, u159, u160, u161, u162, u163, u164, u165, u166, u167, u168, u169, u170, u171, u172, u173, u174, u175, u176, u177, u178, u179, u180, u181, u182, u183, u184, u185, u186, u187, u188, u189, u190, u191, u192, u193, u194, u195, u196, u197, u198, u199, u200, u201, u202, u203, u204, u205, u206, u207, u208, u209, u210, u211, u212, u213, u214, u215, u216, u217, u218, u219], []⟩ w4 := by
  conv => arg 2; whnf
  have HX := Lib.hid HS.out.2.2.2.2
  by_cases c1 : a < s
  · by_cases c2 : s < mid
    · go_wp2_with fail
      conv => arg 2; whnf
      go_wp2_with fail
      rw [← HZ1.out]
      refine (IH.out _ g a s mid c d1 (by omega) hD1 c1 c2 (by have := HZ1.out; omega) (by have := HZ1.out; omega) HS.out.1 HS.out.2.1).mono ?_
      rintro e' w5 ⟨rfl, d2, hD2, ⟨hP2, hS2⟩, hb2⟩
      rw [HZ1.out]
      have HZ2 := Lib.hid (hP2.1.trans HZ1.out)
      have HP2 := Lib.hid hP2
      have HS2 := Lib.hid hS2
      have HM1 : Hid (SortedIn ltB mid e d2) := SortedIn.kept HS.out.2.2.1 hP2 (.inr (Nat.le_refl _))
      have HM2 : Hid (SortedIn ltB e b d2) := SortedIn.kept HS.out.2.2.2.1 hP2 (.inr (by omega))
      clear hP2 hS2
      go_wp2_with fail
      conv => arg 2; whnf
      go_upto_region 43 with (fail)
      exact sym43 N IH w _ g a m b c s e mid d d1 d2 hN hb hs hme2 g4 hab1 hab2 HZ1 HZ2 HP1 HX HP2 HS2 HM1 HM2 hD2 (hb1.trans hb2) _ (by assumption) _ _ _ _ _ _ _ _ _ _ _ _ _ _ _ _ _ _ _ _ _ _ _ _ _ _ _ _ _ _ _ _ _ _ _ _ _ _ _ _ _ _ _ _ _ _ _ _ _ _ _ _ _ _ _ _ _ _ _ _ _ _ _ _ _ _ _ _ _ _ _ _ _ _ _ _ _ _ _ _ _ _ _ _ _ _ _ _ _ _ _ _ _ _ _ _ _ _ _ _ _ _ _ _ _ _ _ _ _ _ _ _ _ _ _ _ _ _ _ _ _ _ _ _ _ _ _ _ _ _ _ _ _ _ _ _ _ _ _ _ _ _ _ _ _ _ _ _ _ _ _ _ _ _ _ _ _ _ _ _ _ _ _ _ _ _ _ _ _ _ _ _ _ _ _ _ _ _ _ _ _ _ _ _ _ _ _ _ _ _ _ _ _ _ _ _ _ _ _ _ _ _ _ _ _ _ _ _ _ _ _ _ 
    · have HE : Hid (SortedIn ltB a mid d1) := by
        have h9 := HS.out.1
        have h8 : s = mid := by omega
        rw [h8] at h9
        exact h9
      go_wp2_with fail
      conv => arg 2; whnf
      go_wp2_with fail
      conv => arg 2; whnf
      go_upto_region 43 with (fail)
      exact sym43 N IH w _ g a m b c s e mid d d1 d1 hN hb hs hme2 g4 hab1 hab2 HZ1 HZ1 HP1 HX (Lib.hid (permIn_refl _ _ _)) HE (Lib.hid HS.out.2.2.1) (Lib.hid HS.out.2.2.2.1) hD1 hb1 _ (by assumption) _ _ _ _ _ _ _ _ _ _ _ _ _ _ _ _ _ _ _ _ _ _ _ _ _ _ _ _ _ _ _ _ _ _ _ _ _ _ _ _ _ _ _ _ _ _ _ _ _ _ _ _ _ _ _ _ _ _ _ _ _ _ _ _ _ _ _ _ _ _ _ _ _ _ _ _ _ _ _ _ _ _ _ _ _ _ _ _ _ _ _ _ _ _ _ _ _ _ _ _ _ _ _ _ _ _ _ _ _ _ _ _ _ _ _ _ _ _ _ _ _ _ _ _ _ _ _ _ _ _ _ _ _ _ _ _ _ _ _ _ _ _ _ _ _ _ _ _ _ _ _ _ _ _ _ _ _ _ _ _ _ _ _ _ _ _ _ _ _ _ _ _ _ _ _ _ _ _ _ _ _ _ _ _ _ _ _ _ _ _ _ _ _ _ _ _ _ _ _ _ _ _ _ _ _ _ _ _ _ _ _ _ 
  · have HE : Hid (SortedIn ltB a mid d1) := by
      have h9 := HS.out.2.1
      have h8 : s = a := by omega
      rw [h8] at h9
      exact h9
    go_wp2_with fail
    conv => arg 2; whnf
    go_wp2_with fail
    conv => arg 2; whnf
    go_upto_region 43 with (fail)
    exact sym43 N IH w _ g a m b c s e mid d d1 d1 hN hb hs hme2 g4 hab1 hab2 HZ1 HZ1 HP1 HX (Lib.hid (permIn_refl _ _ _)) HE (Lib.hid HS.out.2.2.1) (Lib.hid HS.out.2.2.2.1) hD1 hb1 _ (by assumption) _ _ _ _ _ _ _ _ _ _ _ _ _ _ _ _ _ _ _ _ _ _ _ _ _ _ _ _ _ _ _ _ _ _ _ _ _ _ _ _ _ _ _ _ _ _ _ _ _ _ _ _ _ _ _ _ _ _ _ _ _ _ _ _ _ _ _ _ _ _ _ _ _ _ _ _ _ _ _ _ _ _ _ _ _ _ _ _ _ _ _ _ _ _ _ _ _ _ _ _ _ _ _ _ _ _ _ _ _ _ _ _ _ _ _ _ _ _ _ _ _ _ _ _ _ _ _ _ _ _ _ _ _ _ _ _ _ _ _ _ _ _ _ _ _ _ _ _ _ _ _ _ _ _ _ _ _ _ _ _ _ _ _ _ _ _ _ _ _ _ _ _ _ _ _ _ _ _ _ _ _ _ _ _ _ _ _ _ _ _ _ _ _ _ _ _ _ _ _ _ _ _ _ _ _ _ _ _ _ _ _ _ 

set_option maxRecDepth 1000000 in
set_option maxHeartbeats 4000000 in
theorem sym38 (N : Nat) (IH : Hid (Merges N)) (w w3 : World) (g a m b c s e mid n : Nat) (d : Array Bk) (hN : b - a ≤ N + 1) (hb : b ≤ d.size) (hs : d.size ≤ 1000) (hn9 : n ≤ 2000) (hee : (n : Int) - (s : Int) = (e : Int)) (g1 : a ≤ s) (g2 : s ≤ m) (g3 : m ≤ e) (g4 : e ≤ b) (hms : s ≤ mid) (hme2 : mid ≤ e) (hab1 : a < mid) (hab2 : mid < b)
    (HMD : Hid (mid = s + (e - m))) (H1 : Hid (SortedIn ltB a m d)) (H2 : Hid (SortedIn ltB m b d)) (HLL : Hid (a < s → e < b → ltB d[e]! d[s - 1]! = false)) (HRR : Hid (s < m → m < e → ltB d[s]! d[e - 1]! = false))
    (hD : Dat w3 g d) (hbl : Below g w w3) (K : Act → World → Prop) (hK : ∀ a' w', Code.wp Tryd.prog (cR (symFrom 38)) (bodyPost Tryd.prog Tryd.f86 (RowPost w g (MergeOk a b d))) a' w' → K a' w') (u5 u6 u7 u8 u9 u10 u11 u12 u13 u14 u15 u16 u17 u21 u22 u23 u24 u25 u26 u27 u28 u29 u30 u31 u32 u33 u34 u35 u36 u37 u38 u39 u40 u41 u42 u43 u44 u45 u46 u47 u48 u49 u50 u51 u52 u53 u54 u55 u56 u57 u58 u59 u60 u61 u62 u63 u64 u65 u66 u67 u68 u69 u70 u71 u72 u73 u74 u75 u76 u77 u78 u79 u80 u81 u82 u83 u84 u85 u86 u87 u88 u89 u90 u91 u92 u93 u94 u95 u96 u97 u98 u99 u100 u101 u102 u103 u104 u105 u106 u107 u108 u109 u110 u111 u112 u113 u114 u115 u116 u117 u118 u119 u120 u121 u122 u123 u124 u125 u126 u127 u128 u129 u130 u131 u132 u133 u134 u135 u136 u137 u138 u139 u140 u141 u142 u143 u144 u145 u146 u147 u148 u149 u150 u151 u152 u153 u154 u155 u156 u157 u158 u159 u160 u161 u162 u163 u164 u165 u166 u167 u168 u169 u170 u171 u172 u173 u174 u175 u176 u177 u178 u179 u180 u181 u182 u183 u184 u185 u186 u187 u188 u189 u190 u191 u192 u193 u194 u195 u196 u197 u198 u199 u200 u201 u202 u203 u204 u205 u206 u207 u208 u209 u210 u211 u212 u213 u214 u215 u216 u217 u218 u219 : Value) :
    Code.wp Tryd.prog (cL (symFrom 38)) (Exit.then K (bodyPost Tryd.prog Tryd.f86 (RowPost w g (MergeOk a b d)))) ⟨#[.slice (some ⟨g, 0, none⟩) d.size c, .int .i64 (a : Int), .int .i64 (m : Int), .int .i64 (b : Int), .func (.func 45) #[] #[], u5, u6, u7, u8, u9, u10, u11, u12, u13, u14, u15, u16, u17, .int .i64 (mid : Int), .int .i64 (n : Int), .int .i64 (s : Int), u21, u22, u23, u24, u25, u26, u27, u28, u29, u30, u31, u32, u33, u34, u35, u36, u37, u38, u39, u40, u41, u42, u43, u44, u45, u46, u47, u48, u49, u50, u51, u52, u53, u54, u55, u56, u57, u58, u59, u60, u61, u62, u63, u64, u65, u66, u67, u68, u69, u70, u71, u72, u73, u74, u75, u76, u77, u78, u79, u80, u81, u82, u83, u84, u85, u86, u87, u88, u89, u90, u91, u92, u93, u94, u95, u96, u97, u98, u99, u100, u101, u102, u103, u104, u105, u106, u107, u108, u109, u110, u111, u112, u113, u114, u115, u116, u117, u118, u119, u120, u121, u122, u123, u124, u125, u126, u127, u128, u129, u130, u131, u132, u133, u134, u135, u136, u137, u138, u139, u140, u141, u142, u143, u144, u145, u146, u147, u148, u149, u150, u151, u152, u153, u154, u155, u156, u157, u158, u159, u160, u161, u162, u163, u164, u165, u166, u167, u168, u169, u170, u171, u172, u173, u174, u175, u176, u177, u178, u179, u180, u181, u182, u183, u184, u185, u186, u187, u188, u189, u190, u191, u192, u193, u194, u195, u196, u197, u198, u199, u200, u201, u202, u203, u204, u205, u206, u207, u208, u209, u210, u211, u212, u213, u214, u215, u216, u217, u218, u219], []⟩ w3 := by
  conv => arg 2; whnf
  by_cases c1 : s < m
  · by_cases c2 : m < e
    · go_wp2_with fail
      conv => arg 2; whnf
      go_wp2_with fail
      refine (rotate_calls _ g s m e c d _ hD c1 c2 (by omega) hs).mono ?_
      rintro e' w4 ⟨rfl, d1, hD1, ⟨hR1, hP1⟩, hb1⟩
      have HZ1 := Lib.hid hP1.1
      have HP1 : Hid (PermIn a b d d1) := permIn_mono _ _ s e a b g1 g4 hb hP1
      have HS := Lib.hid (sym_parts swoB g1 g2 g3 g4 HMD.out H1.out H2.out HLL.out HRR.out hR1)
      clear hR1 hP1
      go_upto_region 41 with (fail)
      exact sym41 N IH w _ g a m b c s e mid d d1 hN hb hs hms hme2 g1 g4 hab1 hab2 HZ1 HP1 HS hD1 (hbl.trans hb1) _ _ (by assumption) (by assumption) _ _ _ _ _ _ _ _ _ _ _ _ _ _ _ _ _ _ _ _ _ _ _ _ _ _ _ _ _ _ _ _ _ _ _ _ _ _ _ _ _ _ _ _ _ _ _ _ _ _ _ _ _ _ _ _ _ _ _ _ _ _ _ _ _ _ _ _ _ _ _ _ _ _ _ _ _ _ _ _ _ _ _ _ _ _ _ _ _ _ _ _ _ _ _ _ _ _ _ _ _ _ _ _ _ _ _ _ _ _ _ _ _ _ _ _ _ _ _ _ _ _ _ _ _ _ _ _ _ _ _ _ _ _ _ _ _ _ _ _ _ _ _ _ _ _ _ _ _ _ _ _ _ _ _ _ _ _ _ _ _ _ _ _ _ _ _ _ _ _ _ _ _ _ _ _ _ _ _ _ _ _ _ _ _ _ _ _ _ _ _ _ _ _ _ _ _ _ _ _ _ _ _ _ _ _ _ _ _ _ _ _ 
    · have HS := Lib.hid (sym_parts swoB g1 g2 g3 g4 HMD.out H1.out H2.out HLL.out HRR.out (rotF_none d g2 g3 (by omega)))
      go_wp2_with fail
      conv => arg 2; whnf
      go_upto_region 41 with (fail)
      exact sym41 N IH w _ g a m b c s e mid d d hN hb hs hms hme2 g1 g4 hab1 hab2 (Lib.hid rfl) (Lib.hid (permIn_refl _ _ _)) HS hD hbl _ _ (by assumption) (by assumption) _ _ _ _ _ _ _ _ _ _ _ _ _ _ _ _ _ _ _ _ _ _ _ _ _ _ _ _ _ _ _ _ _ _ _ _ _ _ _ _ _ _ _ _ _ _ _ _ _ _ _ _ _ _ _ _ _ _ _ _ _ _ _ _ _ _ _ _ _ _ _ _ _ _ _ _ _ _ _ _ _ _ _ _ _ _ _ _ _ _ _ _ _ _ _ _ _ _ _ _ _ _ _ _ _ _ _ _ _ _ _ _ _ _ _ _ _ _ _ _ _ _ _ _ _ _ _ _ _ _ _ _ _ _ _ _ _ _ _ _ _ _ _ _ _ _ _ _ _ _ _ _ _ _ _ _ _ _ _ _ _ _ _ _ _ _ _ _ _ _ _ _ _ _ _ _ _ _ _ _ _ _ _ _ _ _ _ _ _ _ _ _ _ _ _ _ _ _ _ _ _ _ _ _ _ _ _ _ _ _ _ _ 
  · have HS := Lib.hid (sym_parts swoB g1 g2 g3 g4 HMD.out H1.out H2.out HLL.out HRR.out (rotF_none d g2 g3 (by omega)))
    go_wp2_with fail
    conv => arg 2; whnf
    go_upto_region 41 with (fail)
    exact sym41 N IH w _ g a m b c s e mid d d hN hb hs hms hme2 g1 g4 hab1 hab2 (Lib.hid rfl) (Lib.hid (permIn_refl _ _ _)) HS hD hbl _ _ (by assumption) (by assumption) _ _ _ _ _ _ _ _ _ _ _ _ _ _ _ _ _ _ _ _ _ _ _ _ _ _ _ _ _ _ _ _ _ _ _ _ _ _ _ _ _ _ _ _ _ _ _ _ _ _ _ _ _ _ _ _ _ _ _ _ _ _ _ _ _ _ _ _ _ _ _ _ _ _ _ _ _ _ _ _ _ _ _ _ _ _ _ _ _ _ _ _ _ _ _ _ _ _ _ _ _ _ _ _ _ _ _ _ _ _ _ _ _ _ _ _ _ _ _ _ _ _ _ _ _ _ _ _ _ _ _ _ _ _ _ _ _ _ _ _ _ _ _ _ _ _ _ _ _ _ _ _ _ _ _ _ _ _ _ _ _ _ _ _ _ _ _ _ _ _ _ _ _ _ _ _ _ _ _ _ _ _ _ _ _ _ _ _ _ _ _ _ _ _ _ _ _ _ _ _ _ _ _ _ _ _ _ _ _ _ _ _ 
end Go.Proofs.YtcoeoggoaiebeaaDoor
