/-
  wear.Moves.
-/
import Derived.Test.YtcoeoggoaiebeaaDoorAfterB
namespace Go.Proofs.YtcoeoggoaiebeaaDoor
open Go.RowKit

theorem Rd.far3 {w : World} {e : TypeId} {size n g : Nat} {v : Value} {xs : List Value} {t : TypeId} {v0 v1 v2 : Value} (h : Rd w e size v n xs) (hg : Cl w g t #[v0, v1, v2]) (hne : e ≠ t) (u0 u1 u2 : Value) :
    Rd (((w.setCell ⟨g, 0, none⟩ u0).setCell ⟨g, 1, none⟩ u1).setCell ⟨g, 2, none⟩ u2) e size v n xs :=
  Rd.far (Rd.far (Rd.far h hg hne 0 u0) (hg.set_ 0 u0) hne 1 u1) ((hg.set_ 0 u0).set_ 1 u1) hne 2 u2
theorem moves_next {N : Nat} {all ms : List (Bk × Bk)} {bs' bs'' : List Bk} {c : Int} {m : Bk × Bk} (h : all = ms ++ movesB (N - ms.length) bs' c) (hl : ms.length < N) (hs : movesB (N - (ms.length + 1) + 1) bs' c = m :: movesB (N - (ms.length + 1)) bs'' c) :
    all = (ms ++ [m]) ++ movesB (N - (ms ++ [m]).length) bs'' c := by
  rw [h, show N - ms.length = N - (ms.length + 1) + 1 by omega, hs]
  simp
def sliceLen : Value → Nat | .slice _ n _ => n | _ => 0
theorem Cl.news {w : World} {g : Nat} {t : TypeId} {cs : Array Value} (h : Cl w g t cs) {xs : List Value} (hx : cs.toList = xs) : ∀ j u, xs[j]? = some u → w.cell? ((⟨g, 0, none⟩ : Addr).add j) = some u := by
  intro j u hu
  subst hx
  rw [add_plain, Nat.zero_add, h.cell]
  simpa using hu
theorem own_ne {w : World} {base g : Nat} {e t : TypeId} {size n : Nat} {v : Value} {xs : List Value} {cs : Array Value} (h : w.ownsRow base e size v n xs) (hg : Cl w g t cs) (hne : e ≠ t) : some g ≠ v.ownBlock := by
  intro hb
  rcases h.2 with ⟨rfl, _⟩ | ⟨g', cap, cur', rfl, _, hh', _⟩
  · simp [Value.ownBlock] at hb
  · simp only [Value.ownBlock, Option.some.injEq] at hb
    subst hb
    unfold Cl at hg
    rw [hg] at hh'
    injection hh' with hh'
    injection hh' with _ ht
    exact hne ht.symm

end Go.Proofs.YtcoeoggoaiebeaaDoor
