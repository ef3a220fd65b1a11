/-
  wear.Moves.
  One element appended to a row of the call's own: what is left of all else.
-/
import Derived.Test.YtckamjbdogpacaaGreatDoorAfterB
namespace Go.Proofs.YtckamjbdogpacaaGreatDoor
open Go.RowKit

theorem Rd.far3 {w : World} {e : TypeId} {size n g : Nat} {v : Value} {xs : List Value} {t : TypeId} {v0 v1 v2 : Value} (h : Rd w e size v n xs) (hg : Cl w g t #[v0, v1, v2]) (hne : e ≠ t) (u0 u1 u2 : Value) :
    Rd (((w.setCell ⟨g, 0, none⟩ u0).setCell ⟨g, 1, none⟩ u1).setCell ⟨g, 2, none⟩ u2) e size v n xs :=
  Rd.far (Rd.far (Rd.far h hg hne 0 u0) (hg.set_ 0 u0) hne 1 u1) ((hg.set_ 0 u0).set_ 1 u1) hne 2 u2
theorem moves_next {N : Nat} {all ms : List (Bk × Bk)} {bs' bs'' : List Bk} {c : Int} {m : Bk × Bk} (h : all = ms ++ movesB (N - ms.length) bs' c) (hl : ms.length < N) (hs : movesB (N - (ms.length + 1) + 1) bs' c = m :: movesB (N - (ms.length + 1)) bs'' c) :
    all = (ms ++ [m]) ++ movesB (N - (ms ++ [m]).length) bs'' c := by
  rw [h, show N - ms.length = N - (ms.length + 1) + 1 by omega, hs]
  simp
def sliceLen : Value → Nat | .slice _ n _ => n | _ => 0
theorem Cl.news {w : World} {g : Nat} {t : TypeId} {cs : Array Value} (h : Cl w g t cs) {xs : List Value} (hx : cs.toList = xs) : ∀ j u, xs[j]? = some u → w.cell? ((⟨g, 0, none⟩ : Addr).add j) = some u := by
  intro j u hu
  subst hx
  rw [add_plain, Nat.zero_add, h.cell]
  simpa using hu
theorem own_ne {w : World} {base g : Nat} {e t : TypeId} {size n : Nat} {v : Value} {xs : List Value} {cs : Array Value} (h : w.ownsRow base e size v n xs) (hg : Cl w g t cs) (hne : e ≠ t) : some g ≠ v.ownBlock := by
  intro hb
  rcases h.2 with ⟨rfl, _⟩ | ⟨g', cap, cur', rfl, _, hh', _⟩
  · simp [Value.ownBlock] at hb
  · simp only [Value.ownBlock, Option.some.injEq] at hb
    subst hb
    unfold Cl at hg
    rw [hg] at hh'
    injection hh' with hh'
    injection hh' with _ ht
    exact hne ht.symm

end Go.Proofs.YtckamjbdogpacaaGreatDoor

namespace Go.Proofs.YtckamjbdogpacaaGreatDoor
open Go.RowKit

/-- 'w' grew to 'w'': new blocks, and writes into blocks from 'base' on whose element type is 'e'. -/
def Grew (base : Nat) (e : TypeId) (w w' : World) : Prop :=
  w'.os = w.os ∧ w'.tape = w.tape ∧ w'.output = w.output ∧ w.heap.size ≤ w'.heap.size ∧
  ∀ g, g < w.heap.size → w'.heap[g]? = w.heap[g]? ∨ (base ≤ g ∧ ∃ cs fr, w.heap[g]? = some (.cells cs e fr))

section
variable {w w' : World} {base : Nat} {e : TypeId}
theorem Grew.size (h : Grew base e w w') : w.heap.size ≤ w'.heap.size := h.2.2.2.1
theorem Grew.cl (h : Grew base e w w') {g : Nat} {t : TypeId} {cs : Array Value} (hg : Cl w g t cs) (hne : t ≠ e ∨ g < base) : Cl w' g t cs := by
  rcases h.2.2.2.2 g hg.lt with h1 | ⟨hb, cs', fr, h1⟩
  · exact h1.trans hg
  · rcases hne with hne | hlt
    · unfold Cl at hg
      rw [h1] at hg
      injection hg with hg
      injection hg with _ ht
      exact absurd ht.symm hne
    · omega
theorem Grew.rd (h : Grew base e w w') {t : TypeId} {size n : Nat} {v : Value} {xs : List Value} (hr : Rd w t size v n xs) (hne : t ≠ e) : Rd w' t size v n xs := by
  obtain ⟨h1, A, c, hv, hc, hm, hz, h2⟩ := hr
  refine ⟨h1, A, c, hv, hc, hm, hz, fun hn => ?_⟩
  obtain ⟨b, o, cur, fr, hA, hh, hcell⟩ := h2 hn
  refine ⟨b, o, cur, fr, hA, ?_, hcell⟩
  rcases h.2.2.2.2 b (lt_of_heap hh) with h1 | ⟨hb, cs', fr', h1⟩
  · exact h1.trans hh
  · rw [h1] at hh
    injection hh with hh
    injection hh with _ ht
    exact absurd ht.symm hne
theorem Grew.below (h : Grew base e w w') {B : Nat} {a : World} (hb : Below B a w) (h1 : B ≤ w.heap.size) (h2 : B ≤ base) : Below B a w' :=
  hb.trans ⟨h.1, h.2.1, h.2.2.1, h.2.2.2.1, fun k hk => by
    rcases h.2.2.2.2 k (by omega) with h3 | ⟨h3, _⟩
    · exact h3
    · omega⟩
theorem Grew.own (h : Grew base e w w') {b t size n : Nat} {v : Value} {xs : List Value} (ho : w.ownsRow b t size v n xs) (hne : t ≠ e) : w'.ownsRow b t size v n xs := by
  refine ⟨ho.1, ?_⟩
  rcases ho.2 with hn | ⟨g, cap, cur, rfl, hbg, hg, rest⟩
  · exact .inl hn
  · exact .inr ⟨g, cap, cur, rfl, hbg, h.cl (t := t) hg (.inl hne), rest⟩
end

theorem wpList_append1 {P : Program} {w : World} {ops : Array Oper} {rest : List Oper} {o : Oper} {a : Act} {Q : Exit → Act → World → Prop} (hgd : o.guard = none) (s x : Operand) (t : TypeId)
    (ho : o.op = .call { callee := .builtin .append, args := #[s, x], argTypes := #[t, t] })
    (base : Nat) (e : TypeId) (i : TypeInfo) (z : Value) (size bytes : Nat) (ht : P.underlying t = some (.slice e)) (hi : P.info? e = some i) (hz : i.zero = some z)
    (hsize : i.size = size) (hby : i.bytes = bytes) (hzs : z.cells.size = size) (hsz : 0 < size) (hb : bytes ≤ 1000)
    (v : Value) (n : Nat) (xs : List Value) (hs : a.eval s = v) (hown : w.ownsRow base e size v n xs) (hn : n ≤ 1000000)
    (g : Nat) (cs : Array Value) (hx : a.eval x = .slice (some ⟨g, 0, none⟩) 1 1) (hg : Cl w g e cs) (hl : cs.size = size) (h1 : ∀ u ∈ cs.toList, u.oneCell' = true) (hbase : base ≤ w.heap.size)
    (h : ∀ A c w', w'.ownsRow base e size (.slice A (n + 1) c) (n + 1) (xs ++ cs.toList) → Grew base e w w' → wpList P ops Q rest (a.put o.dst (.slice A (n + 1) c)) w') : wpList P ops Q (o :: rest) a w := by
  refine wpList_append_own w hgd s x t ho base e i z size bytes ht hi hz hsize hby hzs hsz v n xs hs hown ⟨g, 0, none⟩ 1 1 cs.toList hx (by simpa using hl) (Cl.news hg rfl) h1 (by unfold maxLen; omega) ?_ hbase ?_
  · have : (n + 1) * bytes ≤ 1000001 * 1000 := Nat.mul_le_mul (by omega) hb
    omega
  · intro v' w' hown' hgr _
    obtain ⟨A, c, rfl⟩ := (Rd.own hown').form
    refine h A c w' hown' ⟨hgr.os, hgr.tape, hgr.output, hgr.size, fun k hk => ?_⟩
    by_cases hkb : some k = v.ownBlock
    · right
      rcases hown.2 with ⟨rfl, _⟩ | ⟨g', cap, cur, rfl, hbg, hh, _⟩
      · simp [Value.ownBlock] at hkb
      · simp only [Value.ownBlock, Option.some.injEq] at hkb
        subst hkb
        exact ⟨hbg, cur, (0, 0), hh⟩
    · exact .inl (hgr.block k hk hkb)
end Go.Proofs.YtckamjbdogpacaaGreatDoor
