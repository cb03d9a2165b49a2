import Derived.Test.Qxb6500329aL9
import Derived.Deep.AppendLies
import Derived.Test.Qxb6500329aW5
namespace Go.Proofs.Qxb6500329a
set_option linter.unusedVariables false
set_option linter.unusedSimpArgs false
open Go.RowKit Go.PlainAid
/-! ### Turn: the register's own list is written -/
theorem nds_set : ∀ (L : List Nd) (i k : Nat) (x : Nd) (u : Value), i < L.length → k < 13 → (ndL (nd L i)).set k u = ndL x → (nds L).set (i * 13 + k) u = nds (L.set i x)
  | [], i, k, x, u, hi, hk, e => by simp at hi
  | y :: L, 0, k, x, u, hi, hk, e => by
    simp only [nds, List.flatMap_cons, List.set_cons_zero, Nat.zero_mul, Nat.zero_add]
    have hl : k < (ndL y).length := by simp [ndL]; omega
    rw [List.set_append_left _ _ hl]
    have e2 : nd (y :: L) 0 = y := rfl
    rw [e2] at e
    rw [e]
  | y :: L, i + 1, k, x, u, hi, hk, e => by
    simp only [nds, List.flatMap_cons, List.set_cons_succ]
    have hl : (ndL y).length = 13 := by simp [ndL]
    rw [List.set_append_right _ _ (by rw [hl]; omega), hl, show (i + 1) * 13 + k - 13 = i * 13 + k from by omega]
    have e2 : nd (y :: L) (i + 1) = nd L i := rfl
    rw [e2] at e
    have ih := nds_set L i k x u (by simpa using hi) hk e
    simp only [nds] at ih
    rw [ih]
theorem nd_set_same {L : List Nd} {i : Nat} {x : Nd} (h : i < L.length) : nd (L.set i x) i = x := by
  unfold nd; rw [List.getElem?_set_self h]; rfl
/-- One cell of the list's own block is written. -/
theorem nl_set {w : World} {g n cap : Nat} {L : List Nd} (h : NL w (.slice (some ⟨g, 0, none⟩) n cap) L) (i k : Nat) (hi : i < L.length) (hk : k < 13) (u : Value) (x : Nd) (e : (ndL (nd L i)).set k u = ndL x) : NL (w.setCell ⟨g, i * 13 + k, none⟩ u) (.slice (some ⟨g, 0, none⟩) n cap) (L.set i x) := by
  refine ⟨nds_len _, ?_⟩
  rcases h.2 with ⟨e1, e2⟩ | ⟨g', cap', cur, e1, e2, e3, e4, e5, e6, e7⟩
  · cases e1
  · injection e1 with e1 e8 e9
    injection e1 with e1
    injection e1 with e1
    subst e1; subst e9
    rw [List.length_set]
    refine .inr ⟨g, cap, cur.setIfInBounds (i * 13 + k) u, by rw [e8], e2, ?_, e4, e5, by simp [e6], ?_⟩
    · rw [heap_setCell_same w g (i * 13 + k) cur 44 u e3]
    · rw [← nds_set L i k x u hi hk e, ← e7]
      simp [List.take_set]
end Go.Proofs.Qxb6500329a
