/-
  DERIVED. THE PLAIN LAW OF LAYER book, 4: the document: the ring against whole snapshots.
-/
import Derived.Test.Qxb6500326aGreatT3
namespace Go.Proofs.Qxb6500326aGreat
set_option linter.unusedVariables false
set_option linter.unusedSimpArgs false

/-- The model's history: past (the oldest first), next (the nearest last). -/
structure Hist (H : Nat → Tx) (u r : Nat) (past next : List Tx) : Prop where
  pl : past.length = u
  nl : next.length = r
  pe : ∀ k, k < u → past[k]? = some (H k)
  ne : ∀ j, j < r → next[j]? = some (H (u + r - j))
section
variable {H : Nat → Tx} {u r : Nat} {past next : List Tx}
theorem Hist.last (h : Hist H (u + 1) r past next) : past[u]? = some (H u) := h.pe u (by omega)
theorem Hist.near (h : Hist H u (r + 1) past next) : next[r]? = some (H (u + 1)) := by
  have := h.ne r (by omega)
  rw [show u + (r + 1) - r = u + 1 from by omega] at this
  exact this
/-- Undo. -/
theorem Hist.back (h : Hist H (u + 1) r past next) : Hist H u (r + 1) (past.take u) (next ++ [H (u + 1)]) := by
  refine ⟨by rw [List.length_take, h.pl]; omega, by simp [h.nl], fun k hk => ?_, fun j hj => ?_⟩
  · rw [List.getElem?_take, if_pos hk]; exact h.pe k (by omega)
  · rcases Nat.lt_or_ge j r with hj2 | hj2
    · rw [List.getElem?_append_left (by rw [h.nl]; exact hj2), h.ne j hj2]
      congr 2; omega
    · have : j = r := by omega
      subst this
      rw [List.getElem?_append_right (by rw [h.nl]; exact Nat.le_refl _), h.nl, Nat.sub_self]
      simp; congr 1; omega
/-- Redo. -/
theorem Hist.forth (h : Hist H u (r + 1) past next) : Hist H (u + 1) r (past ++ [H u]) (next.take r) := by
  refine ⟨by simp [h.pl], by rw [List.length_take, h.nl]; omega, fun k hk => ?_, fun j hj => ?_⟩
  · rcases Nat.lt_or_ge k u with hk2 | hk2
    · rw [List.getElem?_append_left (by rw [h.pl]; exact hk2)]; exact h.pe k hk2
    · have : k = u := by omega
      subst this
      rw [List.getElem?_append_right (by rw [h.pl]; exact Nat.le_refl _), h.pl, Nat.sub_self]
      rfl
  · rw [List.getElem?_take, if_pos hj, h.ne j (by omega)]
    congr 2; omega
/-- A command, with room. -/
theorem Hist.done (h : Hist H u r past next) (now : Tx) : Hist (upd H (u + 1) now) (u + 1) 0 (past ++ [H u]) [] := by
  refine ⟨by simp [h.pl], rfl, fun k hk => ?_, fun j hj => absurd hj (by omega)⟩
  rw [upd_other _ _ (by omega)]
  rcases Nat.lt_or_ge k u with hk2 | hk2
  · rw [List.getElem?_append_left (by rw [h.pl]; exact hk2)]; exact h.pe k hk2
  · have : k = u := by omega
    subst this
    rw [List.getElem?_append_right (by rw [h.pl]; exact Nat.le_refl _), h.pl, Nat.sub_self]
    rfl
/-- A command that forgets the oldest. -/
theorem Hist.full (h : Hist H (u + 1) r past next) (now : Tx) : Hist (upd (fun k => H (k + 1)) (u + 1) now) (u + 1) 0 ((past ++ [H (u + 1)]).drop 1) [] := by
  have h2 := h.done now
  refine ⟨by rw [List.length_drop, h2.pl]; omega, rfl, fun k hk => ?_, fun j hj => absurd hj (by omega)⟩
  rw [List.getElem?_drop, show 1 + k = k + 1 from by omega, h2.pe (k + 1) (by omega)]
  rw [upd_other _ _ (by omega), upd_other _ _ (by omega)]
theorem hist0 (H : Nat → Tx) : Hist H 0 0 [] [] := ⟨rfl, rfl, fun k hk => absurd hk (by omega), fun k hk => absurd hk (by omega)⟩
end
end Go.Proofs.Qxb6500326aGreat
