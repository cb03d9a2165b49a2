import Derived.Test.Qxb6500326aGreatW7
import Derived.Handy
namespace Go.Proofs.Qxb6500326aGreat
set_option maxRecDepth 100000
set_option linter.unusedVariables false
set_option linter.unusedSimpArgs false
open Go.RowKit Go.PlainAid
def refTl (g : Nat → Int) (n : Nat) (ac ar : Bool) (col : Int) (j : Nat) : Option Ref :=
  if (j + 1 = n ∨ j + 2 = n) ∧ 49 ≤ g j ∧ g j ≤ 57 ∧ (j + 2 = n → 48 ≤ g (j + 1) ∧ g (j + 1) ≤ 57) then some ⟨col, (if j + 1 = n then g j - 49 else (g j - 48) * 10 + (g (j + 1) - 48) - 1), ac, ar⟩ else none
def refAt (g : Nat → Int) (n : Nat) (ac : Bool) (i : Nat) : Option Ref :=
  if i < n ∧ 65 ≤ g i ∧ g i ≤ 90 then (if i + 1 < n ∧ g (i + 1) = 36 then refTl g n ac true (g i - 65) (i + 2) else refTl g n ac false (g i - 65) (i + 1)) else none
theorem refTail_idx (g : Nat → Int) (L : List Int) (j : Nat) (hj : j ≤ L.length) (ac ar : Bool) (col : Int) (hg : ∀ i, i < L.length → L[i]? = some (g i)) :
    refTail ac ar col (L.drop j) = refTl g L.length ac ar col j := by
  have hlen : (L.drop j).length = L.length - j := by simp
  have hget : ∀ k, (L.drop j)[k]? = L[j + k]? := by intro k; simp
  unfold refTl
  cases hd : L.drop j with
  | nil =>
    rw [hd] at hlen; simp at hlen
    rw [if_neg (by omega)]; rfl
  | cons d t =>
    have h0 := hget 0
    rw [hd] at h0 hlen
    simp at hlen
    simp only [List.getElem?_cons_zero, Nat.add_zero] at h0
    rw [hg j (by omega)] at h0
    cases h0
    cases t with
    | nil =>
      simp at hlen
      have e : j + 1 = L.length := by omega
      have e2 : ¬ j + 2 = L.length := by omega
      simp only [refTail, e, e2, true_or, true_and, if_true, false_implies, and_true]
      by_cases c : 49 ≤ g j ∧ g j ≤ 57
      · rw [if_pos c, if_pos (by simp; exact c)]
      · rw [if_neg c, if_neg (by simp; omega)]
    | cons x u =>
      have h1 := hget 1
      rw [hd] at h1
      simp only [List.getElem?_cons_succ, List.getElem?_cons_zero] at h1
      simp at hlen
      rw [hg (j + 1) (by omega)] at h1
      cases h1
      cases u with
      | nil =>
        simp at hlen
        have e : ¬ j + 1 = L.length := by omega
        have e2 : j + 2 = L.length := by omega
        simp only [refTail, e, e2, or_true, true_and, if_false, true_implies]
        by_cases c : 49 ≤ g j ∧ g j ≤ 57 ∧ 48 ≤ g (j + 1) ∧ g (j + 1) ≤ 57
        · rw [if_pos c, if_pos (by simp [isDig]; omega)]
        · rw [if_neg c, if_neg (by simp [isDig]; omega)]
      | cons y z =>
        simp at hlen
        rw [if_neg (by omega)]; rfl
theorem refCol_idx (g : Nat → Int) (L : List Int) (j : Nat) (hj : j ≤ L.length) (ac : Bool) (hg : ∀ i, i < L.length → L[i]? = some (g i)) :
    refCol ac (L.drop j) = refAt g L.length ac j := by
  have hlen : (L.drop j).length = L.length - j := by simp
  have hget : ∀ k, (L.drop j)[k]? = L[j + k]? := by intro k; simp
  unfold refAt
  cases hd : L.drop j with
  | nil =>
    rw [hd] at hlen; simp at hlen
    rw [if_neg (by omega)]; rfl
  | cons c t =>
    have h0 := hget 0
    rw [hd] at h0 hlen
    simp at hlen
    simp only [List.getElem?_cons_zero, Nat.add_zero] at h0
    rw [hg j (by omega)] at h0
    cases h0
    have ht : t = L.drop (j + 1) := by
      have := congrArg (List.drop 1) hd
      simpa using this.symm
    by_cases cc : 65 ≤ g j ∧ g j ≤ 90
    · rw [if_pos ⟨by omega, cc⟩]
      simp only [refCol]
      rw [if_pos (isCap_iff.2 cc)]
      cases t with
      | nil =>
        simp at hlen
        rw [if_neg (by omega)]
        unfold refTl
        rw [if_neg (by omega)]
      | cons x u =>
        simp at hlen
        have h1 := hget 1
        rw [hd] at h1
        simp only [List.getElem?_cons_succ, List.getElem?_cons_zero] at h1
        rw [hg (j + 1) (by omega)] at h1
        cases h1
        have hu : u = L.drop (j + 2) := by
          have := congrArg (List.drop 1) ht
          simpa using this
        by_cases c36 : g (j + 1) = 36
        · rw [if_pos ⟨by omega, c36⟩]
          simp only [c36, if_true]
          rw [hu]; exact refTail_idx g L (j + 2) (by omega) ac true _ hg
        · rw [if_neg (fun e => c36 e.2)]
          simp only [c36, if_false]
          rw [ht]; exact refTail_idx g L (j + 1) (by omega) ac false _ hg
    · rw [if_neg (fun e => cc e.2)]
      simp only [refCol]
      rw [if_neg (fun e => cc (isCap_iff.1 e))]
theorem refOf_idx (g : Nat → Int) (L : List Int) (hg : ∀ i, i < L.length → L[i]? = some (g i)) :
    refOf L = if 0 < L.length ∧ g 0 = 36 then refAt g L.length true 1 else refAt g L.length false 0 := by
  cases L with
  | nil => simp [refOf, refAt]
  | cons c t =>
    have h0 := hg 0 (by simp)
    simp at h0
    subst h0
    have h1 := refCol_idx g (g 0 :: t) 1 (by simp) true hg
    have h2 := refCol_idx g (g 0 :: t) 0 (by simp) false hg
    simp only [List.drop_succ_cons, List.drop_zero] at h1 h2
    by_cases c36 : g 0 = 36
    · rw [if_pos ⟨by simp, c36⟩, ← h1]
      simp only [refOf, c36, if_true]
    · rw [if_neg (fun e => c36 e.2), ← h2]
      simp only [refOf, c36, if_false]
theorem refOf_bt (s : ByteArray) : refOf (lst s) = if 0 < s.size ∧ bt s 0 = 36 then refAt (bt s) s.size true 1 else refAt (bt s) s.size false 0 := by
  have := refOf_idx (bt s) (lst s) (fun i hi => bt_lst s i (by rw [lst_len] at hi; exact hi))
  rw [lst_len] at this
  exact this
end Go.Proofs.Qxb6500326aGreat
