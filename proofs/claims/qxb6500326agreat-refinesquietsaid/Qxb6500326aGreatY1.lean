import Derived.Test.Qxb6500326aGreatP7
namespace Go.Proofs.Qxb6500326aGreat
set_option maxRecDepth 100000
set_option linter.unusedVariables false
set_option linter.unusedSimpArgs false
/-! ### The automaton that knows a reference -/
def stepP (q c : Int) : Int :=
  if q = 0 ∨ q = 1 then (if q = 0 ∧ c = 36 then 1 else if isCap c = true then 2 else 6)
  else if q = 2 ∨ q = 3 then (if q = 2 ∧ c = 36 then 3 else if 49 ≤ c ∧ c ≤ 57 then 4 else 6)
  else if q = 4 then (if isDig c = true then 5 else 6) else 6
def refP (q : Int) (c : Int) (r : Ref) : Ref :=
  if q = 1 then ⟨r.col, r.row, true, r.absR⟩ else if q = 2 then ⟨c - 65, r.row, r.absC, r.absR⟩
  else if q = 3 then ⟨r.col, r.row, r.absC, true⟩ else if q = 4 ∨ q = 5 then ⟨r.col, r.row * 10 + (c - 48), r.absC, r.absR⟩ else r
def autoL : List Int → Int → Ref → Int × Ref
  | [], q, r => (q, r)
  | c :: w, q, r => autoL w (stepP q c) (refP (stepP q c) c r)
def autoE (s : Int × Ref) : Option Ref := if s.1 = 4 ∨ s.1 = 5 then some ⟨s.2.col, s.2.row - 1, s.2.absC, s.2.absR⟩ else none
theorem auto_append (w v : List Int) (q : Int) (r : Ref) : autoL (w ++ v) q r = autoL v (autoL w q r).1 (autoL w q r).2 := by
  induction w generalizing q r with
  | nil => rfl
  | cons c w ih => exact ih _ _
theorem step6 (c : Int) : stepP 6 c = 6 := by unfold stepP; rw [if_neg (by decide), if_neg (by decide), if_neg (by decide)]
theorem auto6 (w : List Int) (r : Ref) : autoE (autoL w 6 r) = none := by
  induction w generalizing r with
  | nil => show (if (6 : Int) = 4 ∨ (6 : Int) = 5 then _ else _) = _; rw [if_neg (by decide)]
  | cons c w ih => unfold autoL; rw [step6]; exact ih _
theorem auto5 (w : List Int) (r : Ref) : autoE (autoL w 5 r) = if w = [] then some ⟨r.col, r.row - 1, r.absC, r.absR⟩ else none := by
  cases w with
  | nil => rfl
  | cons c w =>
    rw [if_neg (by simp)]
    unfold autoL
    rw [show stepP 5 c = 6 from by unfold stepP; rw [if_neg (by decide), if_neg (by decide), if_neg (by decide)]]
    exact auto6 _ _
theorem auto4 (w : List Int) (r : Ref) : autoE (autoL w 4 r) = match w with
    | [] => some ⟨r.col, r.row - 1, r.absC, r.absR⟩
    | [e] => if isDig e = true then some ⟨r.col, r.row * 10 + (e - 48) - 1, r.absC, r.absR⟩ else none
    | _ => none := by
  cases w with
  | nil => rfl
  | cons c w =>
    unfold autoL
    have hs : stepP 4 c = if isDig c = true then 5 else 6 := by unfold stepP; rw [if_neg (by decide), if_neg (by decide), if_pos rfl]
    rw [hs]
    by_cases h : isDig c = true
    · rw [if_pos h, auto5]
      cases w with
      | nil => rw [if_pos rfl]; simp only [h, if_pos]; rfl
      | cons d w => rw [if_neg (by simp)]
    · rw [if_neg h, auto6]
      cases w with
      | nil => simp only [h]; rfl
      | cons d w => rfl
theorem refTail_one (ac ar : Bool) (col d : Int) : refTail ac ar col [d] = if (decide (49 ≤ d) && decide (d ≤ 57)) = true then some ⟨col, d - 49, ac, ar⟩ else none := rfl
theorem refTail_two (ac ar : Bool) (col d e : Int) : refTail ac ar col [d, e] = if (decide (49 ≤ d) && decide (d ≤ 57) && isDig e) = true then some ⟨col, (d - 48) * 10 + (e - 48) - 1, ac, ar⟩ else none := rfl
theorem auto23 (q : Int) (hq : q = 2 ∨ q = 3) (w : List Int) (r : Ref) (h0 : r.row = 0) (hd : ∀ c t, w = c :: t → ¬ (q = 2 ∧ c = 36)) : autoE (autoL w q r) = refTail r.absC r.absR r.col w := by
  cases w with
  | nil => show (if q = 4 ∨ q = 5 then _ else _) = _; rw [if_neg (by omega)]; rfl
  | cons c w =>
    have hs : stepP q c = if 49 ≤ c ∧ c ≤ 57 then 4 else 6 := by unfold stepP; rw [if_neg (by omega), if_pos hq, if_neg (hd c w rfl)]
    unfold autoL
    rw [hs]
    by_cases h : 49 ≤ c ∧ c ≤ 57
    · rw [if_pos h, auto4]
      have hr : refP 4 c r = ⟨r.col, c - 48, r.absC, r.absR⟩ := by unfold refP; rw [if_neg (by decide), if_neg (by decide), if_neg (by decide), if_pos (.inl rfl), h0, Int.zero_mul, Int.zero_add]
      rw [hr]
      have h1 : decide (49 ≤ c) = true := decide_eq_true h.1
      have h2 : decide (c ≤ 57) = true := decide_eq_true h.2
      cases w with
      | nil => rw [refTail_one, h1, h2]; simp; omega
      | cons d w =>
        cases w with
        | nil => rw [refTail_two, h1, h2]; simp
        | cons e w => rfl
    · rw [if_neg h, auto6]
      have h1 : (decide (49 ≤ c) && decide (c ≤ 57)) = false := by
        by_cases e1 : 49 ≤ c
        · rw [decide_eq_false (show ¬ c ≤ 57 by omega)]; simp
        · rw [decide_eq_false e1]; simp
      cases w with
      | nil => rw [refTail_one, h1]; rfl
      | cons d w =>
        cases w with
        | nil => rw [refTail_two, h1]; rfl
        | cons e w => rfl
theorem refCol_no {ac : Bool} {c : Int} {t : List Int} (h : ¬ isCap c = true) : refCol ac (c :: t) = none := by show (if isCap c = true then _ else _) = _; rw [if_neg h]
theorem refCol_one {ac : Bool} {c : Int} (h : isCap c = true) : refCol ac [c] = none := by show (if isCap c = true then _ else _) = _; rw [if_pos h]
theorem refCol_two {ac : Bool} {c x : Int} {u : List Int} (h : isCap c = true) : refCol ac (c :: x :: u) = if x = 36 then refTail ac true (c - 65) u else refTail ac false (c - 65) (x :: u) := by
  show (if isCap c = true then _ else _) = _; rw [if_pos h]
theorem refOf_cons (c : Int) (t : List Int) : refOf (c :: t) = if c = 36 then refCol true t else refCol false (c :: t) := rfl
theorem auto_col (q : Int) (hq : q = 0 ∨ q = 1) (w : List Int) (r : Ref) (h0 : r.row = 0) (hR : r.absR = false) (hd : ∀ c t, w = c :: t → ¬ (q = 0 ∧ c = 36)) : autoE (autoL w q r) = refCol r.absC w := by
  cases w with
  | nil => show (if q = 4 ∨ q = 5 then _ else _) = _; rw [if_neg (by omega)]; rfl
  | cons c w =>
    have hs : stepP q c = if isCap c = true then 2 else 6 := by unfold stepP; rw [if_pos hq, if_neg (hd c w rfl)]
    unfold autoL
    rw [hs]
    by_cases h : isCap c = true
    · rw [if_pos h]
      have hr : refP 2 c r = ⟨c - 65, 0, r.absC, false⟩ := by unfold refP; rw [if_neg (by decide), if_pos rfl, h0, hR]
      rw [hr]
      cases w with
      | nil => rw [refCol_one h]; rfl
      | cons x u =>
        by_cases hx : x = 36
        · subst hx
          rw [refCol_two h, if_pos rfl]
          unfold autoL
          rw [show stepP 2 36 = 3 from by decide]
          rw [auto23 3 (.inr rfl) u _ rfl (by intro c t _ e; omega)]
          rfl
        · rw [refCol_two h, if_neg hx]
          rw [auto23 2 (.inl rfl) (x :: u) _ rfl (by intro c t e c2; injection e with e1 e2; omega)]
    · rw [if_neg h, auto6, refCol_no h]
theorem auto_ref (w : List Int) : autoE (autoL w 0 rz) = refOf w := by
  cases w with
  | nil => rfl
  | cons c t =>
    by_cases h : c = 36
    · subst h
      rw [refOf_cons, if_pos rfl]
      unfold autoL
      rw [show stepP 0 36 = 1 from by decide]
      exact auto_col 1 (.inr rfl) t _ rfl rfl (by intro c t _ e; omega)
    · rw [refOf_cons, if_neg h]
      exact auto_col 0 (.inl rfl) (c :: t) rz rfl rfl (by intro c' t' e c2; injection e with e1 e2; omega)
/-- What the automaton's worths keep to. -/
structure AutoOK (q : Int) (r : Ref) : Prop where
  q0 : 0 ≤ q
  q6 : q ≤ 6
  r0 : 0 ≤ r.row
  lo : q ≤ 3 → r.row = 0
  mid : q = 4 → r.row ≤ 9
  hi : r.row ≤ 99
theorem autoOK_step {q : Int} {r : Ref} (h : AutoOK q r) (c : Int) : AutoOK (stepP q c) (refP (stepP q c) c r) := by
  have hh := h.hi
  have h0 := h.r0
  have hl := h.lo
  have hm := h.mid
  have e6 : AutoOK 6 (refP 6 c r) := by
    have : refP 6 c r = r := by unfold refP; rw [if_neg (by decide), if_neg (by decide), if_neg (by decide), if_neg (by decide)]
    rw [this]; exact ⟨by decide, by decide, h0, fun e => absurd e (by decide), fun e => absurd e (by decide), hh⟩
  unfold stepP
  split
  · rename_i hq
    have hz : r.row = 0 := hl (by omega)
    split
    · show AutoOK 1 (refP 1 c r); exact ⟨by decide, by decide, by show 0 ≤ r.row; exact h0, fun _ => hz, fun e => absurd e (by decide), hh⟩
    · split
      · show AutoOK 2 (refP 2 c r); exact ⟨by decide, by decide, by show 0 ≤ r.row; exact h0, fun _ => hz, fun e => absurd e (by decide), hh⟩
      · exact e6
  · split
    · rename_i hq
      have hz : r.row = 0 := hl (by omega)
      split
      · show AutoOK 3 (refP 3 c r); exact ⟨by decide, by decide, by show 0 ≤ r.row; exact h0, fun _ => hz, fun e => absurd e (by decide), hh⟩
      · split
        · have hr : (refP 4 c r).row = c - 48 := by show r.row * 10 + (c - 48) = c - 48; rw [hz]; omega
          exact ⟨by decide, by decide, by rw [hr]; omega, fun e => absurd e (by decide), fun _ => by rw [hr]; omega, by rw [hr]; omega⟩
        · exact e6
    · split
      · rename_i hq
        have hm := hm hq
        split
        · rename_i hd
          unfold isDig at hd; simp at hd
          have hr : (refP 5 c r).row = r.row * 10 + (c - 48) := rfl
          exact ⟨by decide, by decide, by rw [hr]; omega, fun e => absurd e (by decide), fun e => absurd e (by decide), by rw [hr]; omega⟩
        · exact e6
      · exact e6
/-- The word's first k bytes. -/
theorem cut_succ (b : Nat → Int) {a e : Nat} (h : a ≤ e) : cut b a (e + 1) = cut b a e ++ [b e] := by
  unfold cut
  rw [show e + 1 - a = (e - a) + 1 from by omega, List.range_succ, List.map_append]
  simp
  congr 1; omega
end Go.Proofs.Qxb6500326aGreat
