/-
  DERIVED. PLAIN: small laws on bytes, tokens and the two states.
-/
import Derived.Test.Qxb6500326aGreatP2
namespace Go.Proofs.Qxb6500326aGreat
set_option linter.unusedVariables false
set_option linter.unusedSimpArgs false

section
variable {b : Nat → Int} {n : Nat}
theorem skipF_le : ∀ (f i : Nat), i ≤ n → skipF b n f i ≤ n
  | 0, i, h => h
  | f + 1, i, h => by unfold skipF; split; exact skipF_le f _ (by omega); exact h
theorem le_skipF : ∀ (f i : Nat), i ≤ skipF b n f i
  | 0, i => Nat.le_refl _
  | f + 1, i => by unfold skipF; split; exact Nat.le_trans (Nat.le_succ _) (le_skipF f _); exact Nat.le_refl _
theorem skipF_stop : ∀ (f i : Nat), n - i ≤ f → ¬ (skipF b n f i < n ∧ b (skipF b n f i) = 32)
  | 0, i, h => by unfold skipF; omega
  | f + 1, i, h => by
    unfold skipF; split
    · exact skipF_stop f _ (by omega)
    · assumption
theorem skipF_fix {f i : Nat} (h : ¬ (i < n ∧ b i = 32)) : skipF b n f i = i := by cases f <;> simp [skipF, h]
theorem skip_le {i : Nat} (h : i ≤ n) : skip b n i ≤ n := skipF_le _ _ h
theorem le_skip (i : Nat) : i ≤ skip b n i := le_skipF _ _
theorem skip_stop (i : Nat) : ¬ (skip b n i < n ∧ b (skip b n i) = 32) := skipF_stop _ _ (Nat.le_refl _)
theorem skip_idem (i : Nat) : skip b n (skip b n i) = skip b n i := skipF_fix (skip_stop i)
theorem skip_fix {i : Nat} (h : ¬ (i < n ∧ b i = 32)) : skip b n i = i := skipF_fix h
theorem runF_le {p : Int → Bool} : ∀ (f i : Nat), i ≤ n → runF p b n f i ≤ n
  | 0, i, h => h
  | f + 1, i, h => by unfold runF; split; exact runF_le f _ (by omega); exact h
theorem le_runF {p : Int → Bool} : ∀ (f i : Nat), i ≤ runF p b n f i
  | 0, i => Nat.le_refl _
  | f + 1, i => by unfold runF; split; exact Nat.le_trans (Nat.le_succ _) (le_runF f _); exact Nat.le_refl _
theorem lt_runF {p : Int → Bool} {i : Nat} (h : i < n) (hp : p (b i) = true) : i < runF p b n (n - i) i := by
  obtain ⟨f, hf⟩ : ∃ f, n - i = f + 1 := ⟨n - i - 1, by omega⟩
  rw [hf]; unfold runF; rw [if_pos ⟨h, hp⟩]; exact Nat.lt_of_lt_of_le (Nat.lt_succ_self _) (le_runF f _)
theorem runF_stop {p : Int → Bool} : ∀ (f i : Nat), n - i ≤ f → ¬ (runF p b n f i < n ∧ p (b (runF p b n f i)) = true)
  | 0, i, h => by unfold runF; omega
  | f + 1, i, h => by
    unfold runF; split
    · exact runF_stop f _ (by omega)
    · assumption
theorem runF_all {p : Int → Bool} : ∀ (f i k : Nat), i ≤ k → k < runF p b n f i → p (b k) = true
  | 0, i, k, h1, h2 => by simp only [runF] at h2; omega
  | f + 1, i, k, h1, h2 => by
    unfold runF at h2; split at h2
    · rename_i h
      by_cases e : k = i
      · exact e ▸ h.2
      · exact runF_all f (i + 1) k (by omega) h2
    · omega

/-- The byte at hand; 0 at the text's end. -/
def Ch (b : Nat → Int) (n i : Nat) : Int := if skip b n i < n then b (skip b n i) else 0

theorem isDig_iff {c : Int} : isDig c = true ↔ 48 ≤ c ∧ c ≤ 57 := by simp [isDig]
theorem isCap_iff {c : Int} : isCap c = true ↔ 65 ≤ c ∧ c ≤ 90 := by simp [isCap]
theorem wordy_iff {c : Int} : wordy c = true ↔ (65 ≤ c ∧ c ≤ 90) ∨ (48 ≤ c ∧ c ≤ 57) ∨ c = 36 := by simp [wordy, isDig, isCap, or_assoc]
theorem isCmp_iff {c : Int} : isCmp c = true ↔ c = 61 ∨ c = 60 ∨ c = 62 := by simp [isCmp, or_assoc]
theorem isSgn_iff {c : Int} : isSgn c = true ↔ c = 35 ∨ c = 40 ∨ c = 41 ∨ c = 44 ∨ c = 58 ∨ c = 43 ∨ c = 45 ∨ c = 42 ∨ c = 47 ∨ c = 61 ∨ c = 60 ∨ c = 62 := by
  simp [isSgn, isCmp, or_assoc]
theorem known_iff {c : Int} : known c = true ↔ wordy c = true ∨ isSgn c = true := by simp [known]
theorem mulOp_ne {c : Int} : mulOp c ≠ 0 ↔ c = 42 ∨ c = 47 := by unfold mulOp; split; simp_all; split <;> simp_all
theorem addOp_ne {c : Int} : addOp c ≠ 0 ↔ c = 43 ∨ c = 45 := by unfold addOp; split; simp_all; split <;> simp_all
theorem known_zero : known 0 = false := by decide

theorem lexNum_st (i : Nat) : (lexNum b n i).st = i := by simp only [lexNum]; split <;> rfl
theorem lexWord_st (i : Nat) : (lexWord b n i).st = i := by simp only [lexWord]; repeat' split
                                                            all_goals rfl
theorem lexSgn_st (c d : Int) (i : Nat) : (lexSgn c d i).st = i := by simp only [lexSgn]; repeat' split
                                                                      all_goals rfl
theorem lexNum_kind (i : Nat) : (lexNum b n i).kind = 2 ∨ (lexNum b n i).kind = 3 := by simp only [lexNum]; split <;> simp
theorem lexWord_kind (i : Nat) : (lexWord b n i).kind = 2 ∨ (lexWord b n i).kind = 3 ∨ (lexWord b n i).kind = 4 ∨ (lexWord b n i).kind = 5 := by
  simp only [lexWord]; repeat' split
  all_goals simp
theorem lexAt_st {i : Nat} (h : i ≤ n) : (lexAt b n i).st = i := by
  unfold lexAt; split
  · show n = i; omega
  · split
    · exact lexNum_st i
    · split
      · exact lexWord_st i
      · exact lexSgn_st _ _ i
theorem lex_st {i : Nat} (h : i ≤ n) : (lex b n i).st = skip b n i := lexAt_st (skip_le h)
theorem lex_idem (i : Nat) : lex b n (skip b n i) = lex b n i := by unfold lex; rw [skip_idem]

theorem lexSgn_cases (c d : Int) (i : Nat) :
    ((c = 40 ∨ c = 41 ∨ c = 44 ∨ c = 58) ∧ lexSgn c d i = ⟨c, i, i + 1, 0, 0, rz⟩) ∨
    (addOp c ≠ 0 ∧ lexSgn c d i = ⟨6, i, i + 1, 0, addOp c, rz⟩) ∨
    (mulOp c ≠ 0 ∧ lexSgn c d i = ⟨6, i, i + 1, 0, mulOp c, rz⟩) ∨
    (isCmp c = true ∧ lexSgn c d i = ⟨6, i, i + (cmpOp c d).2, 0, (cmpOp c d).1, rz⟩) ∨
    (c = 35 ∧ d = 35 ∧ lexSgn c d i = ⟨2, i, i + 2, 5, 0, rz⟩) ∨
    (c = 35 ∧ d ≠ 35 ∧ lexSgn c d i = ⟨3, i, i + 1, 0, 2, rz⟩) ∨
    (isSgn c = false ∧ lexSgn c d i = ⟨1, i, i + 1, 0, 0, rz⟩) := by
  unfold lexSgn
  by_cases h1 : c = 40 ∨ c = 41 ∨ c = 44 ∨ c = 58
  · exact .inl ⟨h1, by rw [if_pos h1]⟩
  rw [if_neg h1]
  by_cases h2 : addOp c ≠ 0
  · exact .inr (.inl ⟨h2, by rw [if_pos h2]⟩)
  rw [if_neg h2]
  by_cases h3 : mulOp c ≠ 0
  · exact .inr (.inr (.inl ⟨h3, by rw [if_pos h3]⟩))
  rw [if_neg h3]
  by_cases h4 : isCmp c = true
  · exact .inr (.inr (.inr (.inl ⟨h4, by rw [if_pos h4]⟩)))
  rw [if_neg h4]
  by_cases h5 : c = 35
  · rw [if_pos h5]
    by_cases h6 : d = 35
    · exact .inr (.inr (.inr (.inr (.inl ⟨h5, h6, by rw [if_pos h6]⟩))))
    · exact .inr (.inr (.inr (.inr (.inr (.inl ⟨h5, h6, by rw [if_neg h6]⟩)))))
  · rw [if_neg h5]
    refine .inr (.inr (.inr (.inr (.inr (.inr ⟨?_, rfl⟩)))))
    rw [Bool.eq_false_iff]; intro h
    rw [isSgn_iff] at h
    rw [addOp_ne] at h2; rw [mulOp_ne] at h3; rw [isCmp_iff] at h4
    omega

/-- What the token at hand is, by the byte at hand. -/
theorem lex_cases (i : Nat) :
    (n ≤ skip b n i ∧ Ch b n i = 0 ∧ lex b n i = ⟨0, n, n, 0, 0, rz⟩) ∨
    (skip b n i < n ∧ Ch b n i = b (skip b n i) ∧ isDig (Ch b n i) = true ∧ lex b n i = lexNum b n (skip b n i)) ∨
    (skip b n i < n ∧ Ch b n i = b (skip b n i) ∧ (isCap (Ch b n i) = true ∨ Ch b n i = 36) ∧ lex b n i = lexWord b n (skip b n i)) ∨
    (skip b n i < n ∧ Ch b n i = b (skip b n i) ∧ wordy (Ch b n i) = false ∧ lex b n i = lexSgn (Ch b n i) (nextB b n (skip b n i)) (skip b n i)) := by
  unfold lex lexAt Ch
  by_cases h : n ≤ skip b n i
  · exact .inl ⟨h, by rw [if_neg (by omega)], by rw [if_pos h]⟩
  · have h' : skip b n i < n := by omega
    simp only [if_neg h, if_pos h']
    by_cases h1 : isDig (b (skip b n i)) = true
    · exact .inr (.inl ⟨h', trivial, h1, by rw [if_pos h1]⟩)
    · by_cases h2 : wordy (b (skip b n i)) = true
      · refine .inr (.inr (.inl ⟨h', trivial, ?_, by rw [if_neg h1, if_pos h2]⟩))
        rw [wordy_iff] at h2; rw [isDig_iff] at h1; rw [isCap_iff]; omega
      · exact .inr (.inr (.inr ⟨h', trivial, by simpa using h2, by rw [if_neg h1, if_neg h2]⟩))

theorem lex_kind_of (i : Nat) (x : Int) (hx : x = 40 ∨ x = 41 ∨ x = 44 ∨ x = 58) : (lex b n i).kind = x ↔ Ch b n i = x := by
  rcases lex_cases (b := b) (n := n) i with ⟨h1, h2, h3⟩ | ⟨h1, h2, h3, h4⟩ | ⟨h1, h2, h3, h4⟩ | ⟨h1, h2, h3, h4⟩
  · rw [h2, h3]
  · rw [h4]; rw [isDig_iff] at h3
    rcases lexNum_kind (b := b) (n := n) (skip b n i) with h | h <;> rw [h] <;> omega
  · rw [h4]; rw [isCap_iff] at h3
    rcases lexWord_kind (b := b) (n := n) (skip b n i) with h | h | h | h <;> rw [h] <;> omega
  · rw [h4]
    rcases lexSgn_cases (Ch b n i) (nextB b n (skip b n i)) (skip b n i) with ⟨g, e⟩ | ⟨g, e⟩ | ⟨g, e⟩ | ⟨g, e⟩ | ⟨g, _, e⟩ | ⟨g, _, e⟩ | ⟨g, e⟩ <;> rw [e]
    · rw [addOp_ne] at g; show (6 : Int) = x ↔ _; omega
    · rw [mulOp_ne] at g; show (6 : Int) = x ↔ _; omega
    · rw [isCmp_iff] at g; show (6 : Int) = x ↔ _; omega
    · show (2 : Int) = x ↔ _; omega
    · show (3 : Int) = x ↔ _; omega
    · show (1 : Int) = x ↔ _
      rw [Bool.eq_false_iff, ne_eq, isSgn_iff] at g; omega
theorem lex_kind_zero (i : Nat) : (lex b n i).kind = 0 ↔ n ≤ skip b n i := by
  rcases lex_cases (b := b) (n := n) i with ⟨h1, h2, h3⟩ | ⟨h1, h2, h3, h4⟩ | ⟨h1, h2, h3, h4⟩ | ⟨h1, h2, h3, h4⟩
  · rw [h3]; simp [h1]
  · rw [h4]
    rcases lexNum_kind (b := b) (n := n) (skip b n i) with h | h <;> rw [h] <;> omega
  · rw [h4]
    rcases lexWord_kind (b := b) (n := n) (skip b n i) with h | h | h | h <;> rw [h] <;> omega
  · rw [h4]
    rcases lexSgn_cases (Ch b n i) (nextB b n (skip b n i)) (skip b n i) with ⟨g, e⟩ | ⟨g, e⟩ | ⟨g, e⟩ | ⟨g, e⟩ | ⟨g, _, e⟩ | ⟨g, _, e⟩ | ⟨g, e⟩ <;> rw [e] <;> simp only [] <;> omega
theorem lex_kind_one (i : Nat) : (lex b n i).kind = 1 ↔ skip b n i < n ∧ known (Ch b n i) = false := by
  have hk := known_iff (c := Ch b n i)
  rcases lex_cases (b := b) (n := n) i with ⟨h1, h2, h3⟩ | ⟨h1, h2, h3, h4⟩ | ⟨h1, h2, h3, h4⟩ | ⟨h1, h2, h3, h4⟩
  · rw [h3]; show (0 : Int) = 1 ↔ _; omega
  · rw [h4, Bool.eq_false_iff, ne_eq, hk, wordy_iff]; rw [isDig_iff] at h3
    rcases lexNum_kind (b := b) (n := n) (skip b n i) with h | h <;> rw [h] <;> simp [h3]
  · rw [h4, Bool.eq_false_iff, ne_eq, hk, wordy_iff]; rw [isCap_iff] at h3
    rcases lexWord_kind (b := b) (n := n) (skip b n i) with h | h | h | h <;> rw [h] <;> (simp only [show ¬ ((2 : Int) = 1) from by decide, show ¬ ((3 : Int) = 1) from by decide, show ¬ ((4 : Int) = 1) from by decide, show ¬ ((5 : Int) = 1) from by decide, false_iff]; intro ⟨_, hh⟩; exact hh (.inl (by omega)))
  · rw [h4, Bool.eq_false_iff, ne_eq, hk, h3, isSgn_iff]
    rcases lexSgn_cases (Ch b n i) (nextB b n (skip b n i)) (skip b n i) with ⟨g, e⟩ | ⟨g, e⟩ | ⟨g, e⟩ | ⟨g, e⟩ | ⟨g, _, e⟩ | ⟨g, _, e⟩ | ⟨g, e⟩ <;> rw [e]
    · simp only [Bool.false_eq_true, false_or]; omega
    · rw [addOp_ne] at g; simp only [Bool.false_eq_true, false_or]; omega
    · rw [mulOp_ne] at g; simp only [Bool.false_eq_true, false_or]; omega
    · rw [isCmp_iff] at g; simp only [Bool.false_eq_true, false_or]; omega
    · simp only [Bool.false_eq_true, false_or]; omega
    · simp only [Bool.false_eq_true, false_or]; omega
    · rw [Bool.eq_false_iff, ne_eq, isSgn_iff] at g
      simp only [Bool.false_eq_true, false_or, true_iff]
      exact ⟨h1, g⟩
theorem strOf_lex (i : Nat) : strOf (lex b n i) = if mulOp (Ch b n i) ≠ 0 then 3 else if addOp (Ch b n i) ≠ 0 then 2 else if isCmp (Ch b n i) = true then 1 else 0 := by
  unfold strOf
  simp only [mulOp_ne, addOp_ne, isCmp_iff]
  rcases lex_cases (b := b) (n := n) i with ⟨h1, h2, h3⟩ | ⟨h1, h2, h3, h4⟩ | ⟨h1, h2, h3, h4⟩ | ⟨h1, h2, h3, h4⟩
  · rw [h2, h3]; rfl
  · rw [h4]; rw [isDig_iff] at h3
    rcases lexNum_kind (b := b) (n := n) (skip b n i) with h | h <;> rw [h, if_neg (by decide), if_neg (by omega), if_neg (by omega), if_neg (by omega)]
  · rw [h4]; rw [isCap_iff] at h3
    rcases lexWord_kind (b := b) (n := n) (skip b n i) with h | h | h | h <;> rw [h, if_neg (by decide), if_neg (by omega), if_neg (by omega), if_neg (by omega)]
  · rw [h4]
    rcases lexSgn_cases (Ch b n i) (nextB b n (skip b n i)) (skip b n i) with ⟨g, e⟩ | ⟨g, e⟩ | ⟨g, e⟩ | ⟨g, e⟩ | ⟨g, _, e⟩ | ⟨g, _, e⟩ | ⟨g, e⟩ <;> rw [e]
    · rw [if_neg (show ¬ (Ch b n i = 6) by omega), if_neg (by omega), if_neg (by omega), if_neg (by omega)]
    · rw [addOp_ne] at g; rw [if_pos rfl, if_neg (by omega), if_pos (by omega)]
      show strength (addOp _) = 2
      rcases g with g | g <;> rw [g] <;> decide
    · rw [mulOp_ne] at g; rw [if_pos rfl, if_pos (by omega)]
      show strength (mulOp _) = 3
      rcases g with g | g <;> rw [g] <;> decide
    · rw [isCmp_iff] at g; rw [if_pos rfl, if_neg (by omega), if_neg (by omega), if_pos (by omega)]
      show strength (cmpOp _ _).1 = 1
      unfold cmpOp strength
      repeat' split
      all_goals first | rfl | (exfalso; simp_all)
    · rw [if_neg (show ¬ ((2 : Int) = 6) by decide), if_neg (by omega), if_neg (by omega), if_neg (by omega)]
    · rw [if_neg (show ¬ ((3 : Int) = 6) by decide), if_neg (by omega), if_neg (by omega), if_neg (by omega)]
    · rw [Bool.eq_false_iff, ne_eq, isSgn_iff] at g
      rw [if_neg (show ¬ ((1 : Int) = 6) by decide), if_neg (by omega), if_neg (by omega), if_neg (by omega)]
/-- An operator's token. -/
theorem lex_mul {i : Nat} (h : mulOp (Ch b n i) ≠ 0) : lex b n i = ⟨6, skip b n i, skip b n i + 1, 0, mulOp (Ch b n i), rz⟩ ∧ skip b n i < n := by
  have g := mulOp_ne.1 h
  rcases lex_cases (b := b) (n := n) i with ⟨h1, h2, h3⟩ | ⟨h1, h2, h3, h4⟩ | ⟨h1, h2, h3, h4⟩ | ⟨h1, h2, h3, h4⟩
  · rw [h2] at g; omega
  · rw [isDig_iff] at h3; omega
  · rw [isCap_iff] at h3; omega
  · refine ⟨?_, h1⟩
    rw [h4]; unfold lexSgn
    rw [if_neg (by omega), if_neg (by rw [addOp_ne]; omega), if_pos h]
theorem lex_plus {i : Nat} (h : addOp (Ch b n i) ≠ 0) : lex b n i = ⟨6, skip b n i, skip b n i + 1, 0, addOp (Ch b n i), rz⟩ ∧ skip b n i < n := by
  have g := addOp_ne.1 h
  rcases lex_cases (b := b) (n := n) i with ⟨h1, h2, h3⟩ | ⟨h1, h2, h3, h4⟩ | ⟨h1, h2, h3, h4⟩ | ⟨h1, h2, h3, h4⟩
  · rw [h2] at g; omega
  · rw [isDig_iff] at h3; omega
  · rw [isCap_iff] at h3; omega
  · refine ⟨?_, h1⟩
    rw [h4]; unfold lexSgn
    rw [if_neg (by omega), if_pos h]
theorem lex_cmp {i : Nat} (h : isCmp (Ch b n i) = true) : lex b n i = ⟨6, skip b n i, skip b n i + (cmpOp (Ch b n i) (nextB b n (skip b n i))).2, 0, (cmpOp (Ch b n i) (nextB b n (skip b n i))).1, rz⟩ ∧ skip b n i < n := by
  have g := isCmp_iff.1 h
  rcases lex_cases (b := b) (n := n) i with ⟨h1, h2, h3⟩ | ⟨h1, h2, h3, h4⟩ | ⟨h1, h2, h3, h4⟩ | ⟨h1, h2, h3, h4⟩
  · rw [h2] at g; omega
  · rw [isDig_iff] at h3; omega
  · rw [isCap_iff] at h3; omega
  · refine ⟨?_, h1⟩
    rw [h4]; unfold lexSgn
    rw [if_neg (by omega), if_neg (by rw [addOp_ne]; omega), if_neg (by rw [mulOp_ne]; omega), if_pos h]
theorem lex_byte {i : Nat} (h : Ch b n i = 40 ∨ Ch b n i = 41 ∨ Ch b n i = 44 ∨ Ch b n i = 58) : lex b n i = ⟨Ch b n i, skip b n i, skip b n i + 1, 0, 0, rz⟩ ∧ skip b n i < n := by
  rcases lex_cases (b := b) (n := n) i with ⟨h1, h2, h3⟩ | ⟨h1, h2, h3, h4⟩ | ⟨h1, h2, h3, h4⟩ | ⟨h1, h2, h3, h4⟩
  · rw [h2] at h; omega
  · rw [isDig_iff] at h3; omega
  · rw [isCap_iff] at h3; omega
  · refine ⟨?_, h1⟩
    rw [h4]; unfold lexSgn
    rw [if_pos h]
theorem cmpOp_w (c d : Int) : 1 ≤ (cmpOp c d).2 ∧ (cmpOp c d).2 ≤ 2 := by unfold cmpOp; repeat' split
                                                                          all_goals simp
theorem cmpOp_fits {c : Int} {i : Nat} (hi : i < n) : i + (cmpOp c (nextB b n i)).2 ≤ n := by
  unfold cmpOp nextB
  by_cases h : i + 1 < n
  · have := cmpOp_w c (b (i + 1)); unfold cmpOp at this; rw [if_pos h]; omega
  · rw [if_neg h]; simp; repeat' split
    all_goals simp <;> omega

/-! ### The model's look and add -/
theorem go_i (st : PS) (i : Nat) : (st.go i).i = i := rfl
theorem look_end {st : PS} (h0 : st.err = 0) (h : n ≤ skip b n st.i) : st.look b n = (st.go (skip b n st.i), Ch b n st.i) := by
  simp [PS.look, Ch, PS.go, h0, h, Nat.not_lt.2 h]
theorem look_known {st : PS} (h0 : st.err = 0) (h : skip b n st.i < n) (hk : known (Ch b n st.i) = true) : st.look b n = (st.go (skip b n st.i), Ch b n st.i) := by
  have e : Ch b n st.i = b (skip b n st.i) := by simp [Ch, h]
  rw [e] at hk ⊢
  simp [PS.look, PS.go, h0, Nat.not_le.2 h, hk]
theorem look_fault {st : PS} (h0 : st.err = 0) (h : skip b n st.i < n) (hk : known (Ch b n st.i) = false) : st.look b n = ((st.go (skip b n st.i)).fail 2 (skip b n st.i), 0) := by
  have e : Ch b n st.i = b (skip b n st.i) := by simp [Ch, h]
  rw [e] at hk
  simp [PS.look, PS.go, h0, Nat.not_le.2 h, hk]
/-- The two ways of a look. -/
theorem look_two {st : PS} (h0 : st.err = 0) :
    (st.look b n = (st.go (skip b n st.i), Ch b n st.i) ∧ (lex b n st.i).kind ≠ 1 ∧ (n ≤ skip b n st.i ∨ known (Ch b n st.i) = true)) ∨
    (st.look b n = (⟨skip b n st.i, st.n, 2, skip b n st.i⟩, 0) ∧ (lex b n st.i).kind = 1) := by
  by_cases h : n ≤ skip b n st.i
  · exact .inl ⟨look_end h0 h, by rw [ne_eq, lex_kind_one]; omega, .inl h⟩
  · cases hk : known (Ch b n st.i)
    · refine .inr ⟨?_, by rw [lex_kind_one]; exact ⟨by omega, hk⟩⟩
      rw [look_fault h0 (by omega) hk]; simp [PS.fail, PS.go, h0]
    · exact .inl ⟨look_known h0 (by omega) hk, by rw [ne_eq, lex_kind_one, hk]; simp, .inr rfl⟩
theorem Ch_idem (i : Nat) : Ch b n (skip b n i) = Ch b n i := by unfold Ch; rw [skip_idem]
theorem add_err {st : PS} (h : st.err ≠ 0) (x : Nd) : st.add x = (st, -1) := by simp [PS.add, h]
theorem fail_err {st : PS} (h : st.err ≠ 0) (e : Int) (p : Nat) : st.fail e p = st := by simp [PS.fail, h]
theorem look_err {st : PS} (h : st.err ≠ 0) : st.look b n = (st.go (skip b n st.i), 0) := by simp [PS.look, h]
end
end Go.Proofs.Qxb6500326aGreat
