import Derived.Test.Qxb6500326aGreatZ5
import Derived.Test.Qxb6500326aGreatX8
namespace Go.Proofs.Qxb6500326aGreat
set_option linter.unusedVariables false
set_option linter.unusedSimpArgs false
open Go.RowKit Go.PlainAid
variable {L : List Nd}
theorem leaf_ok {x : Nd} {a : Bool} (h : Leaf x a) : NdOK L x := by
  have hk : (1 ≤ x.kind ∧ x.kind ≤ 5) := by
    rcases h with ⟨v, rfl, _⟩ | rfl | rfl | ⟨r, rfl, _⟩ | rfl | ⟨_, r, s, rfl, _⟩ <;> exact ⟨by simp [nNum, nBool, nRef, nBad, nRange], by simp [nNum, nBool, nRef, nBad, nRange]⟩
  refine ⟨fun e => by omega, fun e => by omega, fun e => by omega, fun e => by omega, fun _ _ _ _ => ⟨?_, ?_, ?_, hk⟩⟩
  · intro e
    rcases h with ⟨v, rfl, h1, h2⟩ | rfl | rfl | ⟨r, rfl, _⟩ | rfl | ⟨_, r, s, rfl, _⟩
    · exact ⟨h1, h2⟩
    all_goals exact absurd e (by simp [nBool, nRef, nBad, nRange])
  · intro e
    rcases h with ⟨v, rfl, h1, h2⟩ | rfl | rfl | ⟨r, rfl, hr⟩ | rfl | ⟨_, r, s, rfl, hr, hs⟩
    · exact absurd e (by show ¬ ((1 : Int) = 3 ∨ (1 : Int) = 4); decide)
    · exact absurd e (by show ¬ ((2 : Int) = 3 ∨ (2 : Int) = 4); decide)
    · exact absurd e (by show ¬ ((2 : Int) = 3 ∨ (2 : Int) = 4); decide)
    · exact hr
    · exact absurd e (by show ¬ ((5 : Int) = 3 ∨ (5 : Int) = 4); decide)
    · exact hr
  · intro e
    rcases h with ⟨v, rfl, h1, h2⟩ | rfl | rfl | ⟨r, rfl, hr⟩ | rfl | ⟨_, r, s, rfl, hr, hs⟩
    · exact absurd e (by show ¬ ((1 : Int) = 4); decide)
    · exact absurd e (by show ¬ ((2 : Int) = 4); decide)
    · exact absurd e (by show ¬ ((2 : Int) = 4); decide)
    · exact absurd e (by show ¬ ((3 : Int) = 4); decide)
    · exact absurd e (by show ¬ ((5 : Int) = 4); decide)
    · exact hs
theorem mid_ok {x : Nd} (hk : x.kind = 6 ∨ x.kind = 7 ∨ x.kind = 8 ∨ x.kind = 9) (ha : 0 ≤ x.a ∧ x.a < (L.length : Int)) (hb : x.kind = 7 → 0 ≤ x.b) (hb2 : x.b < (L.length : Int)) (ho : x.kind = 7 → 1 ≤ x.op ∧ x.op ≤ 10) : NdOK L x :=
  ⟨fun _ => ha, fun e => ⟨hb e, hb2⟩, fun _ => hb2, ho, fun a b c d => by omega⟩
theorem lk_nd {f : Nat} {rg : Bool} (hS : ∀ i lo a, Sp L f i lo a → ∀ j, lo ≤ j → j ≤ i → NdOK L (nd L j)) : ∀ (k i lo : Nat), Lk (Sp L f) L rg k i lo → ∀ j, lo ≤ j → j ≤ i → NdOK L (nd L j)
  | 0, _, _, h => h.elim
  | k + 1, i, lo, h => by
    obtain ⟨a1, a2, m, h3, h4⟩ := h
    intro j h1 h2
    have hle := Sp.le _ _ _ _ h3
    by_cases e : j = i
    · subst e
      rcases h4 with ⟨_, e, _⟩ | ⟨_, hm, e, _⟩
      · rw [e]; exact mid_ok (.inr (.inr (.inr rfl))) ⟨by show (0 : Int) ≤ (j : Int) - 1; omega, by show (j : Int) - 1 < _; omega⟩ (fun e => absurd e (by show ¬ ((9 : Int) = 7); decide)) (by show (-1 : Int) < _; omega) (fun e => absurd e (by show ¬ ((9 : Int) = 7); decide))
      · rw [e]; exact mid_ok (.inr (.inr (.inr rfl))) ⟨by show (0 : Int) ≤ (j : Int) - 1; omega, by show (j : Int) - 1 < _; omega⟩ (fun e => absurd e (by show ¬ ((9 : Int) = 7); decide)) (by show ((m : Int) - 1) < _; omega) (fun e => absurd e (by show ¬ ((9 : Int) = 7); decide))
    · by_cases c : m ≤ j
      · exact hS _ _ _ h3 j c (by omega)
      · rcases h4 with ⟨_, _, rfl⟩ | ⟨_, hm, _, d⟩
        · omega
        · exact lk_nd hS k _ _ d j h1 (by omega)
theorem sp_nd : ∀ (f i lo : Nat) (a : Bool), Sp L f i lo a → ∀ j, lo ≤ j → j ≤ i → NdOK L (nd L j)
  | 0, _, _, _, h => h.elim
  | f + 1, i, lo, a, h => by
    obtain ⟨h0, h⟩ := h
    intro j h1 h2
    rcases h with ⟨e, hl⟩ | ⟨a1, a2, a3⟩ | ⟨op, m, a1, a2, a3, a4, a5, a6, a7⟩ | ⟨op, k, a1, a2, a3, a4⟩
    · rw [show j = i from by omega]; exact leaf_ok hl
    · by_cases e : j = i
      · subst e; rw [a2]; exact mid_ok (.inl rfl) ⟨by show (0 : Int) ≤ (j : Int) - 1; omega, by show (j : Int) - 1 < _; omega⟩ (fun e => absurd e (by show ¬ ((6 : Int) = 7); decide)) (by show (-1 : Int) < _; omega) (fun e => absurd e (by show ¬ ((6 : Int) = 7); decide))
      · exact sp_nd f _ _ _ a3 j h1 (by omega)
    · have hle6 := Sp.le _ _ _ _ a6
      by_cases e : j = i
      · subst e; rw [a5]; exact mid_ok (.inr (.inl rfl)) ⟨by show (0 : Int) ≤ (m : Int) - 1; omega, by show (m : Int) - 1 < _; omega⟩ (fun _ => by show (0 : Int) ≤ (j : Int) - 1; omega) (by show (j : Int) - 1 < _; omega) (fun _ => ⟨a1, a2⟩)
      · by_cases c : m ≤ j
        · exact sp_nd f _ _ _ a6 j c (by omega)
        · exact sp_nd f _ _ _ a7 j h1 (by omega)
    · by_cases e : j = i
      · subst e; rw [a2]; exact mid_ok (.inr (.inr (.inl rfl))) ⟨by show (0 : Int) ≤ (j : Int) - 1; omega, by show (j : Int) - 1 < _; omega⟩ (fun e => absurd e (by show ¬ ((8 : Int) = 7); decide)) (by show (-1 : Int) < _; omega) (fun e => absurd e (by show ¬ ((8 : Int) = 7); decide))
      · exact lk_nd (sp_nd f) _ _ _ a4 j h1 (by omega)
theorem turn_leaf {i : Nat} {s s' : FS} (h : Turn L i s s') (h6 : (nd L i).kind ≠ 6) (h7 : (nd L i).kind ≠ 7) (h8 : (nd L i).kind ≠ 8) (h9 : (nd L i).kind ≠ 9) : s'.N = s.N ∧ ∃ m, climbF L s.N m i (leafTxt (nd L i) ++ (if (s.N i).2 = true then 41 :: s.T else s.T)) = some s'.T := by
  unfold Turn at h
  simp only [] at h
  rw [if_neg h6, if_neg h7, if_neg h8, if_neg h9] at h
  have e : (if (s.N i).2 = true ∨ (nd L i).kind = 8 then 41 :: s.T else s.T) = (if (s.N i).2 = true then 41 :: s.T else s.T) := by
    by_cases c : (s.N i).2 = true
    · rw [if_pos (.inl c), if_pos c]
    · rw [if_neg (fun d => d.elim c h8), if_neg c]
  rw [e] at h
  exact h
theorem bracket_ne {lv need : Int} {X : List Int} (h : X ≠ []) : bracket lv need X ≠ [] := by
  unfold bracket
  split
  · simp
  · exact h
theorem leafTxt_ne {x : Nd} {a : Bool} (h : Leaf x a) : leafTxt x ≠ [] := by
  rcases h with ⟨v, rfl, h1, h2⟩ | rfl | rfl | ⟨r, rfl, hr⟩ | rfl | ⟨_, r, s, rfl, hr, hs⟩
  · exact (dec_digits h1 h2).1
  · show wFalse ≠ []; decide
  · show wTrue ≠ []; decide
  · show refTxt r ≠ []; unfold refTxt; simp
  · show [35, 35] ≠ ([] : List Int); simp
  · show refTxt r ++ 58 :: refTxt s ≠ []; simp
theorem opTxt_ne (op : Int) : opTxt op ≠ [] := by
  unfold opTxt
  repeat' split
  all_goals simp
theorem tx_ne {f i lo : Nat} {a : Bool} {need : Int} (hn : need ≤ 5) (h : Sp L f i lo a) : tx L i need ≠ [] := by
  cases f with
  | zero => exact h.elim
  | succ f =>
    obtain ⟨h0, h⟩ := h
    rcases h with ⟨e, hl⟩ | ⟨a1, a2, a3⟩ | ⟨op, m, a1, a2, a3, a4, a5, a6, a7⟩ | ⟨op, k, a1, a2, a3, a4⟩
    · rw [tx_leaf hl hn]; exact leafTxt_ne hl
    · rw [tx_neg a1 a2]; exact bracket_ne (by simp)
    · rw [tx_bin a3 a4 a5 a6 a7]; exact bracket_ne (by simp [opTxt_ne])
    · rw [tx_call a1 a2 a4 hn]; simp
end Go.Proofs.Qxb6500326aGreat
