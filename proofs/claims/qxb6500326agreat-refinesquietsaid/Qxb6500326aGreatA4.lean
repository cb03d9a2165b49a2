import Derived.Test.Qxb6500326aGreatA3
namespace Go.Proofs.Qxb6500326aGreat
set_option maxRecDepth 100000
set_option linter.unusedVariables false
set_option linter.unusedSimpArgs false

/-- What the compiler asks of a node. -/
structure CmpOK (L : List Nd) (x : Nd) : Prop where
  a : x.kind = 8 ∨ x.kind = 9 → 0 ≤ x.a ∧ x.a < (L.length : Int)
  b : x.kind = 9 → x.b < (L.length : Int)
theorem leaf_cmp {L : List Nd} {x : Nd} {a : Bool} (h : Leaf x a) : CmpOK L x := by
  have hk : (1 ≤ x.kind ∧ x.kind ≤ 5) := by
    rcases h with ⟨v, rfl, _⟩ | rfl | rfl | ⟨r, rfl, _⟩ | rfl | ⟨_, r, s, rfl, _⟩ <;> exact ⟨by simp [nNum, nBool, nRef, nBad, nRange], by simp [nNum, nBool, nRef, nBad, nRange]⟩
  exact ⟨fun e => by omega, fun e => by omega⟩
theorem mid_cmp {L : List Nd} {x : Nd} (ha : x.kind = 8 ∨ x.kind = 9 → 0 ≤ x.a ∧ x.a < (L.length : Int)) (hb : x.kind = 9 → x.b < (L.length : Int)) : CmpOK L x := ⟨ha, hb⟩
theorem lk_cmp {L : List Nd} {f : Nat} {rg : Bool} (hS : ∀ i lo a, Sp L f i lo a → ∀ j, lo ≤ j → j ≤ i → CmpOK L (nd L j)) : ∀ (k i lo : Nat), Lk (Sp L f) L rg k i lo → ∀ j, lo ≤ j → j ≤ i → CmpOK L (nd L j)
  | 0, _, _, h => h.elim
  | k + 1, i, lo, h => by
    obtain ⟨a1, a2, m, h3, h4⟩ := h
    intro j h1 h2
    have hle := Sp.le _ _ _ _ h3
    by_cases e : j = i
    · subst e
      rcases h4 with ⟨_, e, _⟩ | ⟨_, hm, e, _⟩
      · rw [e]; exact mid_cmp (fun _ => ⟨by show (0 : Int) ≤ (j : Int) - 1; omega, by show (j : Int) - 1 < _; omega⟩) (fun _ => by show (-1 : Int) < _; omega)
      · rw [e]; exact mid_cmp (fun _ => ⟨by show (0 : Int) ≤ (j : Int) - 1; omega, by show (j : Int) - 1 < _; omega⟩) (fun _ => by show ((m : Int) - 1) < _; omega)
    · by_cases c : m ≤ j
      · exact hS _ _ _ h3 j c (by omega)
      · rcases h4 with ⟨_, _, rfl⟩ | ⟨_, hm, _, d⟩
        · omega
        · exact lk_cmp hS k _ _ d j h1 (by omega)
theorem sp_cmp {L : List Nd} : ∀ (f i lo : Nat) (a : Bool), Sp L f i lo a → ∀ j, lo ≤ j → j ≤ i → CmpOK L (nd L j)
  | 0, _, _, _, h => h.elim
  | f + 1, i, lo, a, h => by
    obtain ⟨h0, h⟩ := h
    intro j h1 h2
    rcases h with ⟨e, hl⟩ | ⟨a1, a2, a3⟩ | ⟨op, m, a1, a2, a3, a4, a5, a6, a7⟩ | ⟨op, k, a1, a2, a3, a4⟩
    · rw [show j = i from by omega]; exact leaf_cmp hl
    · by_cases e : j = i
      · subst e; rw [a2]; exact mid_cmp (fun e => by rcases e with e | e <;> exact absurd e (by show ¬ ((6 : Int) = _); decide)) (fun e => absurd e (by show ¬ ((6 : Int) = 9); decide))
      · exact sp_cmp f _ _ _ a3 j h1 (by omega)
    · have hle6 := Sp.le _ _ _ _ a6
      by_cases e : j = i
      · subst e; rw [a5]; exact mid_cmp (fun e => by rcases e with e | e <;> exact absurd e (by show ¬ ((7 : Int) = _); decide)) (fun e => absurd e (by show ¬ ((7 : Int) = 9); decide))
      · by_cases c : m ≤ j
        · exact sp_cmp f _ _ _ a6 j c (by omega)
        · exact sp_cmp f _ _ _ a7 j h1 (by omega)
    · by_cases e : j = i
      · subst e; rw [a2]; exact mid_cmp (fun _ => ⟨by show (0 : Int) ≤ (j : Int) - 1; omega, by show (j : Int) - 1 < _; omega⟩) (fun e => absurd e (by show ¬ ((8 : Int) = 9); decide))
      · exact lk_cmp (fun i lo a h => sp_cmp f i lo a h) _ _ _ a4 j h1 (by omega)
theorem linkC_len (L : List Nd) (i : Nat) (s : Cm) : (linkC L i s).code.length ≤ s.code.length + 2 := by
  have hX : (if decide (0 ≤ (nd L i).b) = true then s.own (nd L i).b.toNat (s.ow i) else s).code.length = s.code.length := by split <;> rfl
  unfold linkC
  dsimp only
  generalize (if decide (0 ≤ (nd L i).b) = true then s.own (nd L i).b.toNat (s.ow i) else s) = X at hX ⊢
  split
  · split
    · show X.code.length + 1 + 1 ≤ _; omega
    · show X.code.length + 1 ≤ _; omega
  · omega
theorem cmp1_len (L : List Nd) (i : Nat) (s : Cm) : (cmp1 L i s).code.length ≤ s.code.length + 2 := by
  have h1 : ∀ (X : Cm) (op a : Int) (v : Vl) (t : BitVec 32), X.code.length = s.code.length → (X.emit op a v t).code.length ≤ s.code.length + 2 := fun X op a v t h => by show X.code.length + 1 ≤ _; omega
  unfold cmp1
  dsimp only
  split
  · exact h1 s _ _ _ _ rfl
  split
  · exact h1 s _ _ _ _ rfl
  split
  · exact h1 s _ _ _ _ rfl
  split
  · unfold referC; split <;> exact h1 s _ _ _ _ rfl
  split
  · exact h1 s _ _ _ _ rfl
  split
  · exact h1 s _ _ _ _ rfl
  split
  · exact h1 _ _ _ _ _ rfl
  split
  · exact linkC_len L i s
  · omega
end Go.Proofs.Qxb6500326aGreat
