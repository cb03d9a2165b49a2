import Derived.Test.Qxb6500326aGreatGSets
namespace Go.Proofs.Qxb6500326aGreat.Gr
set_option linter.unusedVariables false
set_option linter.unusedSimpArgs false

/-! ### a growing row of sets of cells stands still by 24 -/
theorem pc_All : pcTo All 32 = 24 := by decide
theorem all_of_pc {x : BitVec 32} (hx : ∀ i, x.getLsbD i = true → i < 24) (h : 24 ≤ pcTo x 32) : x = All := by
  have e : All = x ||| (All &&& ~~~x) := set_ext (fun i _ => by
    rw [mem_or, mem_andNot, mem_All]
    cases hi : x.getLsbD i
    · simp
    · simp [hx i hi])
  have h1 : pcTo All 32 = pcTo x 32 + pcTo (All &&& ~~~x) 32 := by
    rw [← pcTo_or]
    · rw [← e]
    · intro i hi; rw [mem_andNot, hi]; simp
  rw [pc_All] at h1
  have h2 := pc_zero_of (All &&& ~~~x) (by omega)
  rw [e, h2]; simp
theorem grows {s : Nat → BitVec 32} (hm : ∀ r i, (s r).getLsbD i = true → (s (r + 1)).getLsbD i = true) (ha : ∀ r i, (s r).getLsbD i = true → i < 24)
    (hd : ∀ r q, s r = s q → s (r + 1) = s (q + 1)) : s 25 = s 24 := by
  have hst : ∀ q, s (q + 1) = s q → ∀ n, q ≤ n → s (n + 1) = s n := by
    intro q hq n hn
    induction n with
    | zero => rw [show q = 0 by omega] at hq; exact hq
    | succ n ih =>
      by_cases e : q = n + 1
      · subst e; exact hq
      · exact hd _ _ (ih (by omega))
  have key : ∀ r, (∃ q, q < r ∧ s (q + 1) = s q) ∨ r ≤ pcTo (s r) 32 := by
    intro r
    induction r with
    | zero => exact .inr (Nat.zero_le _)
    | succ r ih =>
      rcases ih with ⟨q, h1, h2⟩ | h
      · exact .inl ⟨q, by omega, h2⟩
      · by_cases e : s (r + 1) = s r
        · exact .inl ⟨r, by omega, e⟩
        · right
          have e1 : s (r + 1) = s r ||| (s (r + 1) &&& ~~~s r) := set_ext (fun i _ => by
            rw [mem_or, mem_andNot]
            cases hi : (s r).getLsbD i
            · simp
            · simp [hm r i hi])
          have h1 : pcTo (s (r + 1)) 32 = pcTo (s r) 32 + pcTo (s (r + 1) &&& ~~~s r) 32 := by
            rw [← pcTo_or]
            · rw [← e1]
            · intro i hi; rw [mem_andNot, hi]; simp
          rcases Nat.eq_zero_or_pos (pcTo (s (r + 1) &&& ~~~s r) 32) with h2 | h2
          · have h3 := pc_zero_of _ h2
            rw [h3] at e1
            simp at e1
            exact absurd e1 e
          · omega
  rcases key 24 with ⟨q, h1, h2⟩ | h
  · exact hst q h2 24 (by omega)
  · have h1 := all_of_pc (ha 24) h
    refine set_ext (fun i _ => ?_)
    cases hi : (s 25).getLsbD i
    · cases hj : (s 24).getLsbD i
      · rfl
      · rw [hm 24 i hj] at hi; cases hi
    · rw [h1, mem_All]; simp [ha 25 i hi]

/-! ### levels -/
section
variable (R : Nat → BitVec 32)
theorem ripens_iff {l : Nat → Int} {s : BitVec 32} {c : Nat} : ripens R l s c = true ↔ l c < 0 ∧ ∀ d, (R c).getLsbD d = true → s.getLsbD d = true := by
  unfold ripens
  rw [Bool.and_eq_true, decide_eq_true_eq, beq_iff_eq, sub_iff]
theorem mem_snd (r c : Nat) : (lvs R (r + 1)).2.getLsbD c = ((lvs R r).2.getLsbD c || (decide (c < 24) && ripens R (lvs R r).1 (lvs R r).2 c)) := mem_acc _ _ 24 (by omega) c
theorem lvs_fst (r c : Nat) : (lvs R (r + 1)).1 c = if ripens R (lvs R r).1 (lvs R r).2 c then (r : Int) else (lvs R r).1 c := rfl
theorem lvs_inv (r : Nat) : ∀ c, c < 24 → ((lvs R r).2.getLsbD c = true ↔ 0 ≤ (lvs R r).1 c) ∧ -1 ≤ (lvs R r).1 c ∧ (lvs R r).1 c < r := by
  induction r with
  | zero => intro c _; simp [lvs]
  | succ r ih =>
    intro c hc
    obtain ⟨h1, h2, h3⟩ := ih c hc
    rw [mem_snd, lvs_fst]
    cases hr : ripens R (lvs R r).1 (lvs R r).2 c
    · simp only [hc, decide_true, Bool.and_false, Bool.or_false, Bool.false_eq_true, if_false]
      refine ⟨h1, h2, by omega⟩
    · simp only [hc, decide_true, Bool.and_true, Bool.or_true, if_true]
      refine ⟨by simp, by omega, by omega⟩
theorem snd_all (r c : Nat) (h : (lvs R r).2.getLsbD c = true) : c < 24 := by
  induction r with
  | zero => simp [lvs] at h
  | succ r ih =>
    rw [mem_snd, Bool.or_eq_true] at h
    rcases h with h | h
    · exact ih h
    · rw [Bool.and_eq_true] at h; simpa using h.1
theorem snd_mono (r c : Nat) (h : (lvs R r).2.getLsbD c = true) : (lvs R (r + 1)).2.getLsbD c = true := by rw [mem_snd, h]; rfl
theorem snd_le {r q : Nat} (hrq : r ≤ q) (c : Nat) (h : (lvs R r).2.getLsbD c = true) : (lvs R q).2.getLsbD c = true := by
  induction q with
  | zero => rw [show r = 0 by omega] at h; exact h
  | succ q ih =>
    by_cases e : r = q + 1
    · subst e; exact h
    · exact snd_mono R q c (ih (by omega))
theorem snd_reads (r c : Nat) (h : (lvs R (r + 1)).2.getLsbD c = true) : ∀ d, (R c).getLsbD d = true → (lvs R r).2.getLsbD d = true := by
  induction r with
  | zero =>
    rw [mem_snd, Bool.or_eq_true, Bool.and_eq_true] at h
    rcases h with h | h
    · simp [lvs] at h
    · exact ((ripens_iff R).1 h.2).2
  | succ r ih =>
    rw [mem_snd, Bool.or_eq_true, Bool.and_eq_true] at h
    rcases h with h | h
    · intro d hd; exact snd_mono R r d (ih h d hd)
    · exact ((ripens_iff R).1 h.2).2
theorem snd_iff (r c : Nat) : (lvs R (r + 1)).2.getLsbD c = true ↔ c < 24 ∧ ∀ d, (R c).getLsbD d = true → (lvs R r).2.getLsbD d = true := by
  constructor
  · intro h; exact ⟨snd_all R _ c h, snd_reads R r c h⟩
  · rintro ⟨hc, h⟩
    by_cases hs : (lvs R r).2.getLsbD c = true
    · exact snd_mono R r c hs
    · have hl : (lvs R r).1 c < 0 := by
        have := (lvs_inv R r c hc).1
        rcases Int.lt_or_le ((lvs R r).1 c) 0 with h1 | h1
        · exact h1
        · exact absurd (this.2 h1) hs
      rw [mem_snd, Bool.or_eq_true, Bool.and_eq_true]
      exact .inr ⟨by simpa using hc, (ripens_iff R).2 ⟨hl, h⟩⟩
theorem snd_still : (lvs R 25).2 = (lvs R 24).2 := by
  refine grows (s := fun r => (lvs R r).2) (snd_mono R) (snd_all R) (fun r q h => ?_)
  have h' : (lvs R r).2 = (lvs R q).2 := h
  refine set_ext (fun i _ => ?_)
  rw [Bool.eq_iff_iff, snd_iff, snd_iff, h']
/-- A cell that reads sound cells alone is sound. -/
theorem sound_of {c : Nat} (hc : c < 24) (h : ∀ d, (R c).getLsbD d = true → (lvs R 24).2.getLsbD d = true) : (lvs R 24).2.getLsbD c = true := by
  rw [← snd_still]; exact (snd_iff R 24 c).2 ⟨hc, h⟩
theorem sound_reads {c : Nat} (h : (lvs R 24).2.getLsbD c = true) : ∀ d, (R c).getLsbD d = true → (lvs R 24).2.getLsbD d = true := by
  rw [← snd_still] at h; exact snd_reads R 24 c h
theorem sound_iff {c : Nat} (hc : c < 24) : (lvs R 24).2.getLsbD c = true ↔ 0 ≤ lev R c := (lvs_inv R 24 c hc).1
theorem lev_bd {c : Nat} (hc : c < 24) : -1 ≤ lev R c ∧ lev R c < 24 := by
  have := (lvs_inv R 24 c hc).2
  unfold lev
  omega
theorem mem_cyc (c : Nat) : (cyc R).getLsbD c = (decide (c < 24) && decide (lev R c < 0)) := by
  unfold cyc
  rw [mem_acc _ _ 24 (by omega)]
  simp
/-- A level once given stays. -/
theorem lvs_stay {r q c : Nat} (hrq : r ≤ q) (hc : c < 24) (h : 0 ≤ (lvs R r).1 c) : (lvs R q).1 c = (lvs R r).1 c := by
  induction q with
  | zero => rw [show r = 0 by omega]
  | succ q ih =>
    by_cases e : r = q + 1
    · rw [e]
    · have := ih (by omega)
      rw [lvs_fst]
      have hn : ripens R (lvs R q).1 (lvs R q).2 c = false := by
        rw [Bool.eq_false_iff, Ne, ripens_iff]
        rintro ⟨h1, -⟩
        omega
      rw [hn]
      simp only [Bool.false_eq_true, if_false]
      exact this
/-- The round of a level. -/
theorem lvs_round {r c : Nat} (hc : c < 24) {q : Nat} (h : (lvs R r).1 c = (q : Int)) : q < r ∧ (lvs R (q + 1)).2.getLsbD c = true ∧ (lvs R q).2.getLsbD c = false := by
  induction r with
  | zero => simp [lvs] at h
  | succ r ih =>
    rw [lvs_fst] at h
    cases hr : ripens R (lvs R r).1 (lvs R r).2 c
    · rw [hr] at h
      simp only [Bool.false_eq_true, if_false] at h
      obtain ⟨h1, h2, h3⟩ := ih h
      exact ⟨by omega, h2, h3⟩
    · rw [hr] at h
      simp only [if_true] at h
      have e : q = r := by omega
      subst e
      refine ⟨by omega, ?_, ?_⟩
      · rw [mem_snd, hr]; simp [hc]
      · rw [Bool.eq_false_iff, Ne, (lvs_inv R q c hc).1]
        have := ((ripens_iff R).1 hr).1
        omega
theorem topTo_spec (l : Nat → Int) (r : BitVec 32) (k : Nat) : (∀ d, d < k → r.getLsbD d = true → l d < topTo l r k) ∧ 0 ≤ topTo l r k ∧ (topTo l r k = 0 ∨ ∃ d, d < k ∧ r.getLsbD d = true ∧ l d = topTo l r k - 1) := by
  induction k with
  | zero => exact ⟨fun d h => absurd h (by omega), by simp [topTo], .inl rfl⟩
  | succ k ih =>
    obtain ⟨h1, h2, h3⟩ := ih
    rw [show topTo l r (k + 1) = if r.getLsbD k && decide (topTo l r k ≤ l k) then l k + 1 else topTo l r k from rfl]
    cases hr : (r.getLsbD k && decide (topTo l r k ≤ l k))
    · simp only [Bool.false_eq_true, if_false]
      refine ⟨fun d hd hrd => ?_, h2, ?_⟩
      · by_cases e : d = k
        · subst e
          rw [hrd] at hr
          simp at hr
          exact hr
        · exact h1 d (by omega) hrd
      · rcases h3 with h3 | ⟨d, h4, h5⟩
        · exact .inl h3
        · exact .inr ⟨d, by omega, h5⟩
    · simp only [if_true]
      rw [Bool.and_eq_true, decide_eq_true_eq] at hr
      refine ⟨fun d hd hrd => ?_, by omega, .inr ⟨k, by omega, hr.1, by omega⟩⟩
      by_cases e : d = k
      · subst e; omega
      · have := h1 d (by omega) hrd; omega
theorem topTo_eq {l : Nat → Int} {r : BitVec 32} {k : Nat} {q : Int} (h1 : ∀ d, d < k → r.getLsbD d = true → l d < q) (h2 : 0 ≤ q) (h3 : q = 0 ∨ ∃ d, d < k ∧ r.getLsbD d = true ∧ l d = q - 1) : topTo l r k = q := by
  obtain ⟨a1, a2, a3⟩ := topTo_spec l r k
  rcases Int.lt_trichotomy (topTo l r k) q with h | h | h
  · rcases h3 with h3 | ⟨d, b1, b2, b3⟩
    · omega
    · have := a1 d b1 b2; omega
  · exact h
  · rcases a3 with a3 | ⟨d, b1, b2, b3⟩
    · omega
    · have := h1 d b1 b2; omega
theorem topTo_congr {l l' : Nat → Int} {r : BitVec 32} {k : Nat} (h : ∀ d, d < k → r.getLsbD d = true → l d = l' d) : topTo l r k = topTo l' r k := by
  obtain ⟨a1, a2, a3⟩ := topTo_spec l' r k
  refine topTo_eq (fun d hd hr => ?_) a2 ?_
  · rw [h d hd hr]; exact a1 d hd hr
  · rcases a3 with a3 | ⟨d, b1, b2, b3⟩
    · exact .inl a3
    · exact .inr ⟨d, b1, b2, by rw [h d b1 b2]; exact b3⟩
theorem lev_top (hR : ∀ c, c < 24 → ∀ d, (R c).getLsbD d = true → d < 24) {c : Nat} (hc : c < 24) (h : 0 ≤ lev R c) : lev R c = topTo (lev R) (R c) 24 := by
  obtain ⟨q, hq⟩ := Int.eq_ofNat_of_zero_le h
  obtain ⟨h1, h2, h3⟩ := lvs_round R (r := 24) hc hq
  symm
  rw [hq]
  have hlt : ∀ d, d < 24 → (R c).getLsbD d = true → 0 ≤ (lvs R q).1 d ∧ lev R d = (lvs R q).1 d ∧ (lvs R q).1 d < q := by
    intro d hd hr
    have hs := snd_reads R q c h2 d hr
    have hp := (lvs_inv R q d hd).1.1 hs
    exact ⟨hp, lvs_stay R (by omega) hd hp, (lvs_inv R q d hd).2.2⟩
  refine topTo_eq (fun d hd hr => ?_) (by omega) ?_
  · have := hlt d hd hr; omega
  · rcases Nat.eq_zero_or_pos q with e | e
    · exact .inl (by omega)
    · right
      obtain ⟨p, rfl⟩ : ∃ p, q = p + 1 := ⟨q - 1, by omega⟩
      have hn : ¬ ∀ d, (R c).getLsbD d = true → (lvs R p).2.getLsbD d = true := by
        intro hall
        have := (snd_iff R p c).2 ⟨hc, hall⟩
        rw [this] at h3; cases h3
      obtain ⟨d, hd⟩ := Classical.not_forall.1 hn
      obtain ⟨hr, hns⟩ := Classical.not_imp.1 hd
      have hd24 := hR c hc d hr
      obtain ⟨b1, b2, b3⟩ := hlt d hd24 hr
      refine ⟨d, hd24, hr, ?_⟩
      obtain ⟨m, hm⟩ := Int.eq_ofNat_of_zero_le b1
      have hm' : (lvs R (p + 1)).1 d = (m : Int) := hm
      obtain ⟨c1, c2, c3⟩ := lvs_round R hd24 hm'
      have : ¬ m < p := fun hlt' => hns (snd_le R (by omega) d c2)
      omega
theorem levLaw (hR : ∀ c, c < 24 → ∀ d, (R c).getLsbD d = true → d < 24) : LevLaw R := by
  refine ⟨fun c hc => lev_bd R hc, fun c hc => ?_, fun c hc h => lev_top R hR hc ?_⟩
  · rw [and_bit_bne (by omega), mem_cyc]
    have := lev_bd R hc
    by_cases e : lev R c = -1
    · simp [hc, e]
    · have : ¬ lev R c < 0 := by omega
      simp [e, this]
  · have := lev_bd R hc; omega
/-- Every cyclic cell reads a cyclic cell. -/
theorem cyc_reads (hR : ∀ c, c < 24 → ∀ d, (R c).getLsbD d = true → d < 24) {c : Nat} (h : (cyc R).getLsbD c = true) : ∃ d, (R c).getLsbD d = true ∧ (cyc R).getLsbD d = true := by
  rw [mem_cyc, Bool.and_eq_true, decide_eq_true_eq, decide_eq_true_eq] at h
  refine Classical.byContradiction (fun hn => ?_)
  have hall : ∀ d, (R c).getLsbD d = true → (lvs R 24).2.getLsbD d = true := by
    intro d hd
    have hd24 := hR c h.1 d hd
    rw [sound_iff R hd24]
    rcases Int.lt_or_le (lev R d) 0 with h1 | h1
    · exact absurd ⟨d, hd, by rw [mem_cyc]; simp [hd24, h1]⟩ hn
    · exact h1
  have := (sound_iff R h.1).1 (sound_of R h.1 hall)
  omega
/-- A set of cells each of which reads one of them is cyclic. -/
theorem cyc_of {Z : Nat → Prop} (hZ : ∀ d, Z d → ∃ e, (R d).getLsbD e = true ∧ Z e) {d : Nat} (hd : d < 24) (h : Z d) : lev R d < 0 := by
  have key : ∀ r d, Z d → (lvs R r).2.getLsbD d = false := by
    intro r
    induction r with
    | zero => intro d _; simp [lvs]
    | succ r ih =>
      intro d hz
      obtain ⟨e, h1, h2⟩ := hZ d hz
      rw [Bool.eq_false_iff]
      intro hs
      have := snd_reads R r d hs e h1
      rw [ih e h2] at this; cases this
  rcases Int.lt_or_le (lev R d) 0 with h1 | h1
  · exact h1
  · have := (sound_iff R hd).2 h1
    rw [key 24 d h] at this; cases this
end
/-- Levels hang on what is read alone. -/
theorem lev_local {R R' : Nat → BitVec 32} {N : Nat → Prop} (hN : ∀ d, N d → d < 24 → R d = R' d ∧ ∀ e, (R d).getLsbD e = true → N e) {d : Nat} (hd : d < 24) (h : N d) : lev R d = lev R' d := by
  have key : ∀ r d, N d → d < 24 → (lvs R r).1 d = (lvs R' r).1 d := by
    intro r
    induction r with
    | zero => intro d _ _; rfl
    | succ r ih =>
      intro d hn hd
      obtain ⟨h1, h2⟩ := hN d hn hd
      have e1 := ih d hn hd
      have e2 : ripens R (lvs R r).1 (lvs R r).2 d = ripens R' (lvs R' r).1 (lvs R' r).2 d := by
        rw [Bool.eq_iff_iff, ripens_iff, ripens_iff, e1, ← h1]
        have : ∀ e, (R d).getLsbD e = true → ((lvs R r).2.getLsbD e = true ↔ (lvs R' r).2.getLsbD e = true) := by
          intro e he
          by_cases h24 : e < 24
          · rw [(lvs_inv R r e h24).1, (lvs_inv R' r e h24).1, ih e (h2 e he) h24]
          · constructor
            · intro h; exact absurd (snd_all R r e h) h24
            · intro h; exact absurd (snd_all R' r e h) h24
        constructor
        · rintro ⟨a, b⟩; exact ⟨a, fun e he => (this e he).1 (b e he)⟩
        · rintro ⟨a, b⟩; exact ⟨a, fun e he => (this e he).2 (b e he)⟩
      rw [lvs_fst, lvs_fst, e1, e2]
  exact key 24 d h hd
end Go.Proofs.Qxb6500326aGreat.Gr
