import Derived.Test.Qxb6500326aGreatGMend
namespace Go.Proofs.Qxb6500326aGreat.Gr
set_option linter.unusedVariables false
set_option linter.unusedSimpArgs false
section
variable (R : Nat → BitVec 32) (s : BitVec 32)
/-- The cells of Order(s). -/
def inOrd (c : Nat) : Prop := c < 24 ∧ s.getLsbD c = true ∧ 0 ≤ lev R c
theorem ordRow_succ (q k : Nat) : ordRow R s q (k + 1) = if lev R k == (q : Int) && (s &&& bit k != 0#32) then ordRow R s q k ++ [k] else ordRow R s q k := rfl
/-- Is c of round q? -/
def hit (q c : Nat) : Bool := lev R c == (q : Int) && (s &&& bit c != 0#32)
theorem hit_iff {q c : Nat} (hc : c < 24) : hit R s q c = true ↔ lev R c = (q : Int) ∧ s.getLsbD c = true := by
  unfold hit
  rw [Bool.and_eq_true, beq_iff_eq, and_bit_bne (by omega)]
theorem row_len_succ (q k : Nat) : (ordRow R s q (k + 1)).length = (ordRow R s q k).length + if hit R s q k then 1 else 0 := by
  rw [ordRow_succ]
  show (if hit R s q k then _ else _ : List Nat).length = _
  cases hit R s q k <;> simp
theorem row_len_mono (q : Nat) {k n : Nat} (h : k ≤ n) : (ordRow R s q k).length ≤ (ordRow R s q n).length := by
  induction n with
  | zero => rw [show k = 0 by omega]; exact Nat.le_refl _
  | succ n ih =>
    by_cases e : k = n + 1
    · subst e; exact Nat.le_refl _
    · have := ih (by omega)
      rw [row_len_succ]; omega
theorem row_at (q : Nat) : ∀ k, k ≤ 24 → ∀ j, j < (ordRow R s q k).length → ∃ c, c < k ∧ (ordRow R s q k)[j]? = some c ∧ hit R s q c = true ∧ (ordRow R s q c).length = j := by
  intro k
  induction k with
  | zero => intro _ j hj; simp [ordRow] at hj
  | succ k ih =>
    intro hk j hj
    rw [row_len_succ] at hj
    rw [ordRow_succ]
    show ∃ c, c < k + 1 ∧ (if hit R s q k then ordRow R s q k ++ [k] else ordRow R s q k : List Nat)[j]? = some c ∧ _ ∧ _
    cases hh : hit R s q k
    · rw [hh] at hj
      simp at hj
      obtain ⟨c, h1, h2, h3⟩ := ih (by omega) j hj
      exact ⟨c, by omega, h2, h3⟩
    · rw [hh] at hj
      simp at hj
      simp only [if_true]
      by_cases e : j < (ordRow R s q k).length
      · obtain ⟨c, h1, h2, h3⟩ := ih (by omega) j e
        exact ⟨c, by omega, by rw [List.getElem?_append_left e]; exact h2, h3⟩
      · have ej : j = (ordRow R s q k).length := by omega
        exact ⟨k, by omega, by rw [ej]; simp, hh, ej.symm⟩
theorem to_succ_len (q : Nat) : (ordTo R s (q + 1)).length = (ordTo R s q).length + (ordRow R s q 24).length := by
  show (ordTo R s q ++ ordRow R s q 24).length = _
  simp
theorem to_len_mono {q n : Nat} (h : q ≤ n) : (ordTo R s q).length ≤ (ordTo R s n).length := by
  induction n with
  | zero => rw [show q = 0 by omega]; exact Nat.le_refl _
  | succ n ih =>
    by_cases e : q = n + 1
    · subst e; exact Nat.le_refl _
    · have := ih (by omega)
      rw [to_succ_len]; omega
/-- The place of c in Order(s). -/
def pos (c : Nat) : Nat := (ordTo R s (lev R c).toNat).length + (ordRow R s (lev R c).toNat c).length
theorem to_at : ∀ Q i, i < (ordTo R s Q).length → ∃ c, (ordTo R s Q)[i]? = some c ∧ inOrd R s c ∧ pos R s c = i ∧ (lev R c).toNat < Q := by
  intro Q
  induction Q with
  | zero => intro i hi; simp [ordTo] at hi
  | succ q ih =>
    intro i hi
    show ∃ c, (ordTo R s q ++ ordRow R s q 24)[i]? = some c ∧ _
    by_cases h : i < (ordTo R s q).length
    · obtain ⟨c, h1, h2, h3, h4⟩ := ih i h
      exact ⟨c, by rw [List.getElem?_append_left h]; exact h1, h2, h3, by omega⟩
    · rw [to_succ_len] at hi
      obtain ⟨c, h1, h2, h3, h4⟩ := row_at R s q 24 (Nat.le_refl _) (i - (ordTo R s q).length) (by omega)
      rw [hit_iff R s h1] at h3
      refine ⟨c, by rw [List.getElem?_append_right (by omega)]; exact h2, ⟨h1, h3.2, by omega⟩, ?_, ?_⟩
      · unfold pos
        have e : (lev R c).toNat = q := by omega
        rw [e, h4]; omega
      · omega
theorem ord_at {i : Nat} (h : i < (ord R s).length) : inOrd R s (nth (ord R s) i) ∧ pos R s (nth (ord R s) i) = i := by
  obtain ⟨c, h1, h2, h3, -⟩ := to_at R s 24 i h
  have e : nth (ord R s) i = c := by
    unfold nth
    rw [List.getD_eq_getElem?_getD]
    show ((ordTo R s 24)[i]?).getD 0 = c
    rw [h1]; rfl
  rw [e]; exact ⟨h2, h3⟩
theorem pos_bd {c : Nat} (h : inOrd R s c) : (ordTo R s (lev R c).toNat).length ≤ pos R s c ∧ pos R s c < (ordTo R s ((lev R c).toNat + 1)).length ∧ pos R s c < (ord R s).length := by
  obtain ⟨h1, h2, h3⟩ := h
  have hb := lev_bd R h1
  have hh : hit R s (lev R c).toNat c = true := (hit_iff R s h1).2 ⟨by omega, h2⟩
  have e1 := row_len_succ R s (lev R c).toNat c
  rw [hh] at e1
  simp at e1
  have e2 := row_len_mono R s (lev R c).toNat (show c + 1 ≤ 24 by omega)
  have e3 := to_succ_len R s (lev R c).toNat
  have e4 : (ordTo R s ((lev R c).toNat + 1)).length ≤ (ordTo R s 24).length := to_len_mono R s (by omega)
  have e5 : (ord R s).length = (ordTo R s 24).length := rfl
  unfold pos
  omega
theorem pos_lt_of_lev {c d : Nat} (hc : inOrd R s c) (hd : inOrd R s d) (h : lev R c < lev R d) : pos R s c < pos R s d := by
  have h1 := pos_bd R s hc
  have h2 := pos_bd R s hd
  have e : (ordTo R s ((lev R c).toNat + 1)).length ≤ (ordTo R s (lev R d).toNat).length := to_len_mono R s (by have := hc.2.2; omega)
  omega
theorem pos_lt_of_idx {c d : Nat} (hc : inOrd R s c) (h : lev R c = lev R d) (hlt : c < d) : pos R s c < pos R s d := by
  have hh : hit R s (lev R c).toNat c = true := (hit_iff R s hc.1).2 ⟨by have := hc.2.2; omega, hc.2.1⟩
  have e1 := row_len_succ R s (lev R c).toNat c
  rw [hh] at e1
  simp at e1
  have e2 := row_len_mono R s (lev R c).toNat (show c + 1 ≤ d by omega)
  unfold pos
  rw [← h]
  omega
theorem pos_inj {c d : Nat} (hc : inOrd R s c) (hd : inOrd R s d) (h : pos R s c = pos R s d) : c = d := by
  rcases Int.lt_trichotomy (lev R c) (lev R d) with h1 | h1 | h1
  · have := pos_lt_of_lev R s hc hd h1; omega
  · rcases Nat.lt_trichotomy c d with h2 | h2 | h2
    · have := pos_lt_of_idx R s hc h1 h2; omega
    · exact h2
    · have := pos_lt_of_idx R s hd h1.symm h2; omega
  · have := pos_lt_of_lev R s hd hc h1; omega
/-- At its place stands c. -/
theorem nth_pos {c : Nat} (h : inOrd R s c) : nth (ord R s) (pos R s c) = c := by
  have h1 := ord_at R s (pos_bd R s h).2.2
  exact pos_inj R s h1.1 h h1.2
/-! ### how many -/
def sumRow (k : Nat) : Nat → Nat
  | 0 => 0
  | q + 1 => sumRow k q + (ordRow R s q k).length
theorem sumRow_to (Q : Nat) : sumRow R s 24 Q = (ordTo R s Q).length := by
  induction Q with
  | zero => rfl
  | succ q ih => rw [to_succ_len, ← ih]; rfl
theorem sumRow_succ (k : Nat) (hk : k < 24) : ∀ Q, sumRow R s (k + 1) Q = sumRow R s k Q + if s.getLsbD k = true ∧ 0 ≤ lev R k ∧ lev R k < Q then 1 else 0 := by
  intro Q
  induction Q with
  | zero =>
    have : ¬ (s.getLsbD k = true ∧ 0 ≤ lev R k ∧ lev R k < ((0 : Nat) : Int)) := by omega
    rw [if_neg this]; rfl
  | succ q ih =>
    show sumRow R s (k + 1) q + (ordRow R s q (k + 1)).length = sumRow R s k q + (ordRow R s q k).length + _
    rw [ih, row_len_succ]
    by_cases hh : hit R s q k = true
    · have h1 := (hit_iff R s hk).1 hh
      have a : ¬ (s.getLsbD k = true ∧ 0 ≤ lev R k ∧ lev R k < (q : Int)) := by omega
      have b : s.getLsbD k = true ∧ 0 ≤ lev R k ∧ lev R k < ((q + 1 : Nat) : Int) := ⟨h1.2, by omega, by omega⟩
      rw [if_neg a, if_pos b, if_pos hh]; omega
    · have h1 : ¬ (lev R k = (q : Int) ∧ s.getLsbD k = true) := fun h => hh ((hit_iff R s hk).2 h)
      rw [if_neg hh]
      by_cases a : s.getLsbD k = true ∧ 0 ≤ lev R k ∧ lev R k < (q : Int)
      · rw [if_pos a, if_pos ⟨a.1, a.2.1, by omega⟩]; omega
      · have b : ¬ (s.getLsbD k = true ∧ 0 ≤ lev R k ∧ lev R k < ((q + 1 : Nat) : Int)) := by
          rintro ⟨b1, b2, b3⟩
          by_cases e : lev R k = (q : Int)
          · exact h1 ⟨e, b1⟩
          · exact a ⟨b1, b2, by omega⟩
        rw [if_neg a, if_neg b]; omega
/-- The set that is put in order. -/
def ordSet : BitVec 32 := s &&& All &&& ~~~cyc R
theorem mem_ordSet (c : Nat) : (ordSet R s).getLsbD c = true ↔ inOrd R s c := by
  unfold ordSet inOrd
  rw [mem_andNot, mem_and, mem_All, mem_cyc, Bool.and_eq_true, Bool.and_eq_true, decide_eq_true_eq]
  by_cases h : c < 24
  · have := lev_bd R h
    simp [h]
  · simp [h]
theorem pc_sumRow (k : Nat) (hk : k ≤ 24) : pcTo (ordSet R s) k = sumRow R s k 24 := by
  induction k with
  | zero =>
    have : ∀ Q, sumRow R s 0 Q = 0 := by
      intro Q
      induction Q with
      | zero => rfl
      | succ q ih => show sumRow R s 0 q + (ordRow R s q 0).length = 0; rw [ih]; rfl
    rw [this]; rfl
  | succ k ih =>
    rw [sumRow_succ R s k (by omega), ← ih (by omega)]
    show pcTo (ordSet R s) k + _ = _
    congr 1
    have hb := lev_bd R (show k < 24 by omega)
    by_cases h : (ordSet R s).getLsbD k = true
    · have h1 := (mem_ordSet R s k).1 h
      rw [if_pos h, if_pos ⟨h1.2.1, h1.2.2, by omega⟩]
    · rw [if_neg h, if_neg]
      rintro ⟨a, b, -⟩
      exact h ((mem_ordSet R s k).2 ⟨by omega, a, b⟩)
theorem ord_len : (ord R s).length = pcTo (ordSet R s) 24 := by
  rw [pc_sumRow R s 24 (Nat.le_refl _), sumRow_to]; rfl
theorem ord_nil : (ord R s).length = 0 ↔ ordSet R s = 0#32 := by
  constructor
  · intro h
    rw [eq_zero_iff]
    intro i
    cases hi : (ordSet R s).getLsbD i
    · rfl
    · have := (pos_bd R s ((mem_ordSet R s i).1 hi)).2.2; omega
  · intro h
    rw [ord_len, h]; decide
/-! ### the laws -/
theorem mem_seen (L : List Nat) (k : Nat) (hL : ∀ i, i < k → nth L i < 32) (c : Nat) : (seenTo L k).getLsbD c = true ↔ ∃ i, i < k ∧ nth L i = c := by
  induction k with
  | zero => simp [seenTo]
  | succ k ih =>
    show (seenTo L k ||| bit (nth L k)).getLsbD c = true ↔ _
    rw [mem_or, Bool.or_eq_true, ih (fun i hi => hL i (by omega)), mem_bit' (hL k (by omega)), decide_eq_true_eq]
    constructor
    · rintro (⟨i, h1, h2⟩ | h)
      · exact ⟨i, by omega, h2⟩
      · exact ⟨k, by omega, h.symm⟩
    · rintro ⟨i, h1, h2⟩
      by_cases e : i = k
      · subst e; exact .inr h2.symm
      · exact .inl ⟨i, by omega, h2⟩
theorem seen_ord {k : Nat} (hk : k ≤ (ord R s).length) (c : Nat) : (seenTo (ord R s) k).getLsbD c = true ↔ inOrd R s c ∧ pos R s c < k := by
  rw [mem_seen _ _ (fun i hi => by have := (ord_at R s (show i < (ord R s).length by omega)).1.1; omega)]
  constructor
  · rintro ⟨i, h1, h2⟩
    have := ord_at R s (show i < (ord R s).length by omega)
    rw [h2] at this
    exact ⟨this.1, by rw [this.2]; exact h1⟩
  · rintro ⟨h1, h2⟩
    exact ⟨pos R s c, h2, nth_pos R s h1⟩
theorem seen_full : seenTo (ord R s) (ord R s).length = ordSet R s := by
  refine set_ext (fun c _ => ?_)
  rw [Bool.eq_iff_iff, seen_ord R s (Nat.le_refl _), mem_ordSet]
  constructor
  · exact fun h => h.1
  · exact fun h => ⟨h, (pos_bd R s h).2.2⟩
theorem sortLaw : SortLaw R s := by
  refine ⟨fun i hi => (ord_at R s hi).1.1, fun i hi => ?_, seen_full R s⟩
  obtain ⟨a1, a2⟩ := ord_at R s (show i < (ord R s).length by omega)
  obtain ⟨b1, b2⟩ := ord_at R s hi
  rcases Int.lt_trichotomy (lev R (nth (ord R s) i)) (lev R (nth (ord R s) (i + 1))) with h | h | h
  · exact .inl h
  · right
    refine ⟨h, ?_⟩
    rcases Nat.lt_trichotomy (nth (ord R s) i) (nth (ord R s) (i + 1)) with h2 | h2 | h2
    · exact h2
    · rw [h2] at a2; omega
    · have := pos_lt_of_idx R s b1 h.symm h2; omega
  · have := pos_lt_of_lev R s b1 a1 h; omega
theorem keepLaw (hR : ∀ c, c < 24 → ∀ d, (R c).getLsbD d = true → d < 24) : KeepLaw R := by
  have hset : ∀ c, inOrd R All c ↔ c < 24 ∧ 0 ≤ lev R c := by
    intro c
    unfold inOrd
    rw [mem_All, decide_eq_true_eq]
    constructor
    · rintro ⟨a, _, b⟩; exact ⟨a, b⟩
    · rintro ⟨a, b⟩; exact ⟨a, a, b⟩
  refine ⟨fun i hi => ?_, ?_, ?_, fun c hc h => ?_⟩
  · obtain ⟨a1, a2⟩ := ord_at R All hi
    refine ⟨a1.1, ?_, ?_⟩
    · rw [sub_iff]
      intro d hd
      have hd24 := hR _ a1.1 d hd
      have hs := sound_reads R ((sound_iff R a1.1).2 a1.2.2) d hd
      have hld := (sound_iff R hd24).1 hs
      have hin := (hset d).2 ⟨hd24, hld⟩
      rw [seen_ord R All (by omega)]
      refine ⟨hin, ?_⟩
      have htop := lev_top R hR a1.1 a1.2.2
      have := (topTo_spec (lev R) (R (nth (ord R All) i)) 24).1 d hd24 hd
      rw [← htop] at this
      have := pos_lt_of_lev R All hin a1 this
      omega
    · rw [and_zero_iff]
      intro d hd
      rw [mem_bit' (by have := a1.1; omega)]
      rw [seen_ord R All (by omega)] at hd
      have : d ≠ nth (ord R All) i := fun e => by rw [e, a2] at hd; omega
      simpa using this
  · rw [seen_full, and_zero_iff]
    intro d hd
    have := (mem_ordSet R All d).1 hd
    rw [mem_cyc]
    have h2 : ¬ lev R d < 0 := by have := this.2.2; omega
    simp [h2]
  · rw [seen_full]
    refine set_ext (fun d _ => ?_)
    rw [mem_or, mem_cyc, mem_All]
    by_cases hd : d < 24
    · rcases Int.lt_or_le (lev R d) 0 with h | h
      · simp [hd, h]
      · rw [(mem_ordSet R All d).2 ((hset d).2 ⟨hd, h⟩)]; simp [hd]
    · have : (ordSet R All).getLsbD d = false := by
        cases hx : (ordSet R All).getLsbD d
        · rfl
        · exact absurd ((mem_ordSet R All d).1 hx).1 hd
      simp [hd, this]
  · rw [and_bit_ne (by omega)] at h
    obtain ⟨d, a, b⟩ := cyc_reads R hR h
    exact and_ne_iff.2 ⟨d, a, b⟩
end
end Go.Proofs.Qxb6500326aGreat.Gr
