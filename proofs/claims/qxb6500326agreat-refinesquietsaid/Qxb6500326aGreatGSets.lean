import Derived.Test.Qxb6500326aGreatGPlain
namespace Go.Proofs.Qxb6500326aGreat.Gr
set_option linter.unusedVariables false
set_option linter.unusedSimpArgs false

theorem set_ext {x y : BitVec 32} (h : ∀ i, i < 32 → x.getLsbD i = y.getLsbD i) : x = y := BitVec.eq_of_getLsbD_eq h
theorem mem_lt {x : BitVec 32} {i : Nat} (h : x.getLsbD i = true) : i < 32 := BitVec.lt_of_getLsbD h
theorem mem_bit (c i : Nat) : (bit c).getLsbD i = (decide (i < 32) && decide (i = c)) := by
  unfold bit
  rw [BitVec.getLsbD_shiftLeft]
  by_cases h : i < 32 <;> by_cases h2 : i = c <;> simp [h, h2] <;> omega
theorem mem_bit' {c i : Nat} (hc : c < 32) : (bit c).getLsbD i = decide (i = c) := by
  rw [mem_bit]
  by_cases h2 : i = c <;> simp [h2, hc]
theorem mem_All (i : Nat) : (All).getLsbD i = decide (i < 24) := by
  have h : All = BitVec.ofNat 32 (2 ^ 24 - 1) := rfl
  rw [h, BitVec.getLsbD_ofNat, Nat.testBit_two_pow_sub_one]
  by_cases h1 : i < 24
  · simp [h1]; omega
  · simp [h1]
theorem mem_Out (i : Nat) : (Out).getLsbD i = (decide (i < 32) && decide (24 ≤ i)) := by
  have h : Out = ~~~All := by decide
  rw [h, BitVec.getLsbD_not, mem_All]
  by_cases h1 : i < 24 <;> simp [h1] <;> omega
theorem eq_zero_iff {x : BitVec 32} : x = 0#32 ↔ ∀ i, x.getLsbD i = false := by
  constructor
  · rintro rfl i; simp
  · intro h; exact set_ext (fun i _ => by rw [h i]; simp)
theorem ne_zero_iff {x : BitVec 32} : x ≠ 0#32 ↔ ∃ i, x.getLsbD i = true := by
  rw [Ne, eq_zero_iff]
  constructor
  · intro h
    refine Classical.byContradiction (fun hn => h (fun i => ?_))
    cases e : x.getLsbD i
    · rfl
    · exact (hn ⟨i, e⟩).elim
  · rintro ⟨i, h⟩ hn; rw [hn i] at h; cases h
/-- x shares nothing with y. -/
theorem and_zero_iff {x y : BitVec 32} : x &&& y = 0#32 ↔ ∀ i, x.getLsbD i = true → y.getLsbD i = false := by
  rw [eq_zero_iff]
  constructor
  · intro h i hx; have := h i; rw [BitVec.getLsbD_and, hx] at this; simpa using this
  · intro h i
    rw [BitVec.getLsbD_and]
    cases hx : x.getLsbD i
    · rfl
    · rw [h i hx]; rfl
theorem and_ne_iff {x y : BitVec 32} : x &&& y ≠ 0#32 ↔ ∃ i, x.getLsbD i = true ∧ y.getLsbD i = true := by
  rw [ne_zero_iff]
  constructor
  · rintro ⟨i, h⟩; rw [BitVec.getLsbD_and, Bool.and_eq_true] at h; exact ⟨i, h⟩
  · rintro ⟨i, h⟩; exact ⟨i, by rw [BitVec.getLsbD_and, Bool.and_eq_true]; exact h⟩
/-- x lies in y. -/
theorem sub_iff {x y : BitVec 32} : x &&& ~~~y = 0#32 ↔ ∀ i, x.getLsbD i = true → y.getLsbD i = true := by
  rw [and_zero_iff]
  constructor
  · intro h i hx
    have := h i hx
    have hi := mem_lt hx
    rw [BitVec.getLsbD_not] at this
    simpa [hi] using this
  · intro h i hx
    rw [BitVec.getLsbD_not, h i hx]
    simp
theorem and_bit_ne {x : BitVec 32} {c : Nat} (hc : c < 32) : (x &&& bit c ≠ 0#32) ↔ x.getLsbD c = true := by
  rw [and_ne_iff]
  constructor
  · rintro ⟨i, h1, h2⟩
    rw [mem_bit' hc] at h2
    have e : i = c := by simpa using h2
    rw [e] at h1; exact h1
  · intro h; exact ⟨c, h, by rw [mem_bit' hc]; simp⟩
theorem and_bit_bne {x : BitVec 32} {c : Nat} (hc : c < 32) : (x &&& bit c != 0#32) = x.getLsbD c := by
  rw [Bool.eq_iff_iff, bne_iff_ne]; exact and_bit_ne hc
theorem in_All {x : BitVec 32} : x &&& Out = 0#32 ↔ ∀ i, x.getLsbD i = true → i < 24 := by
  rw [and_zero_iff]
  constructor
  · intro h i hx
    have := h i hx
    have hi := mem_lt hx
    rw [mem_Out] at this
    simp [hi] at this
    omega
  · intro h i hx
    have := h i hx
    rw [mem_Out]
    simp; omega
theorem mem_or (x y : BitVec 32) (i : Nat) : (x ||| y).getLsbD i = (x.getLsbD i || y.getLsbD i) := BitVec.getLsbD_or
theorem mem_and (x y : BitVec 32) (i : Nat) : (x &&& y).getLsbD i = (x.getLsbD i && y.getLsbD i) := BitVec.getLsbD_and
theorem mem_andNot (x y : BitVec 32) (i : Nat) : (x &&& ~~~y).getLsbD i = (x.getLsbD i && !y.getLsbD i) := by
  rw [mem_and, BitVec.getLsbD_not]
  cases h : x.getLsbD i
  · rfl
  · simp [mem_lt h]
theorem mem_acc (p : Nat → Bool) (s : BitVec 32) (k : Nat) (hk : k ≤ 32) (i : Nat) : (accTo p s k).getLsbD i = (s.getLsbD i || (decide (i < k) && p i)) := by
  induction k with
  | zero => simp [accTo]
  | succ k ih =>
    unfold accTo
    have ih := ih (by omega)
    by_cases e : i = k
    · subst e
      cases hp : p i
      · simp [ih, hp]
      · simp only [if_true, mem_or, mem_bit' (show i < 32 by omega), ih]; simp
    · have e2 : (i < k + 1) = (i < k) := by simp; omega
      cases hp : p k
      · simp only [Bool.false_eq_true, if_false, ih, e2]
      · simp only [if_true, mem_or, mem_bit' (show k < 32 by omega), ih, e2, e]; simp

/-! ### the lowest cell of a set -/
def lo (x : BitVec 32) : Nat := ((List.range 32).find? (fun i => x.getLsbD i)).getD 0
theorem lo_spec {x : BitVec 32} (h : x ≠ 0#32) : lo x < 32 ∧ x.getLsbD (lo x) = true ∧ ∀ j, j < lo x → x.getLsbD j = false := by
  obtain ⟨i, hi⟩ := ne_zero_iff.1 h
  unfold lo
  cases hf : (List.range 32).find? (fun i => x.getLsbD i) with
  | none =>
    rw [List.find?_eq_none] at hf
    exact (hf i (by simpa using mem_lt hi) hi).elim
  | some n =>
    rw [List.find?_range_eq_some] at hf
    obtain ⟨h1, h2, h3⟩ := hf
    refine ⟨by simpa using h2, h1, fun j hj => ?_⟩
    have := h3 j hj
    simpa using this
theorem lo_unique {x : BitVec 32} {n : Nat} (h1 : x.getLsbD n = true) (h2 : ∀ j, j < n → x.getLsbD j = false) : lo x = n := by
  have hs := lo_spec (ne_zero_iff.2 ⟨n, h1⟩)
  rcases Nat.lt_trichotomy (lo x) n with h | h | h
  · rw [h2 _ h] at hs; cases hs.2.1
  · exact h
  · rw [hs.2.2 n h] at h1; cases h1
/-- s & (s - 1): the lowest cell is gone. -/
theorem mem_drop {x : BitVec 32} (h : x ≠ 0#32) (j : Nat) : (x &&& (x - 1#32)).getLsbD j = (x.getLsbD j && decide (j ≠ lo x)) := by
  obtain ⟨h1, h2, h3⟩ := lo_spec h
  generalize lo x = n at *
  have hmod : x.toNat % 2 ^ n = 0 := by
    apply Nat.eq_of_testBit_eq
    intro i
    rw [Nat.testBit_mod_two_pow, Nat.zero_testBit]
    by_cases hi : i < n
    · have := h3 i hi
      rw [← BitVec.testBit_toNat] at this
      simp [hi, this]
    · simp [hi]
  have hdiv : x.toNat / 2 ^ n % 2 = 1 := by
    rw [← BitVec.testBit_toNat, Nat.testBit_eq_decide_div_mod_eq] at h2
    simpa using h2
  have hpos : 0 < 2 ^ n := Nat.two_pow_pos n
  obtain ⟨q, hq⟩ : ∃ q, x.toNat / 2 ^ n = 2 * q + 1 := ⟨x.toNat / 2 ^ n / 2, by omega⟩
  have hx : x.toNat = 2 ^ n * (2 * q + 1) := by
    have := Nat.div_add_mod x.toNat (2 ^ n)
    rw [hmod, hq] at this; omega
  have hx1 : (x - 1#32).toNat = 2 ^ n * (2 * q) + (2 ^ n - 1) := by
    have hlt := x.isLt
    have : (x - 1#32).toNat = x.toNat - 1 := by
      rw [BitVec.toNat_sub]; simp
      have : 1 ≤ x.toNat := by rw [hx]; exact Nat.mul_pos hpos (by omega)
      omega
    rw [this, hx, Nat.mul_add]; omega
  rw [← BitVec.testBit_toNat, ← BitVec.testBit_toNat, BitVec.toNat_and, Nat.testBit_and, hx1]
  rw [Nat.testBit_two_pow_mul_add _ (by omega)]
  by_cases hj : j < n
  · have := h3 j hj
    rw [← BitVec.testBit_toNat] at this
    simp [this]
  · rw [if_neg hj]
    have e1 : x.toNat.testBit j = (2 * q + 1).testBit (j - n) := by
      have hx' : x.toNat = 2 ^ n * (2 * q + 1) + 0 := by omega
      rw [hx', Nat.testBit_two_pow_mul_add _ hpos, if_neg hj]
    rw [e1]
    by_cases hjn : j = n
    · subst hjn; simp
    · obtain ⟨m, hm⟩ : ∃ m, j - n = m + 1 := ⟨j - n - 1, by omega⟩
      rw [hm, Nat.testBit_succ, Nat.testBit_succ]
      have e2 : (2 * q + 1) / 2 = q := by omega
      have e3 : (2 * q) / 2 = q := by omega
      rw [e2, e3]; simp [hjn]
/-! ### how many -/
def pcTo (x : BitVec 32) : Nat → Nat
  | 0 => 0
  | k + 1 => pcTo x k + if x.getLsbD k then 1 else 0
def pc (x : BitVec 32) : Nat := pcTo x 32
theorem pcTo_le (x : BitVec 32) (k : Nat) : pcTo x k ≤ k := by
  induction k with
  | zero => simp [pcTo]
  | succ k ih => unfold pcTo; split <;> omega
theorem pcTo_or (x y : BitVec 32) (h : ∀ i, x.getLsbD i = true → y.getLsbD i = false) (k : Nat) : pcTo (x ||| y) k = pcTo x k + pcTo y k := by
  induction k with
  | zero => simp [pcTo]
  | succ k ih =>
    unfold pcTo
    rw [ih, mem_or]
    cases hx : x.getLsbD k
    · cases hy : y.getLsbD k <;> simp <;> omega
    · rw [h k hx]; simp; omega
theorem pcTo_mono (x y : BitVec 32) (h : ∀ i, x.getLsbD i = true → y.getLsbD i = true) (k : Nat) : pcTo x k ≤ pcTo y k := by
  induction k with
  | zero => simp [pcTo]
  | succ k ih =>
    unfold pcTo
    cases hx : x.getLsbD k
    · simp; omega
    · rw [h k hx]; simp; omega
theorem pcTo_bit {c k : Nat} (hc : c < 32) : pcTo (bit c) k = if c < k then 1 else 0 := by
  induction k with
  | zero => simp [pcTo]
  | succ k ih =>
    unfold pcTo
    rw [ih, mem_bit' hc]
    by_cases h1 : c < k
    · have h3 : c < k + 1 := by omega
      have : ¬ k = c := by omega
      simp [this, h1, h3]
    · by_cases h2 : k = c
      · subst h2; simp
      · have h3 : ¬ c < k + 1 := by omega
        simp [h2, h1, h3]
theorem split_lo {x : BitVec 32} (h : x ≠ 0#32) : x = (x &&& (x - 1#32)) ||| bit (lo x) := by
  have hs := lo_spec h
  refine set_ext (fun i _ => ?_)
  rw [mem_or, mem_drop h, mem_bit' hs.1]
  by_cases e : i = lo x
  · subst e; simp [hs.2.1]
  · simp [e]
theorem pc_drop {x : BitVec 32} (h : x ≠ 0#32) (k : Nat) (hk : lo x < k) : pcTo (x &&& (x - 1#32)) k + 1 = pcTo x k := by
  have hs := lo_spec h
  have e : pcTo x k = pcTo ((x &&& (x - 1#32)) ||| bit (lo x)) k := by rw [← split_lo h]
  rw [e, pcTo_or, pcTo_bit hs.1, if_pos hk]
  intro i hi
  rw [mem_drop h, Bool.and_eq_true] at hi
  rw [mem_bit' hs.1]
  simpa using hi.2
theorem pc_zero_of (x : BitVec 32) (h : pcTo x 32 = 0) : x = 0#32 := by
  rw [eq_zero_iff]
  intro i
  cases hx : x.getLsbD i
  · rfl
  · have hi := mem_lt hx
    have h1 : pcTo (bit i) 32 ≤ pcTo x 32 := by
      refine pcTo_mono _ _ ?_ 32
      intro j hj
      rw [mem_bit' hi] at hj
      have e : j = i := by simpa using hj
      rw [e]; exact hx
    rw [pcTo_bit hi, if_pos hi, h] at h1
    omega
/-! ### the cells of a set, one by one from below -/
/-- Those of x from k on. -/
def above (x : BitVec 32) (k : Nat) : BitVec 32 := x &&& ~~~(BitVec.ofNat 32 (2 ^ k - 1))
theorem mem_above (x : BitVec 32) (k i : Nat) : (above x k).getLsbD i = (x.getLsbD i && decide (k ≤ i)) := by
  unfold above
  rw [mem_andNot, BitVec.getLsbD_ofNat, Nat.testBit_two_pow_sub_one]
  cases h : x.getLsbD i
  · rfl
  · have := mem_lt h
    by_cases h2 : i < k
    · have h3 : ¬ k ≤ i := by omega
      simp [h2, h3, this]
    · have h3 : k ≤ i := by omega
      simp [h2, h3]
theorem above_zero (x : BitVec 32) : above x 0 = x := set_ext (fun i _ => by rw [mem_above]; simp)
theorem above_lo {x : BitVec 32} {k : Nat} (h : above x k ≠ 0#32) :
    k ≤ lo (above x k) ∧ lo (above x k) < 32 ∧ x.getLsbD (lo (above x k)) = true ∧ (∀ j, k ≤ j → j < lo (above x k) → x.getLsbD j = false) ∧ (above x k) &&& (above x k - 1#32) = above x (lo (above x k) + 1) := by
  obtain ⟨h1, h2, h3⟩ := lo_spec h
  have h4 := h2
  rw [mem_above, Bool.and_eq_true] at h4
  have h5 : k ≤ lo (above x k) := by simpa using h4.2
  refine ⟨h5, h1, h4.1, fun j hj hl => ?_, set_ext (fun i _ => ?_)⟩
  · have := h3 j hl
    rw [mem_above] at this
    simpa [hj] using this
  · rw [mem_drop h, mem_above, mem_above]
    cases hx : x.getLsbD i
    · rfl
    · by_cases e1 : k ≤ i
      · by_cases e2 : i = lo (above x k)
        · have : ¬ lo (above x k) + 1 ≤ i := by omega
          simp [e2]
        · by_cases e3 : i < lo (above x k)
          · have := h3 i e3
            rw [mem_above, hx] at this
            simp [e1] at this
          · have e4 : lo (above x k) + 1 ≤ i := by omega
            simp [e1, e2, e4]
      · have e4 : ¬ lo (above x k) + 1 ≤ i := by omega
        simp [e1, e4]
theorem above_end {x : BitVec 32} {k : Nat} (h : above x k = 0#32) : ∀ j, k ≤ j → x.getLsbD j = false := by
  intro j hj
  have := eq_zero_iff.1 h j
  rw [mem_above] at this
  simpa [hj] using this
/-- A measure of such a loop. -/
theorem above_dec {x : BitVec 32} {k : Nat} (h : above x k ≠ 0#32) : pc (above x (lo (above x k) + 1)) < pc (above x k) := by
  have h1 := above_lo h
  have h2 := pc_drop h 32 (lo_spec h).1
  rw [h1.2.2.2.2] at h2
  unfold pc
  omega
theorem pcTo_skip {x : BitVec 32} {k d : Nat} (hkd : k ≤ d) (h : ∀ j, k ≤ j → j < d → x.getLsbD j = false) : pcTo x d = pcTo x k := by
  induction d with
  | zero => rw [show k = 0 by omega]
  | succ d ih =>
    by_cases e : k = d + 1
    · rw [e]
    · rw [show pcTo x (d + 1) = pcTo x d + if x.getLsbD d then 1 else 0 from rfl, ih (by omega) (fun j h1 h2 => h j h1 (by omega)), h d (by omega) (by omega)]
      simp
theorem accTo_skip {p : Nat → Bool} {s : BitVec 32} {k d : Nat} (hkd : k ≤ d) (h : ∀ j, k ≤ j → j < d → p j = false) : accTo p s d = accTo p s k := by
  induction d with
  | zero => rw [show k = 0 by omega]
  | succ d ih =>
    by_cases e : k = d + 1
    · rw [e]
    · rw [show accTo p s (d + 1) = if p d then accTo p s d ||| bit d else accTo p s d from rfl, ih (by omega) (fun j h1 h2 => h j h1 (by omega)), h d (by omega) (by omega)]
      simp
theorem topTo_skip {l : Nat → Int} {r : BitVec 32} {k d : Nat} (hkd : k ≤ d) (h : ∀ j, k ≤ j → j < d → r.getLsbD j = false) : topTo l r d = topTo l r k := by
  induction d with
  | zero => rw [show k = 0 by omega]
  | succ d ih =>
    by_cases e : k = d + 1
    · rw [e]
    · rw [show topTo l r (d + 1) = if r.getLsbD d && decide (topTo l r d ≤ l d) then l d + 1 else topTo l r d from rfl, ih (by omega) (fun j h1 h2 => h j h1 (by omega)), h d (by omega) (by omega)]
      simp
/-! ### the work list of graph.Hang -/
structure HInv (rb : Nat → BitVec 32) (s set todo : BitVec 32) : Prop where
  start : ∀ i, s.getLsbD i = true → set.getLsbD i = true
  cells : ∀ i, set.getLsbD i = true → i < 24
  wait : ∀ i, todo.getLsbD i = true → set.getLsbD i = true
  done : ∀ d, set.getLsbD d = true → todo.getLsbD d = false → ∀ c, (rb d).getLsbD c = true → set.getLsbD c = true
  least : ∀ T : Nat → Prop, (∀ i, s.getLsbD i = true → T i) → (∀ d c, d < 24 → T d → (rb d).getLsbD c = true → T c) → ∀ i, set.getLsbD i = true → T i
theorem HInv.begin (rb : Nat → BitVec 32) (s : BitVec 32) (hs : ∀ i, s.getLsbD i = true → i < 24) : HInv rb s s s :=
  ⟨fun _ h => h, hs, fun _ h => h, fun d h1 h2 => (by rw [h1] at h2; exact absurd h2 (by simp)), fun _ h _ => h⟩
theorem HInv.low {rb : Nat → BitVec 32} {s set todo : BitVec 32} (h : HInv rb s set todo) (hz : todo ≠ 0#32) : lo todo < 24 := h.cells _ (h.wait _ (lo_spec hz).2.1)
theorem HInv.next {rb : Nat → BitVec 32} {s set todo : BitVec 32} (h : HInv rb s set todo) (hz : todo ≠ 0#32) (hrb : ∀ d, d < 24 → ∀ c, (rb d).getLsbD c = true → c < 24) :
    HInv rb s (set ||| (rb (lo todo) &&& ~~~set)) (todo &&& (todo - 1#32) ||| (rb (lo todo) &&& ~~~set)) ∧
    pc (~~~(set ||| (rb (lo todo) &&& ~~~set))) + pc (todo &&& (todo - 1#32) ||| (rb (lo todo) &&& ~~~set)) < pc (~~~set) + pc todo := by
  have hlo := h.low hz
  obtain ⟨h1, h2, h3⟩ := lo_spec hz
  refine ⟨⟨fun i hi => ?_, fun i hi => ?_, fun i hi => ?_, fun d hd ht c hc => ?_, fun T h4 h5 i hi => ?_⟩, ?_⟩
  · rw [mem_or, h.start i hi]; rfl
  · rw [mem_or, Bool.or_eq_true, mem_andNot, Bool.and_eq_true] at hi
    rcases hi with hi | hi
    · exact h.cells i hi
    · exact hrb _ hlo i hi.1
  · rw [mem_or, Bool.or_eq_true] at hi ⊢
    rcases hi with hi | hi
    · rw [mem_drop hz, Bool.and_eq_true] at hi
      exact .inl (h.wait i hi.1)
    · exact .inr hi
  · rw [mem_or, Bool.or_eq_false_iff] at ht
    rw [mem_or, Bool.or_eq_true] at hd
    by_cases e : d = lo todo
    · rw [e] at hc
      rw [mem_or, mem_andNot, hc]
      cases set.getLsbD c <;> rfl
    · rcases hd with hd | hd
      · have ht1 : todo.getLsbD d = false := by
          have := ht.1
          rw [mem_drop hz] at this
          simpa [e] using this
        rw [mem_or, h.done d hd ht1 c hc]; rfl
      · rw [hd] at ht; cases ht.2
  · rw [mem_or, Bool.or_eq_true, mem_andNot, Bool.and_eq_true] at hi
    rcases hi with hi | hi
    · exact h.least T h4 h5 i hi
    · exact h5 _ i hlo (h.least T h4 h5 _ (h.wait _ h2)) hi.1
  · have hd := pc_drop hz 32 h1
    have e1 : pcTo (todo &&& (todo - 1#32) ||| (rb (lo todo) &&& ~~~set)) 32 = pcTo (todo &&& (todo - 1#32)) 32 + pcTo (rb (lo todo) &&& ~~~set) 32 := by
      apply pcTo_or
      intro i hi
      rw [mem_drop hz, Bool.and_eq_true] at hi
      rw [mem_andNot, h.wait i hi.1]; simp
    have e2 : pcTo (~~~set) 32 = pcTo (~~~(set ||| (rb (lo todo) &&& ~~~set))) 32 + pcTo (rb (lo todo) &&& ~~~set) 32 := by
      rw [← pcTo_or]
      · congr 1
        refine set_ext (fun i hi => ?_)
        rw [mem_or, BitVec.getLsbD_not, BitVec.getLsbD_not, mem_or, mem_andNot]
        cases set.getLsbD i <;> cases (rb (lo todo)).getLsbD i <;> simp [hi]
      · intro i hi
        rw [BitVec.getLsbD_not, mem_or, Bool.and_eq_true] at hi
        have := hi.2
        cases h6 : (rb (lo todo) &&& ~~~set).getLsbD i
        · rfl
        · rw [h6] at this; simp at this
    unfold pc
    omega
end Go.Proofs.Qxb6500326aGreat.Gr
