/-
  DERIVED. PLAIN: the text of a lawful tree, read again: words, numbers.
-/
import Derived.Test.Qxb6500326aGreatP9
namespace Go.Proofs.Qxb6500326aGreat
set_option linter.unusedVariables false
set_option linter.unusedSimpArgs false
section
variable {b : Nat → Int} {n : Nat}
/-- The text reads w from place p on. -/
def At (b : Nat → Int) (n : Nat) : Nat → List Int → Prop
  | p, [] => p ≤ n
  | p, c :: w => p < n ∧ b p = c ∧ At b n (p + 1) w
theorem at_app : ∀ (u v : List Int) (p : Nat), At b n p (u ++ v) ↔ At b n p u ∧ At b n (p + u.length) v
  | [], v, p => by
    simp only [List.nil_append, List.length_nil, Nat.add_zero, At]
    constructor
    · intro h
      refine ⟨?_, h⟩
      cases v with
      | nil => exact h
      | cons c w => exact Nat.le_of_lt h.1
    · exact fun h => h.2
  | c :: u, v, p => by
    simp only [List.cons_append, At, at_app u v (p + 1), List.length_cons, show p + 1 + u.length = p + (u.length + 1) from by omega, and_assoc]
theorem at_le : ∀ (w : List Int) (p : Nat), At b n p w → p + w.length ≤ n
  | [], p, h => h
  | c :: w, p, h => by have := at_le w (p + 1) h.2.2; simp only [List.length_cons]; omega
theorem at_cut : ∀ (w : List Int) (p : Nat), At b n p w → cut b p (p + w.length) = w
  | [], p, h => by simp [cut]
  | c :: w, p, h => by
    rw [cut_cons (by simp), h.2.1]
    simp only [List.length_cons]
    rw [show p + (w.length + 1) = p + 1 + w.length from by omega, at_cut w (p + 1) h.2.2]
/-- A run of bytes that p lets by, and then one that it does not. -/
theorem run_at {q : Int → Bool} : ∀ (w : List Int) (f p : Nat), At b n p w → (∀ c ∈ w, q c = true) → ¬ (p + w.length < n ∧ q (b (p + w.length)) = true) → w.length ≤ f → runF q b n f p = p + w.length
  | [], f, p, h, hq, hs, hf => by rw [runF_fix (by simpa using hs)]; simp
  | c :: w, f, p, h, hq, hs, hf => by
    simp only [List.length_cons] at hf hs ⊢
    obtain ⟨f, rfl⟩ : ∃ f', f = f' + 1 := ⟨f - 1, by omega⟩
    unfold runF
    rw [if_pos ⟨h.1, by rw [h.2.1]; exact hq c (by simp)⟩, run_at w f (p + 1) h.2.2 (fun c hc => hq c (by simp [hc])) (by rw [show p + 1 + w.length = p + (w.length + 1) from by omega]; exact hs) (by omega)]
    omega
theorem word_at {w : List Int} {p : Nat} (h : At b n p w) (hw : ∀ c ∈ w, wordy c = true) (hs : ¬ (p + w.length < n ∧ wordy (b (p + w.length)) = true)) : wordEnd b n p = p + w.length :=
  run_at w (n - p) p h hw hs (by have := at_le w p h; omega)
theorem dig_at {w : List Int} {p : Nat} (h : At b n p w) (hw : ∀ c ∈ w, isDig c = true) (hs : ¬ (p + w.length < n ∧ isDig (b (p + w.length)) = true)) : digEnd b n p = p + w.length :=
  run_at w (n - p) p h hw hs (by have := at_le w p h; omega)

/-! ### Numbers -/
def valOf (w : List Int) : Int := w.foldl (fun v c => v * 10 + (c - 48)) 0
theorem valOf_snoc (w : List Int) (c : Int) : valOf (w ++ [c]) = valOf w * 10 + (c - 48) := by simp [valOf]
theorem decF_digits : ∀ (f v : Nat) (T : List Int), v < 10 ^ f → 1 ≤ f → ∃ D : List Int, decF f v T = D ++ T ∧ D ≠ [] ∧ (∀ c ∈ D, isDig c = true) ∧ valOf D = v
  | 0, v, T, h, hf => by omega
  | f + 1, v, T, h, hf => by
    have hdig : isDig ((48 + v % 10 : Nat) : Int) = true := by rw [isDig_iff]; omega
    unfold decF; split
    · rename_i h10
      refine ⟨[((48 + v % 10 : Nat) : Int)], rfl, by simp, by simpa using hdig, ?_⟩
      simp [valOf]; omega
    · rename_i h10
      have h1 : v / 10 < 10 ^ f := by rw [Nat.pow_succ] at h; omega
      have hf1 : 1 ≤ f := by
        rcases Nat.eq_zero_or_pos f with e | e
        · subst e; simp at h1; omega
        · exact e
      obtain ⟨D, e1, e2, e3, e4⟩ := decF_digits f (v / 10) (((48 + v % 10 : Nat) : Int) :: T) h1 hf1
      refine ⟨D ++ [((48 + v % 10 : Nat) : Int)], by rw [e1]; simp, by simp, ?_, ?_⟩
      · intro c hc
        rw [List.mem_append] at hc
        rcases hc with hc | hc
        · exact e3 c hc
        · rw [List.mem_singleton] at hc; rw [hc]; exact hdig
      · rw [valOf_snoc, e4]; omega
theorem dec_digits {v : Int} (h0 : 0 ≤ v) (h : v ≤ 999999999) : dec v ≠ [] ∧ (∀ c ∈ dec v, isDig c = true) ∧ valOf (dec v) = v ∧ (dec v).length ≤ 9 := by
  obtain ⟨D, e1, e2, e3, e4⟩ := decF_digits 20 v.toNat [] (by have : (10 : Nat) ^ 20 = 100000000000000000000 := by decide
                                                              omega) (by decide)
  have hD : dec v = D := by unfold dec; rw [e1]; simp
  refine ⟨by rw [hD]; exact e2, by rw [hD]; exact e3, by rw [hD, e4]; omega, ?_⟩
  have := decF_len 20 v.toNat 9 [] (by have : (10 : Nat) ^ 9 = 1000000000 := by decide
                                       omega) (by decide)
  unfold dec
  simpa using this
theorem numVal_take {w : List Int} {p : Nat} (h : ∀ k (hk : k < w.length), b (p + k) = w[k]) : ∀ k, k ≤ w.length → k ≤ 9 → numVal b p k = valOf (w.take k)
  | 0, _, _ => rfl
  | k + 1, hk, h9 => by
    unfold numVal
    rw [if_pos (by omega), numVal_take h k (by omega) (by omega), h k (by omega), List.take_add_one, List.getElem?_eq_getElem (by omega)]
    simp only [Option.toList_some]
    rw [valOf_snoc]
theorem at_get : ∀ (w : List Int) (p : Nat), At b n p w → ∀ k (hk : k < w.length), b (p + k) = w[k]
  | [], p, h, k, hk => by simp at hk
  | c :: w, p, h, 0, hk => h.2.1
  | c :: w, p, h, k + 1, hk => by
    have := at_get w (p + 1) h.2.2 k (by simpa using hk)
    rw [show p + (k + 1) = p + 1 + k from by omega, this]; rfl
theorem numVal_at {w : List Int} {p : Nat} (h : At b n p w) (h9 : w.length ≤ 9) : numVal b p w.length = valOf w := by
  rw [numVal_take (at_get w p h) w.length (Nat.le_refl _) h9, List.take_length]

/-! ### References and names -/
theorem isCap_col {r : Ref} (h : refIn r) : isCap (65 + r.col) = true := by rw [isCap_iff]; have := h.1; have := h.2.1; omega
theorem refTail_dec {ac ar : Bool} {c row : Int} (h0 : 0 ≤ row) (h : row ≤ 98) : refTail ac ar c (dec (row + 1)) = some ⟨c, row, ac, ar⟩ := by
  by_cases h10 : row + 1 < 10
  · rw [dec_one (by omega) h10]
    unfold refTail
    simp only []
    rw [if_pos (by simp; omega)]
    simp only [Option.some.injEq, Ref.mk.injEq, true_and, and_true]; omega
  · rw [dec_two (by omega) (by omega)]
    unfold refTail
    simp only []
    rw [if_pos (by simp [isDig]; omega)]
    simp only [Option.some.injEq, Ref.mk.injEq, true_and, and_true]; omega
theorem dec_head {v : Int} (h0 : 0 ≤ v) (h : v ≤ 99) : ∃ c u, dec v = c :: u ∧ isDig c = true := by
  obtain ⟨h1, h2, _⟩ := dec_digits h0 (by omega)
  cases hd : dec v with
  | nil => exact absurd hd h1
  | cons c u => exact ⟨c, u, rfl, h2 c (by rw [hd]; simp)⟩
theorem refOf_refTxt {r : Ref} (h : refIn r) : refOf (refTxt r) = some r := by
  obtain ⟨h1, h2, h3, h4⟩ := h
  have hcap : isCap (65 + r.col) = true := isCap_col ⟨h1, h2, h3, h4⟩
  have hcol : ∀ ac, refCol ac ((65 + r.col) :: ((if r.absR = true then [36] else []) ++ dec (r.row + 1))) = some ⟨r.col, r.row, ac, r.absR⟩ := by
    intro ac
    unfold refCol
    simp only [hcap, if_true]
    cases hr : r.absR
    · obtain ⟨c, u, hd, hdg⟩ := dec_head (v := r.row + 1) (by omega) (by omega)
      have := refTail_dec (ac := ac) (ar := false) (c := 65 + r.col - 65) h3 h4
      rw [hd] at this
      simp only [Bool.false_eq_true, if_false, List.nil_append, hd]
      rw [if_neg (by rw [isDig_iff] at hdg; omega), this, show 65 + r.col - 65 = r.col from by omega]
    · simp only [if_true, List.cons_append, List.nil_append]
      rw [refTail_dec h3 h4, show 65 + r.col - 65 = r.col from by omega]
  unfold refTxt
  cases ha : r.absC
  · simp only [Bool.false_eq_true, if_false, List.nil_append]
    unfold refOf
    simp only []
    rw [if_neg (by rw [isCap_iff] at hcap; omega), hcol]
    rw [← ha]
  · simp only [if_true, List.cons_append, List.nil_append]
    unfold refOf
    simp only [if_true]
    rw [hcol, ← ha]
theorem refTxt_wordy {r : Ref} (h : refIn r) : (∀ c ∈ refTxt r, wordy c = true) ∧ ∃ c u, refTxt r = c :: u ∧ (isCap c = true ∨ c = 36) := by
  have hcap := isCap_col h
  obtain ⟨h1, h2, h3, h4⟩ := h
  have hd := (dec_digits (v := r.row + 1) (by omega) (by omega)).2.1
  constructor
  · intro c hc
    unfold refTxt at hc
    simp only [List.mem_append, List.mem_cons] at hc
    rw [wordy_iff]
    rcases hc with hc | hc | hc | hc
    · split at hc
      · simp at hc; omega
      · cases hc
    · rw [isCap_iff] at hcap; omega
    · split at hc
      · simp at hc; omega
      · cases hc
    · have := hd c hc; rw [isDig_iff] at this; omega
  · unfold refTxt
    cases r.absC
    · exact ⟨65 + r.col, _, rfl, .inl hcap⟩
    · exact ⟨36, _, rfl, .inr rfl⟩
theorem arity_fn {op k : Int} (h : arity op k = true) : 1 ≤ op ∧ op ≤ 10 := by
  unfold arity at h
  repeat' split at h
  all_goals first | omega | cases h
theorem fn_facts {op : Int} (h : 1 ≤ op ∧ op ≤ 10) : fnOf (fnName op) = op ∧ refOf (fnName op) = none ∧ fnName op ≠ wTrue ∧ fnName op ≠ wFalse ∧ (∀ c ∈ fnName op, isCap c = true) ∧ fnName op ≠ [] := by
  have : op = 1 ∨ op = 2 ∨ op = 3 ∨ op = 4 ∨ op = 5 ∨ op = 6 ∨ op = 7 ∨ op = 8 ∨ op = 9 ∨ op = 10 := by omega
  rcases this with e | e | e | e | e | e | e | e | e | e <;> rw [e] <;> refine ⟨by decide, by decide, by decide, by decide, by decide, by decide⟩

/-! ### How a text opens -/
def headOK (c : Int) : Bool := isDig c || isCap c || c == 36 || c == 35 || c == 40 || c == 45
def Opens (w : List Int) : Prop := ∃ c u, w = c :: u ∧ headOK c = true
theorem Opens.app {w : List Int} (h : Opens w) (v : List Int) : Opens (w ++ v) := by
  obtain ⟨c, u, e, hc⟩ := h
  exact ⟨c, u ++ v, by rw [e]; rfl, hc⟩
theorem Opens.bracket {w : List Int} (h : Opens w) (lv need : Int) : Opens (bracket lv need w) := by
  unfold Qxb6500326aGreat.bracket; split
  · exact ⟨40, _, rfl, by decide⟩
  · exact h
theorem leaf_opens {x : Nd} {arg : Bool} (h : Leaf x arg) : Opens (leafTxt x) := by
  rcases h with ⟨v, e, h1, h2⟩ | e | e | ⟨r, e, hr⟩ | e | ⟨_, r, s, e, hr, hs⟩ <;> rw [e]
  · obtain ⟨a1, a2, _⟩ := dec_digits h1 h2
    show Opens (dec v)
    cases hd : dec v with
    | nil => exact absurd hd a1
    | cons c u => exact ⟨c, u, rfl, by have := a2 c (by rw [hd]; simp); unfold headOK; rw [this]; rfl⟩
  · exact ⟨70, _, rfl, by decide⟩
  · exact ⟨84, _, rfl, by decide⟩
  · obtain ⟨c, u, e, hc⟩ := (refTxt_wordy hr).2
    exact ⟨c, u, e, by unfold headOK; rcases hc with hc | hc <;> simp [hc]⟩
  · exact ⟨35, _, rfl, by decide⟩
  · obtain ⟨c, u, e, hc⟩ := (refTxt_wordy hr).2
    have : Opens (refTxt r) := ⟨c, u, e, by unfold headOK; rcases hc with hc | hc <;> simp [hc]⟩
    exact this.app _
theorem sp_opens {L : List Nd} : ∀ (f i lo : Nat) (arg : Bool) (need : Int), Sp L f i lo arg → need ≤ 5 → Opens (tx L i need)
  | 0, _, _, _, _, h, _ => h.elim
  | f + 1, i, lo, arg, need, h, hn => by
    obtain ⟨h0, h⟩ := h
    rcases h with ⟨e, hl⟩ | ⟨a1, a2, a3⟩ | ⟨op, m, a1, a2, a3, a4, a5, a6, a7⟩ | ⟨op, k, a1, a2, a3, a4⟩
    · rw [tx_leaf hl hn]; exact leaf_opens hl
    · rw [tx_neg a1 a2]; exact Opens.bracket ⟨45, _, rfl, by decide⟩ _ _
    · rw [tx_bin a3 a4 a5 a6 a7]
      refine Opens.bracket ?_ _ _
      rw [List.append_assoc]
      refine Opens.app (sp_opens f _ _ _ _ a7 ?_) _
      unfold leftNeed level; repeat' split
      all_goals decide
    · rw [tx_call a1 a2 a4 hn]
      obtain ⟨_, _, _, _, hc, hne⟩ := fn_facts (arity_fn a3)
      cases hd : fnName op with
      | nil => exact absurd hd hne
      | cons c u => exact ⟨c, _, rfl, by have := hc c (by rw [hd]; simp); unfold headOK; simp [this]⟩
theorem lk_opens {L : List Nd} {f : Nat} {rg : Bool} : ∀ (k i lo : Nat), Lk (Sp L f) L rg k i lo → Opens (axt L i)
  | 0, _, _, h => h.elim
  | k + 1, i, lo, h => by
    obtain ⟨a1, a2, m, h3, h4⟩ := h
    rcases h4 with ⟨_, e, _⟩ | ⟨_, hm, e, d⟩
    · rw [axt_one a1 e]; exact sp_opens f _ _ _ _ h3 (by decide)
    · rw [axt_more a1 hm (Sp.le _ _ _ _ h3) e d]; exact (lk_opens k _ _ d).app _
end
end Go.Proofs.Qxb6500326aGreat
