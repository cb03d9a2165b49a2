/-
  DERIVED. PLAIN: how many brackets a lawful tree's text has; how long it is; the text filled from its end.
-/
import Derived.Test.Qxb6500326aGreatQ1
namespace Go.Proofs.Qxb6500326aGreat
set_option linter.unusedVariables false
set_option linter.unusedSimpArgs false
section
variable {L : List Nd}
/-! ### Brackets -/
def b2n (p : Bool) : Nat := if p = true then 1 else 0
/-- The brackets that node x of L brings. -/
def brk (L : List Nd) (x : Nd) : Nat :=
  b2n (x.kind == 8) + (if x.kind = 6 then b2n (decide (level (nd L x.a.toNat) < 4)) else 0) +
  (if x.kind = 7 then b2n (decide (level (nd L x.b.toNat) < level x + 1)) + b2n (decide (level (nd L x.a.toNat) < leftNeed (level x))) else 0)
def brkTo (L : List Nd) : Nat → Nat
  | 0 => 0
  | k + 1 => brkTo L k + brk L (nd L k)
def opens : List Int → Nat
  | [] => 0
  | c :: w => b2n (c == 40) + opens w
theorem opens_app : ∀ (u v : List Int), opens (u ++ v) = opens u + opens v
  | [], v => by simp [opens]
  | c :: u, v => by simp only [List.cons_append, opens, opens_app u v]; omega
theorem opens_none : ∀ (w : List Int), (∀ c ∈ w, c ≠ 40) → opens w = 0
  | [], _ => rfl
  | c :: w, h => by
    have h1 := h c (by simp)
    have h2 := opens_none w (fun c hc => h c (by simp [hc]))
    simp [opens, h2, b2n, h1]
theorem leaf_noopen {x : Nd} {arg : Bool} (h : Leaf x arg) : opens (leafTxt x) = 0 := by
  have hw : ∀ r, refIn r → ∀ c ∈ refTxt r, c ≠ 40 := by
    intro r hr c hc h40
    have := (refTxt_wordy hr).1 c hc
    rw [h40] at this; revert this; decide
  rcases h with ⟨v, e, h1, h2⟩ | e | e | ⟨r, e, hr⟩ | e | ⟨_, r, s, e, hr, hs⟩ <;> rw [e]
  · show opens (dec v) = 0
    refine opens_none _ (fun c hc h40 => ?_)
    have := (dec_digits h1 h2).2.1 c hc
    rw [h40] at this; revert this; decide
  · decide
  · decide
  · exact opens_none _ (hw r hr)
  · decide
  · show opens (refTxt r ++ 58 :: refTxt s) = 0
    rw [opens_app, opens_none _ (hw r hr)]
    simp only [opens, opens_none _ (hw s hs)]; decide
theorem opens_bracket (lv need : Int) (s : List Int) : opens (bracket lv need s) = opens s + b2n (decide (lv < need)) := by
  unfold bracket; split
  · rename_i h; simp [opens, opens_app, b2n, h]; omega
  · rename_i h; simp [b2n, h]
theorem brk_leaf {x : Nd} {arg : Bool} (h : Leaf x arg) : brk L x = 0 := by
  obtain ⟨h1, h2, h3, _⟩ := leaf_kind h
  unfold brk; rw [if_neg h1, if_neg h2]; simp [b2n, h3]
theorem brk_neg (a : Int) : brk L (nNeg a) = b2n (decide (level (nd L a.toNat) < 4)) := by
  unfold brk
  rw [if_pos (show (nNeg a).kind = 6 from rfl), if_neg (show ¬ (nNeg a).kind = 7 from fun h => absurd (show (6 : Int) = 7 from h) (by decide))]
  show 0 + b2n (decide (level (nd L a.toNat) < 4)) + 0 = _
  omega
theorem brk_bin (op a c : Int) : brk L (nBin op a c) = b2n (decide (level (nd L c.toNat) < level (nBin op a c) + 1)) + b2n (decide (level (nd L a.toNat) < leftNeed (level (nBin op a c)))) := by
  unfold brk
  rw [if_neg (show ¬ (nBin op a c).kind = 6 from fun h => absurd (show (7 : Int) = 6 from h) (by decide)), if_pos (show (nBin op a c).kind = 7 from rfl)]
  show 0 + 0 + (b2n (decide (level (nd L c.toNat) < level (nBin op a c) + 1)) + b2n (decide (level (nd L a.toNat) < leftNeed (level (nBin op a c))))) = _
  omega
theorem bin_need (op a c : Int) : leftNeed (level (nBin op a c)) ≤ 5 ∧ level (nBin op a c) + 1 ≤ 5 := by
  have e : level (nBin op a c) = strength op := rfl
  rw [e]; unfold strength
  by_cases h1 : op ≤ 6
  · rw [if_pos h1]; decide
  · rw [if_neg h1]
    by_cases h2 : op ≤ 8
    · rw [if_pos h2]; decide
    · rw [if_neg h2]; decide
theorem brk_call (op a k : Int) : brk L (nCall op a k) = 1 := by simp [brk, nCall, b2n]
theorem brk_arg (a c : Int) : brk L (nArg a c) = 0 := by simp [brk, nArg, b2n]
theorem opTxt_noopen (op : Int) : opens (opTxt op) = 0 := by
  unfold opTxt; repeat' split
  all_goals decide
theorem fn_noopen {op : Int} (h : 1 ≤ op ∧ op ≤ 10) : opens (fnName op) = 0 :=
  opens_none _ (fun c hc h40 => by have := (fn_facts h).2.2.2.2.1 c hc; rw [h40] at this; revert this; decide)
theorem lk_brk {f : Nat} {rg : Bool} (hS : ∀ i lo a need, need ≤ 5 → Sp L f i lo a → opens (tx L i need) + brkTo L lo = brkTo L (i + 1) + b2n (decide (level (nd L i) < need))) :
    ∀ (k i lo : Nat), Lk (Sp L f) L rg k i lo → opens (axt L i) + brkTo L lo = brkTo L (i + 1)
  | 0, _, _, h => h.elim
  | k + 1, i, lo, h => by
    obtain ⟨a1, a2, m, h3, h4⟩ := h
    have h5 := hS _ _ _ 1 (by decide) h3
    have hl1 := level (nd L (i - 1))
    have hlv : b2n (decide (level (nd L (i - 1)) < 1)) = 0 := by
      have : 1 ≤ level (nd L (i - 1)) := by unfold level; repeat' split
                                            all_goals decide
      unfold b2n; rw [if_neg (by simp; omega)]
    rw [hlv, show i - 1 + 1 = i from by omega] at h5
    have hb : brkTo L (i + 1) = brkTo L i := by
      show brkTo L i + brk L (nd L i) = brkTo L i
      rcases h4 with ⟨_, e, _⟩ | ⟨_, _, e, _⟩ <;> rw [e, brk_arg] <;> rfl
    rw [hb]
    rcases h4 with ⟨_, e, el⟩ | ⟨_, hm, e, d⟩
    · rw [axt_one a1 e, el]; omega
    · have h6 := lk_brk hS k _ _ d
      rw [axt_more a1 hm (Sp.le _ _ _ _ h3) e d, opens_app]
      rw [show m - 1 + 1 = m from by omega] at h6
      have h7 : opens (44 :: tx L (i - 1) 1) = opens (tx L (i - 1) 1) := by simp [opens, b2n]
      omega
theorem sp_brk : ∀ (f i lo : Nat) (a : Bool) (need : Int), need ≤ 5 → Sp L f i lo a → opens (tx L i need) + brkTo L lo = brkTo L (i + 1) + b2n (decide (level (nd L i) < need))
  | 0, _, _, _, _, _, h => h.elim
  | f + 1, i, lo, a, need, hn, h => by
    obtain ⟨h0, h⟩ := h
    show _ = brkTo L i + brk L (nd L i) + _
    rcases h with ⟨e, hl⟩ | ⟨a1, a2, a3⟩ | ⟨op, m, a1, a2, a3, a4, a5, a6, a7⟩ | ⟨op, k, a1, a2, a3, a4⟩
    · rw [tx_leaf hl hn, leaf_noopen hl, brk_leaf hl, (leaf_kind hl).2.2.2, e]
      have : b2n (decide ((5 : Int) < need)) = 0 := by unfold b2n; rw [if_neg (by simp; omega)]
      omega
    · have ih := sp_brk f _ _ _ 4 (by decide) a3
      rw [show i - 1 + 1 = i from by omega] at ih
      rw [tx_neg a1 a2, opens_bracket, a2, brk_neg, show ((i : Int) - 1).toNat = i - 1 from by omega]
      have h1 : opens (45 :: tx L (i - 1) 4) = opens (tx L (i - 1) 4) := by simp [opens, b2n]
      have h2 : level (nNeg ((i : Int) - 1)) = 4 := rfl
      rw [h2]
      omega
    · have hlv := level (nd L i)
      have hl5 : leftNeed (level (nd L i)) ≤ 5 ∧ level (nd L i) + 1 ≤ 5 := by
        rw [a5]; exact bin_need _ _ _
      have ihB := sp_brk f _ _ _ (level (nd L i) + 1) hl5.2 a6
      have ihA := sp_brk f _ _ _ (leftNeed (level (nd L i))) hl5.1 a7
      rw [show i - 1 + 1 = i from by omega] at ihB
      rw [show m - 1 + 1 = m from by omega] at ihA
      rw [tx_bin a3 a4 a5 a6 a7, opens_bracket, opens_app, opens_app, opTxt_noopen]
      have hbr : brk L (nd L i) = b2n (decide (level (nd L (i - 1)) < level (nd L i) + 1)) + b2n (decide (level (nd L (m - 1)) < leftNeed (level (nd L i)))) := by
        conv => lhs; rw [a5, brk_bin]
        rw [← a5, show ((i : Int) - 1).toNat = i - 1 from by omega, show ((m : Int) - 1).toNat = m - 1 from by omega]
      rw [hbr]
      omega
    · have ih := lk_brk (fun i lo a need hn h => sp_brk f i lo a need hn h) _ _ _ a4
      rw [show i - 1 + 1 = i from by omega] at ih
      rw [tx_call a1 a2 a4 hn, opens_app, fn_noopen (arity_fn a3), a2, brk_call]
      have h1 : opens (40 :: (axt L (i - 1) ++ [41])) = 1 + opens (axt L (i - 1)) := by simp [opens, opens_app, b2n]
      have h2 : level (nCall op ((i : Int) - 1) k) = 5 := rfl
      have h3 : b2n (decide ((5 : Int) < need)) = 0 := by unfold b2n; rw [if_neg (by simp; omega)]
      rw [h1, h2, h3]
      omega

/-! ### Length -/
theorem dec_len {v : Int} {k : Nat} (hk : 1 ≤ k) (h : v.toNat < 10 ^ k) : (dec v).length ≤ k := by
  have := decF_len 20 v.toNat k [] h hk
  unfold dec; simpa using this
theorem refTxt_len {r : Ref} (h : refIn r) : (refTxt r).length ≤ 5 := by
  have hd := dec_len (v := r.row + 1) (k := 2) (by decide) (by have := h.2.2.2; have := h.2.2.1; show _ < 100; omega)
  unfold refTxt
  simp only [List.length_append, List.length_cons]
  split <;> split <;> simp <;> omega
theorem leaf_len {x : Nd} {arg : Bool} (h : Leaf x arg) : (leafTxt x).length ≤ 11 := by
  rcases h with ⟨v, e, h1, h2⟩ | e | e | ⟨r, e, hr⟩ | e | ⟨_, r, s, e, hr, hs⟩ <;> rw [e]
  · have := (dec_digits h1 h2).2.2.2
    show (dec v).length ≤ 11; omega
  · decide
  · decide
  · have := refTxt_len hr
    show (refTxt r).length ≤ 11; omega
  · decide
  · have := refTxt_len hr
    have := refTxt_len hs
    show (refTxt r ++ 58 :: refTxt s).length ≤ 11
    simp only [List.length_append, List.length_cons]; omega
theorem bracket_le (lv need : Int) (s : List Int) : (bracket lv need s).length ≤ s.length + 2 := by
  unfold bracket; split <;> simp
theorem opTxt_len (op : Int) : (opTxt op).length ≤ 2 := by
  unfold opTxt; repeat' split
  all_goals decide
theorem fn_len (op : Int) : (fnName op).length ≤ 5 := by
  unfold fnName; repeat' split
  all_goals decide
theorem lk_len {f : Nat} {rg : Bool} (hS : ∀ i lo a need, need ≤ 5 → Sp L f i lo a → (tx L i need).length + 11 * lo ≤ 11 * (i + 1)) :
    ∀ (k i lo : Nat), Lk (Sp L f) L rg k i lo → (axt L i).length + 11 * lo ≤ 11 * (i + 1)
  | 0, _, _, h => h.elim
  | k + 1, i, lo, h => by
    obtain ⟨a1, a2, m, h3, h4⟩ := h
    have h5 := hS _ _ _ 1 (by decide) h3
    rcases h4 with ⟨_, e, el⟩ | ⟨_, hm, e, d⟩
    · rw [axt_one a1 e]; omega
    · have h6 := lk_len hS k _ _ d
      rw [axt_more a1 hm (Sp.le _ _ _ _ h3) e d]
      simp only [List.length_append, List.length_cons]
      omega
theorem sp_len : ∀ (f i lo : Nat) (a : Bool) (need : Int), need ≤ 5 → Sp L f i lo a → (tx L i need).length + 11 * lo ≤ 11 * (i + 1)
  | 0, _, _, _, _, _, h => h.elim
  | f + 1, i, lo, a, need, hn, h => by
    obtain ⟨h0, h⟩ := h
    rcases h with ⟨e, hl⟩ | ⟨a1, a2, a3⟩ | ⟨op, m, a1, a2, a3, a4, a5, a6, a7⟩ | ⟨op, k, a1, a2, a3, a4⟩
    · rw [tx_leaf hl hn]; have := leaf_len hl; omega
    · have ih := sp_len f _ _ _ 4 (by decide) a3
      rw [tx_neg a1 a2]
      have := bracket_le 4 need (45 :: tx L (i - 1) 4)
      simp only [List.length_cons] at this
      omega
    · have hl5 : leftNeed (level (nd L i)) ≤ 5 ∧ level (nd L i) + 1 ≤ 5 := by
        rw [a5]; exact bin_need _ _ _
      have ihB := sp_len f _ _ _ (level (nd L i) + 1) hl5.2 a6
      have ihA := sp_len f _ _ _ (leftNeed (level (nd L i))) hl5.1 a7
      rw [tx_bin a3 a4 a5 a6 a7]
      have h1 := bracket_le (level (nd L i)) need (tx L (m - 1) (leftNeed (level (nd L i))) ++ opTxt op ++ tx L (i - 1) (level (nd L i) + 1))
      have h2 := opTxt_len op
      simp only [List.length_append] at h1
      omega
    · have ih := lk_len (fun i lo a need hn h => sp_len f i lo a need hn h) _ _ _ a4
      rw [tx_call a1 a2 a4 hn]
      have := fn_len op
      simp only [List.length_append, List.length_cons, List.length_nil]
      omega
end
end Go.Proofs.Qxb6500326aGreat
