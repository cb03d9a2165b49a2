/-
  DERIVED. PLAIN: the machine with two stacks answers as the recursive descent: signs, chains, expressions, the text.
-/
import Derived.Test.Qxb6500326aGreatP6
namespace Go.Proofs.Qxb6500326aGreat
set_option linter.unusedVariables false
set_option linter.unusedSimpArgs false
section
variable {b : Nat → Int} {n : Nat}
theorem settle_neg_ok {st : PS} (h0 : st.err = 0) (a : Int) (V : List Int) (O : List Mk) :
    (st.n.length < 24 ∧ st.add (nNeg a) = (⟨st.i, st.n ++ [nNeg a], 0, st.pos⟩, (st.n.length : Int)) ∧
      (mkR st.i st.n (a :: V) (⟨1, 0, 0, 0, 0⟩ :: O) false).settle = (mkR st.i (st.n ++ [nNeg a]) ((st.n.length : Int) :: V) O false).settle) ∨
    (st.add (nNeg a) = (⟨st.i, st.n, 7, st.i⟩, -1) ∧ Failed ((mkR st.i st.n (a :: V) (⟨1, 0, 0, 0, 0⟩ :: O) false).settle) 7 st.i) := by
  have hn : negs (⟨1, 0, 0, 0, 0⟩ :: O) (mkR st.i st.n (a :: V) (⟨1, 0, 0, 0, 0⟩ :: O) true) = negs O ((mkR st.i st.n V O true).addTo (nNeg a)) := rfl
  have hs : (mkR st.i st.n (a :: V) (⟨1, 0, 0, 0, 0⟩ :: O) false).settle = (let s := negs (⟨1, 0, 0, 0, 0⟩ :: O) (mkR st.i st.n (a :: V) (⟨1, 0, 0, 0, 0⟩ :: O) true); if topOf s.O = 3 then s.join else s) := rfl
  rcases add_two h0 (nNeg a) with ⟨hl, e1, e2⟩ | ⟨e1, e2⟩
  · refine .inl ⟨hl, e1, ?_⟩
    rw [hs, hn]; unfold RS.addTo; rw [e2]; rfl
  · refine .inr ⟨e1, ?_⟩
    rw [hs, hn]
    have := failed_negs O (((e2 V O true).vo ((RS.add (mkR st.i st.n V O true) (nNeg a)).2 :: (RS.add (mkR st.i st.n V O true) (nNeg a)).1.V) (RS.add (mkR st.i st.n V O true) (nNeg a)).1.O))
    show Failed (if topOf (negs O _).O = 3 then (negs O _).join else negs O _) 7 st.i
    split
    · exact this.join
    · exact this
theorem sim_unary {f F : Nat} {ex : Bool → PS → PS × Int} (hex : ExOK b n f ex) (hF : n < F) :
    ∀ (m : Nat) (st : PS) (V : List Int) (O : List Mk), st.err = 0 → st.i ≤ n → n - st.i < m → n - st.i ≤ f →
      Sim b n (st.i + 1) (unaryM b n ex F m (rangesOf O) st) (mkR st.i st.n V O false) QT (settleK V O)
  | 0, st, V, O, h0, hi, hm, hf => by omega
  | m + 1, st, V, O, h0, hi, hm, hf => by
    have hge := le_skip (b := b) (n := n) st.i
    unfold unaryM
    rcases (look_two (b := b) (n := n) (st := st) h0).symm with ⟨e, hk⟩ | ⟨e, hk, hkn⟩
    · rw [e]
      simp only []
      rw [if_neg (by decide), atomM_err (by show (2 : Int) ≠ 0; decide)]
      exact sim_fail (step_char hi hk _ _ _ _) rfl rfl
    rw [e]
    simp only [show (st.go (skip b n st.i)).i = skip b n st.i from rfl]
    by_cases h45 : Ch b n st.i = 45
    · rw [if_pos h45]
      obtain ⟨t1, t2⟩ := lex_plus (b := b) (n := n) (i := st.i) (by rw [addOp_ne]; omega)
      have h8 : addOp (Ch b n st.i) = 8 := by rw [h45]; decide
      have hstep := step_neg (b := b) (n := n) (i := st.i) (l := st.n) (V := V) (O := O) hi (by rw [t1]) (by rw [t1]; exact h8)
      rw [t1] at hstep
      have ih := sim_unary hex hF m (st.go (skip b n st.i + 1)) V (⟨1, 0, 0, 0, 0⟩ :: O) h0 (by show skip b n st.i + 1 ≤ n; omega) (by show n - (skip b n st.i + 1) < m; omega) (by show n - (skip b n st.i + 1) ≤ f; omega)
      have hrg : rangesOf (⟨1, 0, 0, 0, 0⟩ :: O) = false := rfl
      rw [hrg] at ih
      have hgo : (st.go (skip b n st.i)).go (skip b n st.i + 1) = st.go (skip b n st.i + 1) := rfl
      rw [hgo]
      generalize unaryM b n ex F m false (st.go (skip b n st.i + 1)) = r at ih ⊢
      obtain ⟨s, a⟩ := r
      simp only []
      by_cases he : s.err ≠ 0
      · rw [add_err he]
        exact sim_bad he (ends_mk (by rw [hstep]; exact ih.1 he))
      have he0 : s.err = 0 := by simpa using he
      obtain ⟨g1, g2, -, g4⟩ := ih.2 he0
      simp only [show (st.go (skip b n st.i + 1)).i = skip b n st.i + 1 from rfl] at g1 g2 g4
      rcases settle_neg_ok he0 a V O with ⟨_, e1, e2⟩ | ⟨e1, e2⟩
      · rw [e1]
        refine sim_good rfl (by show st.i + 1 ≤ s.i; omega) g2 trivial (fun R hR => ends_mk ?_)
        rw [hstep]; refine g4 R ?_
        unfold settleK; rw [e2]; exact hR
      · rw [e1]
        refine sim_bad (show (7 : Int) ≠ 0 by decide) (ends_mk ?_)
        rw [hstep]
        exact g4 _ (ends_failed e2)
    · rw [if_neg h45]
      have := sim_atom hex hF (st := st.go (skip b n st.i)) h0 (skip_le hi) (by show n - skip b n st.i ≤ f; omega) (by show Ch b n (skip b n st.i) ≠ 45; rw [Ch_idem]; exact h45) V O
      exact this.from (by show st.i + 1 ≤ skip b n st.i + 1; omega) (fun R hR => ends_skip hi hR)

/-! ### Chains -/
/-- Neither a sign nor an operator of strength s or more lies on top. -/
def lowTop (s : Int) (O : List Mk) : Prop := (∀ m O', O = m :: O' → m.kind ≠ 1) ∧ topOf O < s
theorem settle_low {i : Nat} {l : List Nd} {V : List Int} {O : List Mk} {h : Bool} (hO : lowTop 3 O) : (mkR i l V O h).settle = mkR i l V O true := by
  have hn : negs O (mkR i l V O true) = mkR i l V O true := by
    cases O with
    | nil => rfl
    | cons m O' => unfold negs; rw [if_neg (hO.1 m O' rfl)]
  have : (mkR i l V O h).settle = (let s := negs O (mkR i l V O true); if topOf s.O = 3 then s.join else s) := rfl
  rw [this, hn]
  show (if topOf O = 3 then _ else _) = _
  rw [if_neg (by have := hO.2; omega)]
theorem lowTop.mono {s s' : Int} {O : List Mk} (h : lowTop s O) (hs : s ≤ s') : lowTop s' O := ⟨h.1, Int.lt_of_lt_of_le h.2 hs⟩
theorem topOf_bin (op : Int) (O : List Mk) : topOf (⟨2, op, 0, 0, 0⟩ :: O) = strength op := by simp [topOf]
theorem low_bin {op s : Int} {O : List Mk} (h : strength op < s) : lowTop s (⟨2, op, 0, 0, 0⟩ :: O) :=
  ⟨fun m O' e => by cases e; show (2 : Int) ≠ 1; decide, by rw [topOf_bin]; exact h⟩
/-- A join of the operator on top: both sides add. -/
theorem join_two {st : PS} (h0 : st.err = 0) (op x y : Int) (V : List Int) (O : List Mk) (h : Bool) :
    (st.add (nBin op x y) = (⟨st.i, st.n ++ [nBin op x y], 0, st.pos⟩, (st.n.length : Int)) ∧
      (mkR st.i st.n (y :: x :: V) (⟨2, op, 0, 0, 0⟩ :: O) h).join = mkR st.i (st.n ++ [nBin op x y]) ((st.n.length : Int) :: V) O h) ∨
    (st.add (nBin op x y) = (⟨st.i, st.n, 7, st.i⟩, -1) ∧ Failed ((mkR st.i st.n (y :: x :: V) (⟨2, op, 0, 0, 0⟩ :: O) h).join) 7 st.i) := by
  have hj : (mkR st.i st.n (y :: x :: V) (⟨2, op, 0, 0, 0⟩ :: O) h).join = (mkR st.i st.n V O h).addTo (nBin op x y) := rfl
  rcases add_two h0 (nBin op x y) with ⟨hl, e1, e2⟩ | ⟨e1, e2⟩
  · refine .inl ⟨e1, ?_⟩
    rw [hj]; unfold RS.addTo; rw [e2]; rfl
  · refine .inr ⟨e1, ?_⟩
    rw [hj]; exact (e2 V O h).vo _ _
/-- Where an operator of strength s ≥ 1 is at hand and nothing on top is to be joined first. -/
theorem after_push {i : Nat} (hi : i ≤ n) (hk : (lex b n i).kind ≠ 1) {l : List Nd} {a : Int} {V : List Int} {O : List Mk} (hs : strOf (lex b n i) ≠ 0) (hO : topOf O < strOf (lex b n i)) (h3 : strOf (lex b n i) ≤ 3) :
    (mkR i l (a :: V) O true).step b n = if isRange l a = true then (mkR (skip b n i) l (a :: V) O true).fail 3 (skip b n i) else mkR (lex b n i).fin l (a :: V) (⟨2, (lex b n i).n, 0, 0, 0⟩ :: O) false := by
  rw [after_ok hi hk]
  have hj : (mkR (skip b n i) l (a :: V) O true).join2 (strOf (lex b n i)) = mkR (skip b n i) l (a :: V) O true := by
    unfold RS.join2; rw [if_neg (by show ¬ (_ ∧ topOf O = 2); omega)]
  rw [hj]
  unfold RS.after2
  rw [if_neg (by show ¬ (_ ∧ topOf O = 1); omega), if_neg hs]
  unfold RS.after3
  simp only [mkR]
  rw [lex_st hi]
  congr 1
  show ({ (RS.take b n (mkR (skip b n i) l (a :: V) O true)).push ⟨2, (lex b n i).n, 0, 0, 0⟩ with hav := false } : RS) = _
  rw [takeR, lex_idem]; rfl

/-- The byte at hand is known and no '*' or '/'. -/
def Q3 (b : Nat → Int) (n : Nat) (s : PS) : Prop := Lkd b n s ∧ mulOp (Ch b n s.i) = 0
def Q2 (b : Nat → Int) (n : Nat) (s : PS) : Prop := Q3 b n s ∧ addOp (Ch b n s.i) = 0
def haveK (V : List Int) (O : List Mk) : PS → Int → RS := fun s v => mkR s.i s.n (v :: V) O true
theorem lkd_skip {st : PS} {i : Nat} (hi : i ≤ n) (hk : (lex b n i).kind ≠ 1) : Lkd b n (st.go (skip b n i)) := ⟨skip_idem _, by show (lex b n (skip b n i)).kind ≠ 1; rw [lex_idem]; exact hk⟩
theorem strOf_mul {i : Nat} (h : mulOp (Ch b n i) ≠ 0) : strOf (lex b n i) = 3 := by rw [strOf_lex, if_pos h]
theorem strOf_add {i : Nat} (h : addOp (Ch b n i) ≠ 0) : strOf (lex b n i) = 2 := by
  rw [strOf_lex, if_neg (by rw [addOp_ne] at h; rw [mulOp_ne]; omega), if_pos h]
theorem strOf_cmp {i : Nat} (h : isCmp (Ch b n i) = true) : strOf (lex b n i) = 1 := by
  rw [strOf_lex, if_neg (by rw [isCmp_iff] at h; rw [mulOp_ne]; omega), if_neg (by rw [isCmp_iff] at h; rw [addOp_ne]; omega), if_pos h]
theorem strOf_none {i : Nat} (h1 : mulOp (Ch b n i) = 0) (h2 : addOp (Ch b n i) = 0) (h3 : isCmp (Ch b n i) = false) : strOf (lex b n i) = 0 := by
  rw [strOf_lex, if_neg (by simp [h1]), if_neg (by simp [h2]), if_neg (by simp [h3])]
theorem strOf_low {i : Nat} (h1 : mulOp (Ch b n i) = 0) : strOf (lex b n i) < 3 := by
  rw [strOf_lex, if_neg (by simp [h1])]; repeat' split
  all_goals decide
theorem strOf_low2 {i : Nat} (h1 : mulOp (Ch b n i) = 0) (h2 : addOp (Ch b n i) = 0) : strOf (lex b n i) < 2 := by
  rw [strOf_lex, if_neg (by simp [h1]), if_neg (by simp [h2])]; split <;> decide
theorem mulOp_str {c : Int} (h : mulOp c ≠ 0) : strength (mulOp c) = 3 := by rw [mulOp_ne] at h; rcases h with h | h <;> rw [h] <;> decide
theorem addOp_str {c : Int} (h : addOp c ≠ 0) : strength (addOp c) = 2 := by rw [addOp_ne] at h; rcases h with h | h <;> rw [h] <;> decide
theorem cmpOp_str (c d : Int) : strength (cmpOp c d).1 = 1 := by unfold cmpOp; repeat' split
                                                                 all_goals rfl

/-- The loop of '*' and '/'. -/
theorem sim_loop3 {f F : Nat} {ex : Bool → PS → PS × Int} (hex : ExOK b n f ex) (hF : n < F) :
    ∀ (m : Nat) (st : PS) (a : Int) (V : List Int) (O : List Mk), st.err = 0 → st.i ≤ n → n - st.i < m → n - st.i ≤ f → lowTop 3 O →
      Sim b n st.i (chainLoop b n mulOp (unaryM b n ex F F false) m st a) (mkR st.i st.n (a :: V) O true) (Q3 b n) (haveK V O)
  | 0, st, a, V, O, h0, hi, hm, hf, hO => by omega
  | m + 1, st, a, V, O, h0, hi, hm, hf, hO => by
    have hge := le_skip (b := b) (n := n) st.i
    have hle := skip_le (b := b) (n := n) (i := st.i) hi
    unfold chainLoop
    rw [if_neg (by simp [h0])]
    rcases (look_two (b := b) (n := n) (st := st) h0).symm with ⟨e, hk⟩ | ⟨e, hk, hkn⟩
    · rw [e]
      simp only []
      rw [if_pos (by decide)]
      exact sim_fail (step_char hi hk _ _ _ _) rfl rfl
    rw [e]
    simp only [show (st.go (skip b n st.i)).i = skip b n st.i from rfl]
    by_cases hop : mulOp (Ch b n st.i) = 0
    · rw [if_pos hop]
      exact sim_good h0 hge hle ⟨lkd_skip hi hk, by show mulOp (Ch b n (skip b n st.i)) = 0; rw [Ch_idem]; exact hop⟩ (fun R hR => ends_skip hi hR)
    · rw [if_neg hop]
      obtain ⟨t1, t2⟩ := lex_mul (b := b) (n := n) (i := st.i) hop
      have hst := after_push (b := b) (n := n) hi hk (l := st.n) (a := a) (V := V) (O := O) (by rw [strOf_mul hop]; decide) (by rw [strOf_mul hop]; exact hO.2) (by rw [strOf_mul hop]; decide)
      by_cases hr : isRange st.n a = true
      · rw [if_pos (by exact hr)]
        rw [if_pos hr] at hst
        refine sim_fail ?_ rfl rfl
        rw [hst, fail_ok (by exact h0)]
        exact Failed.new rfl (by decide)
      · rw [if_neg (by exact hr)]
        rw [if_neg hr, t1] at hst
        simp only [] at hst
        have hS := sim_unary hex hF F (st.go (skip b n st.i + 1)) (a :: V) (⟨2, mulOp (Ch b n st.i), 0, 0, 0⟩ :: O) h0 (by show skip b n st.i + 1 ≤ n; omega) (by show n - (skip b n st.i + 1) < F; omega) (by show n - (skip b n st.i + 1) ≤ f; omega)
        have hrg : rangesOf (⟨2, mulOp (Ch b n st.i), 0, 0, 0⟩ :: O) = false := rfl
        rw [hrg] at hS
        have hgo : (st.go (skip b n st.i)).go (skip b n st.i + 1) = st.go (skip b n st.i + 1) := rfl
        rw [hgo]
        generalize unaryM b n ex F F false (st.go (skip b n st.i + 1)) = r at hS ⊢
        obtain ⟨s, y⟩ := r
        simp only []
        by_cases he : s.err ≠ 0
        · rw [add_err he]
          have : ∀ m, chainLoop b n mulOp (unaryM b n ex F F false) m s (-1) = (s, -1) := by
            intro m; cases m <;> simp [chainLoop, he]
          rw [this]
          exact sim_bad he (ends_mk (by rw [hst]; exact hS.1 he))
        have he0 : s.err = 0 := by simpa using he
        obtain ⟨g1, g2, -, g4⟩ := hS.2 he0
        simp only [show (st.go (skip b n st.i + 1)).i = skip b n st.i + 1 from rfl] at g1 g2 g4
        have hset : (mkR s.i s.n (y :: a :: V) (⟨2, mulOp (Ch b n st.i), 0, 0, 0⟩ :: O) false).settle = (mkR s.i s.n (y :: a :: V) (⟨2, mulOp (Ch b n st.i), 0, 0, 0⟩ :: O) true).join := by
          show (if topOf (⟨2, mulOp (Ch b n st.i), 0, 0, 0⟩ :: O) = 3 then _ else _) = _
          rw [if_pos (by rw [topOf_bin]; exact mulOp_str hop)]
          rfl
        rcases join_two he0 (mulOp (Ch b n st.i)) a y V O true with ⟨e1, e2⟩ | ⟨e1, e2⟩
        · rw [e1]
          have ih := sim_loop3 hex hF m ⟨s.i, s.n ++ [nBin (mulOp (Ch b n st.i)) a y], 0, s.pos⟩ (s.n.length : Int) V O rfl g2 (by show n - s.i < m; omega) (by show n - s.i ≤ f; omega) hO
          refine ih.from (by show st.i ≤ s.i; omega) (fun R hR => ends_mk ?_)
          rw [hst]; refine g4 R ?_
          unfold settleK; rw [hset, e2]; exact hR
        · rw [e1]
          have : ∀ m, chainLoop b n mulOp (unaryM b n ex F F false) m ⟨s.i, s.n, 7, s.i⟩ (-1) = (⟨s.i, s.n, 7, s.i⟩, -1) := by
            intro m; cases m <;> simp [chainLoop]
          rw [this]
          refine sim_bad (show (7 : Int) ≠ 0 by decide) (ends_mk ?_)
          rw [hst]
          refine g4 _ (ends_failed ?_)
          unfold settleK; rw [hset]; exact e2
theorem sim_chain3 {f F : Nat} {ex : Bool → PS → PS × Int} (hex : ExOK b n f ex) (hF : n < F) {st : PS} (V : List Int) (O : List Mk) (h0 : st.err = 0) (hi : st.i ≤ n) (hf : n - st.i ≤ f) (hO : lowTop 3 O) :
    Sim b n (st.i + 1) (chain3 b n ex F (rangesOf O) st) (mkR st.i st.n V O false) (Q3 b n) (haveK V O) := by
  have hS := sim_unary hex hF F st V O h0 hi (by omega) hf
  unfold chain3
  generalize unaryM b n ex F F (rangesOf O) st = r at hS ⊢
  obtain ⟨s, a⟩ := r
  simp only []
  by_cases he : s.err ≠ 0
  · have : ∀ m, ∃ v, chainLoop b n mulOp (unaryM b n ex F F false) m s a = (s, v) := by
      intro m; cases m <;> simp [chainLoop, he]
    obtain ⟨v, hv⟩ := this F
    rw [hv]
    exact sim_bad he (hS.1 he)
  have he0 : s.err = 0 := by simpa using he
  obtain ⟨g1, g2, -, g4⟩ := hS.2 he0
  simp only [] at g1 g2 g4
  refine (sim_loop3 hex hF F s a V O he0 g2 (by omega) (by omega) hO).from g1 (fun R hR => g4 R ?_)
  unfold settleK; rw [settle_low hO]; exact hR
/-- The loop of '+' and '-'. -/
theorem sim_loop2 {f F : Nat} {ex : Bool → PS → PS × Int} (hex : ExOK b n f ex) (hF : n < F) :
    ∀ (m : Nat) (st : PS) (a : Int) (V : List Int) (O : List Mk), st.err = 0 → st.i ≤ n → n - st.i < m → n - st.i ≤ f → lowTop 2 O → Q3 b n st →
      Sim b n st.i (chainLoop b n addOp (chain3 b n ex F false) m st a) (mkR st.i st.n (a :: V) O true) (Q2 b n) (haveK V O)
  | 0, st, a, V, O, h0, hi, hm, hf, hO, hQ => by omega
  | m + 1, st, a, V, O, h0, hi, hm, hf, hO, hQ => by
    unfold chainLoop
    rw [if_neg (by simp [h0])]
    rw [look_lkd h0 hQ.1]
    have hk := hQ.1.2
    have hsk := hQ.1.1
    simp only []
    by_cases hop : addOp (Ch b n st.i) = 0
    · rw [if_pos hop]
      exact sim_good h0 (Nat.le_refl _) hi ⟨hQ, hop⟩ (fun R hR => hR)
    · rw [if_neg hop]
      obtain ⟨t1, t2⟩ := lex_plus (b := b) (n := n) (i := st.i) hop
      have hst := after_push (b := b) (n := n) hi hk (l := st.n) (a := a) (V := V) (O := O) (by rw [strOf_add hop]; decide) (by rw [strOf_add hop]; exact hO.2) (by rw [strOf_add hop]; decide)
      rw [hsk] at hst t1 t2
      by_cases hr : isRange st.n a = true
      · rw [if_pos hr]
        rw [if_pos hr] at hst
        refine sim_fail ?_ rfl rfl
        rw [hst, fail_ok (by exact h0)]
        exact Failed.new rfl (by decide)
      · rw [if_neg hr]
        rw [if_neg hr, t1] at hst
        simp only [] at hst
        have hS := sim_chain3 hex hF (st := st.go (st.i + 1)) (a :: V) (⟨2, addOp (Ch b n st.i), 0, 0, 0⟩ :: O) h0 (by show st.i + 1 ≤ n; omega) (by show n - (st.i + 1) ≤ f; omega) (low_bin (by rw [addOp_str hop]; decide))
        have hrg : rangesOf (⟨2, addOp (Ch b n st.i), 0, 0, 0⟩ :: O) = false := rfl
        rw [hrg] at hS
        generalize chain3 b n ex F false (st.go (st.i + 1)) = r at hS ⊢
        obtain ⟨s, y⟩ := r
        simp only []
        by_cases he : s.err ≠ 0
        · rw [add_err he]
          have : ∀ m, chainLoop b n addOp (chain3 b n ex F false) m s (-1) = (s, -1) := by
            intro m; cases m <;> simp [chainLoop, he]
          rw [this]
          exact sim_bad he (ends_mk (by rw [hst]; exact hS.1 he))
        have he0 : s.err = 0 := by simpa using he
        obtain ⟨g1, g2, gQ, g4⟩ := hS.2 he0
        simp only [show (st.go (st.i + 1)).i = st.i + 1 from rfl] at g1 g2 g4 gQ
        have hj2 : ((mkR s.i s.n (y :: a :: V) (⟨2, addOp (Ch b n st.i), 0, 0, 0⟩ :: O) true).join2 (strOf (lex b n s.i))) = (mkR s.i s.n (y :: a :: V) (⟨2, addOp (Ch b n st.i), 0, 0, 0⟩ :: O) true).join := by
          unfold RS.join2
          rw [if_pos ⟨strOf_low gQ.2, (topOf_bin _ _).trans (addOp_str hop)⟩]
        have hstep2 := after_ok (b := b) (n := n) (i := s.i) g2 gQ.1.2 s.n (y :: a :: V) (⟨2, addOp (Ch b n st.i), 0, 0, 0⟩ :: O)
        rw [gQ.1.1, hj2] at hstep2
        rcases join_two he0 (addOp (Ch b n st.i)) a y V O true with ⟨e1, e2⟩ | ⟨e1, e2⟩
        · rw [e1]
          have ih := sim_loop2 hex hF m ⟨s.i, s.n ++ [nBin (addOp (Ch b n st.i)) a y], 0, s.pos⟩ (s.n.length : Int) V O rfl g2 (by show n - s.i < m; omega) (by show n - s.i ≤ f; omega) hO gQ
          refine ih.from (by show st.i ≤ s.i; omega) (fun R hR => ends_mk ?_)
          rw [hst]; refine g4 R ?_
          refine ends_same rfl rfl rfl rfl ?_ hR
          unfold haveK
          rw [hstep2, e2, after_ok (b := b) (n := n) (i := s.i) g2 gQ.1.2, gQ.1.1]
          congr 1
          unfold RS.join2
          rw [if_neg (by show ¬ (_ ∧ topOf O = 2); have := hO.2; omega)]
        · rw [e1]
          have : ∀ m, chainLoop b n addOp (chain3 b n ex F false) m ⟨s.i, s.n, 7, s.i⟩ (-1) = (⟨s.i, s.n, 7, s.i⟩, -1) := by
            intro m; cases m <;> simp [chainLoop]
          rw [this]
          refine sim_bad (show (7 : Int) ≠ 0 by decide) (ends_mk ?_)
          rw [hst]
          refine g4 _ (ends_mk ?_)
          rw [hstep2]
          exact ends_failed (e2.after2 _ _)
theorem sim_chain2 {f F : Nat} {ex : Bool → PS → PS × Int} (hex : ExOK b n f ex) (hF : n < F) {st : PS} (V : List Int) (O : List Mk) (h0 : st.err = 0) (hi : st.i ≤ n) (hf : n - st.i ≤ f) (hO : lowTop 2 O) :
    Sim b n (st.i + 1) (chain2 b n ex F (rangesOf O) st) (mkR st.i st.n V O false) (Q2 b n) (haveK V O) := by
  have hS := sim_chain3 hex hF V O h0 hi hf (hO.mono (by decide))
  unfold chain2
  generalize chain3 b n ex F (rangesOf O) st = r at hS ⊢
  obtain ⟨s, a⟩ := r
  simp only []
  by_cases he : s.err ≠ 0
  · have : ∀ m, ∃ v, chainLoop b n addOp (chain3 b n ex F false) m s a = (s, v) := by
      intro m; cases m <;> simp [chainLoop, he]
    obtain ⟨v, hv⟩ := this F
    rw [hv]
    exact sim_bad he (hS.1 he)
  have he0 : s.err = 0 := by simpa using he
  obtain ⟨g1, g2, gQ, g4⟩ := hS.2 he0
  simp only [] at g1 g2 g4
  exact (sim_loop2 hex hF F s a V O he0 g2 (by omega) (by omega) hO gQ).from g1 (fun R hR => g4 R hR)
theorem base_low {O : List Mk} (h : base O) : lowTop 1 O := by
  refine ⟨fun m O' e => ?_, ?_⟩
  · rcases h m O' e with h | h <;> rw [h] <;> decide
  · cases O with
    | nil => decide
    | cons m O' =>
      have hm : m.kind ≠ 2 := by rcases h m O' rfl with h | h <;> rw [h] <;> decide
      simp [topOf, hm]
theorem sim_expr {f F : Nat} {ex : Bool → PS → PS × Int} (hex : ExOK b n f ex) (hF : n < F) {st : PS} (V : List Int) (O : List Mk) (h0 : st.err = 0) (hi : st.i ≤ n) (hf : n - st.i ≤ f) (hO : base O) :
    Sim b n (st.i + 1) (exprM b n ex F (rangesOf O) st) (mkR st.i st.n V O false) (Lkd b n) (closeK b n V O) := by
  have hlow := base_low hO
  have hS := sim_chain2 hex hF V O h0 hi hf (hlow.mono (by decide))
  unfold exprM
  generalize chain2 b n ex F (rangesOf O) st = r at hS ⊢
  obtain ⟨s, a⟩ := r
  simp only []
  by_cases he : s.err ≠ 0
  · rw [look_err he]
    simp only []
    rw [if_neg (by decide)]
    exact sim_bad he (hS.1 he)
  have he0 : s.err = 0 := by simpa using he
  obtain ⟨g1, g2, gQ, g4⟩ := hS.2 he0
  simp only [] at g1 g2 g4
  rw [look_lkd he0 gQ.1.1]
  have hk := gQ.1.1.2
  have hsk := gQ.1.1.1
  simp only []
  by_cases hc : isCmp (Ch b n s.i) = true
  · rw [if_pos hc]
    obtain ⟨t1, t2⟩ := lex_cmp (b := b) (n := n) (i := s.i) hc
    have hst := after_push (b := b) (n := n) g2 hk (l := s.n) (a := a) (V := V) (O := O) (by rw [strOf_cmp hc]; decide) (by rw [strOf_cmp hc]; exact hlow.2) (by rw [strOf_cmp hc]; decide)
    rw [hsk] at hst t1 t2
    by_cases hr : isRange s.n a = true
    · rw [if_pos hr]
      rw [if_pos hr] at hst
      have hFd := failed_err (st := s) he0 (e := 3) (by decide) s.i (X := mkR s.i s.n (a :: V) O true) rfl
      refine sim_bad hFd.ne (g4 _ (ends_mk ?_))
      rw [hst]; exact ends_failed hFd
    · rw [if_neg hr]
      rw [if_neg hr, t1] at hst
      simp only [] at hst
      generalize hcw : cmpOp (Ch b n s.i) (nextB b n s.i) = cw at *
      have hw1 : 1 ≤ cw.2 := by rw [← hcw]; exact (cmpOp_w _ _).1
      have hw2 : s.i + cw.2 ≤ n := by rw [← hcw]; exact cmpOp_fits t2
      have hstr : strength cw.1 = 1 := by rw [← hcw]; exact cmpOp_str _ _
      have hS2 := sim_chain2 hex hF (st := s.go (s.i + cw.2)) (a :: V) (⟨2, cw.1, 0, 0, 0⟩ :: O) he0 hw2 (by show n - (s.i + cw.2) ≤ f; omega) (low_bin (by rw [hstr]; decide))
      have hrg : rangesOf (⟨2, cw.1, 0, 0, 0⟩ :: O) = false := rfl
      rw [hrg] at hS2
      generalize chain2 b n ex F false (s.go (s.i + cw.2)) = r2 at hS2 ⊢
      obtain ⟨u, y⟩ := r2
      simp only []
      by_cases hu : u.err ≠ 0
      · rw [add_err hu]
        exact sim_bad hu (g4 _ (ends_mk (by rw [hst]; exact hS2.1 hu)))
      have hu0 : u.err = 0 := by simpa using hu
      obtain ⟨k1, k2, kQ, k4⟩ := hS2.2 hu0
      simp only [show (s.go (s.i + cw.2)).i = s.i + cw.2 from rfl] at k1 k2 k4
      have hstep2 := after_ok (b := b) (n := n) (i := u.i) k2 kQ.1.1.2 u.n (y :: a :: V) (⟨2, cw.1, 0, 0, 0⟩ :: O)
      have htop : topOf (⟨2, cw.1, 0, 0, 0⟩ :: O) = 1 := (topOf_bin _ _).trans hstr
      have hj2 : ((mkR u.i u.n (y :: a :: V) (⟨2, cw.1, 0, 0, 0⟩ :: O) true).join2 (strOf (lex b n u.i))) = mkR u.i u.n (y :: a :: V) (⟨2, cw.1, 0, 0, 0⟩ :: O) true := by
        unfold RS.join2
        rw [if_neg (by show ¬ (_ ∧ topOf (⟨2, cw.1, 0, 0, 0⟩ :: O) = 2); rw [htop]; omega)]
      rw [kQ.1.1.1, hj2] at hstep2
      unfold RS.after2 at hstep2
      rw [if_pos ⟨strOf_low2 kQ.1.2 kQ.2, htop⟩] at hstep2
      rcases join_two hu0 cw.1 a y V O true with ⟨e1, e2⟩ | ⟨e1, e2⟩
      · rw [e1]
        refine sim_good rfl (by show st.i + 1 ≤ u.i; omega) k2 kQ.1.1 (fun R hR => g4 R (ends_mk ?_))
        rw [hst]; refine k4 R (ends_mk ?_)
        rw [hstep2, e2]; exact hR
      · rw [e1]
        refine sim_bad (show (7 : Int) ≠ 0 by decide) (g4 _ (ends_mk ?_))
        rw [hst]
        refine k4 _ (ends_mk ?_)
        rw [hstep2]
        exact ends_failed (e2.close _)
  · rw [if_neg hc]
    refine sim_good he0 g1 g2 gQ.1.1 (fun R hR => g4 R (ends_mk ?_))
    have hs0 := strOf_none gQ.1.2 gQ.2 (by simpa using hc)
    rw [after_ok (b := b) (n := n) g2 hk, hsk, hs0]
    have hj2 : (mkR s.i s.n (a :: V) O true).join2 0 = mkR s.i s.n (a :: V) O true := by
      unfold RS.join2
      rw [if_neg (by show ¬ (_ ∧ topOf O = 2); have := hlow.2; omega)]
    rw [hj2]
    unfold RS.after2
    rw [if_neg (by show ¬ (_ ∧ topOf O = 1); have := hlow.2; omega), if_pos rfl]
    exact hR
theorem exprD_ok : ∀ f, ExOK b n f (exprD b n f)
  | 0 => fun ranges st V O h0 hi hf hO hr => by omega
  | f + 1 => fun ranges st V O h0 hi hf hO hr => by
    rw [← hr]
    exact sim_expr (exprD_ok f) (Nat.lt_succ_self n) V O h0 hi (by omega) hO
end
/-- The real parser ends with the model's tree (its root: the last node). -/
theorem real_ends {b : Nat → Int} {n : Nat} (hn : n ≤ 40) :
    Ends b n rs0 (if (parseM b n).err = 0 then ⟨(parseM b n).nodes, ((parseM b n).nodes.length : Int) - 1, 0, 0⟩ else parseM b n) := by
  have hS := exprD_ok (b := b) (n := n) (n + 1) false ps0 [] [] rfl (Nat.zero_le _) (by show n - 0 < n + 1; omega) (fun m O' e => by cases e) rfl
  unfold parseM
  simp only [if_neg (show ¬ 40 < n by omega)]
  generalize exprD b n (n + 1) false ps0 = r at hS ⊢
  obtain ⟨s, a⟩ := r
  simp only []
  by_cases he : s.err ≠ 0
  · rw [look_err he]
    simp only [if_true]
    have he' : (s.go (skip b n s.i)).err ≠ 0 := he
    rw [if_neg he']
    simp only []
    rw [if_neg he']
    exact hS.1 he
  have he0 : s.err = 0 := by simpa using he
  obtain ⟨g1, g2, g3, g4⟩ := hS.2 he0
  simp only [] at g1 g2 g4
  rw [look_lkd he0 g3]
  simp only []
  by_cases hc : Ch b n s.i = 0
  · rw [if_pos hc]
    rw [if_pos he0]
    simp only [if_true]
    refine g4 _ ⟨0, ?_⟩
    have hk : (lex b n s.i).kind = 0 := by
      rw [lex_kind_zero]
      rcases Nat.lt_or_ge (skip b n s.i) n with h | h
      · exact absurd ((lex_kind_one s.i).2 ⟨h, by rw [hc]; decide⟩) g3.2
      · exact h
    have hcl : closeK b n [] [] s a = { (if (lex b n s.i).kind ≠ 0 then (mkR s.i s.n [a] [] true).fail 3 (lex b n s.i).st else mkR s.i s.n [a] [] true) with done := true } := rfl
    rw [hcl, hk]
    simp [runN, RS.out, mkR]
  · rw [if_neg hc]
    rw [fail_ok he0]
    simp only [if_neg (show ¬ (3 : Int) = 0 by decide)]
    have hk : (lex b n s.i).kind ≠ 0 := by
      intro h; rw [lex_kind_zero] at h
      apply hc; unfold Ch; rw [if_neg (by omega)]
    have hcl : closeK b n [] [] s a = { (if (lex b n s.i).kind ≠ 0 then (mkR s.i s.n [a] [] true).fail 3 (lex b n s.i).st else mkR s.i s.n [a] [] true) with done := true } := rfl
    rw [if_pos hk, lex_st g2, g3.1] at hcl
    refine g4 _ ?_
    rw [hcl]
    exact ends_failed (e := 3) ⟨by decide, rfl, rfl⟩
end Go.Proofs.Qxb6500326aGreat
