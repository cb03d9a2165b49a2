/-
  DERIVED. PLAIN: the text of a lawful tree, read again, is that tree.
-/
import Derived.Test.Qxb6500326aGreatQ1
namespace Go.Proofs.Qxb6500326aGreat
set_option linter.unusedVariables false
set_option linter.unusedSimpArgs false
section
variable {b : Nat → Int} {n : Nat} {L : List Nd}
/-- The reader stands at p with the first j nodes of L. -/
def S (L : List Nd) (p j : Nat) : PS := ⟨p, L.take j, 0, 0⟩
theorem take_nd {i : Nat} (h : i < L.length) : L.take i ++ [nd L i] = L.take (i + 1) := by
  unfold nd; rw [List.take_add_one, List.getElem?_eq_getElem h]; rfl
theorem add_S (h24 : L.length ≤ 24) {p i : Nat} (h : i < L.length) {x : Nd} (hx : nd L i = x) : (S L p i).add x = (S L p (i + 1), (i : Int)) := by
  have hl : (L.take i).length = i := by rw [List.length_take]; omega
  unfold PS.add S
  rw [if_neg (by show ¬ (0 : Int) ≠ 0; decide), if_neg (by show ¬ 24 ≤ (L.take i).length; omega)]
  simp only [hl, ← hx, take_nd h]
theorem look_at {p j : Nat} (h : p < n) (h32 : b p ≠ 32) (hk : known (b p) = true) : (S L p j).look b n = (S L p j, b p) := by
  have hs : skip b n p = p := skip_fix (fun e => h32 e.2)
  have hc : Ch b n p = b p := by unfold Ch; rw [hs, if_pos h]
  have := look_known (b := b) (n := n) (st := S L p j) rfl (by show skip b n p < n; omega) (by show known (Ch b n p) = true; rw [hc]; exact hk)
  rw [this]
  show ((S L p j).go (skip b n p), Ch b n p) = _
  rw [hs, hc]; rfl
def folc (c : Int) : Bool := c == 41 || c == 44 || c == 43 || c == 45 || c == 42 || c == 47 || c == 61 || c == 60 || c == 62
/-- What may stand behind an operand's text. -/
def Fol (b : Nat → Int) (n q : Nat) : Prop := q = n ∨ (q < n ∧ folc (b q) = true)
theorem folc_iff {c : Int} : folc c = true ↔ c = 41 ∨ c = 44 ∨ c = 43 ∨ c = 45 ∨ c = 42 ∨ c = 47 ∨ c = 61 ∨ c = 60 ∨ c = 62 := by simp [folc, or_assoc]
theorem Fol.skip {q : Nat} (h : Fol b n q) : skip b n q = q := by
  apply skip_fix
  rintro ⟨h1, h2⟩
  rcases h with h | ⟨_, h⟩
  · omega
  · rw [folc_iff] at h; omega
theorem Fol.look {q j : Nat} (h : Fol b n q) : (S L q j).look b n = (S L q j, Ch b n q) := by
  have hs := h.skip
  rcases h with h | ⟨h1, h2⟩
  · have := look_end (b := b) (n := n) (st := S L q j) rfl (by show n ≤ Qxb6500326aGreat.skip b n q; omega)
    rw [this]
    show ((S L q j).go (Qxb6500326aGreat.skip b n q), Ch b n q) = _
    rw [hs]; rfl
  · rw [folc_iff] at h2
    rw [look_at h1 (by omega) (by rw [known_iff, isSgn_iff]; omega)]
    unfold Ch; rw [hs, if_pos h1]
theorem Fol.ch {q : Nat} (h : Fol b n q) : Ch b n q = 0 ∨ folc (Ch b n q) = true := by
  have hs := h.skip
  unfold Ch; rw [hs]
  rcases h with h | ⟨h1, h2⟩
  · rw [if_neg (by omega)]; exact .inl rfl
  · rw [if_pos h1]; exact .inr h2
theorem Fol.stop {q : Nat} (h : Fol b n q) : ¬ (q < n ∧ wordy (b q) = true) ∧ ¬ (q < n ∧ isDig (b q) = true) := by
  rcases h with h | ⟨h1, h2⟩
  · constructor <;> (rintro ⟨_, _⟩; omega)
  · rw [folc_iff] at h2
    constructor
    · rintro ⟨_, hw⟩; rw [wordy_iff] at hw; omega
    · rintro ⟨_, hw⟩; rw [isDig_iff] at hw; omega
theorem at_fol {p : Nat} {c : Int} {w : List Int} (h : At b n p (c :: w)) (hc : folc c = true) : Fol b n p ∧ Ch b n p = c ∧ p < n := by
  have hF : Fol b n p := .inr ⟨h.1, by rw [h.2.1]; exact hc⟩
  refine ⟨hF, ?_, h.1⟩
  unfold Ch; rw [hF.skip, if_pos h.1, h.2.1]

/-! ### The claims on a node -/
section
variable (b n L)
def C5 (i lo : Nat) (rg : Bool) : Prop := ∀ (p F f : Nat), n < F → n - p ≤ f → At b n p (tx L i 5) → Fol b n (p + (tx L i 5).length) →
  atomM b n (exprD b n f) F rg (S L p lo) = (S L (p + (tx L i 5).length) (i + 1), (i : Int))
def C4 (i lo : Nat) (rg : Bool) : Prop := ∀ (p F f m : Nat), n < F → n - p ≤ f → n - p < m → At b n p (tx L i 4) → Fol b n (p + (tx L i 4).length) →
  unaryM b n (exprD b n f) F m rg (S L p lo) = (S L (p + (tx L i 4).length) (i + 1), (i : Int))
def C3 (i lo : Nat) (rg : Bool) : Prop := ∀ (p F f : Nat), n < F → n - p ≤ f → At b n p (tx L i 3) → Fol b n (p + (tx L i 3).length) →
  ∃ m, n - (p + (tx L i 3).length) < m ∧ chain3 b n (exprD b n f) F rg (S L p lo) = chainLoop b n mulOp (unaryM b n (exprD b n f) F F false) m (S L (p + (tx L i 3).length) (i + 1)) (i : Int)
def C2 (i lo : Nat) (rg : Bool) : Prop := ∀ (p F f : Nat), n < F → n - p ≤ f → At b n p (tx L i 2) → Fol b n (p + (tx L i 2).length) → mulOp (Ch b n (p + (tx L i 2).length)) = 0 →
  ∃ m, n - (p + (tx L i 2).length) < m ∧ chain2 b n (exprD b n f) F rg (S L p lo) = chainLoop b n addOp (chain3 b n (exprD b n f) F false) m (S L (p + (tx L i 2).length) (i + 1)) (i : Int)
def noOp (b : Nat → Int) (n q : Nat) : Prop := mulOp (Ch b n q) = 0 ∧ addOp (Ch b n q) = 0 ∧ isCmp (Ch b n q) = false
def C1 (i lo : Nat) (rg : Bool) : Prop := ∀ (p F f : Nat), n < F → n - p ≤ f → At b n p (tx L i 1) → Fol b n (p + (tx L i 1).length) → noOp b n (p + (tx L i 1).length) →
  exprM b n (exprD b n f) F rg (S L p lo) = (S L (p + (tx L i 1).length) (i + 1), (i : Int))
end
theorem C1.expr {i lo : Nat} {rg : Bool} (h : C1 b n L i lo rg) {p f : Nat} (hf : n - p < f) (ha : At b n p (tx L i 1)) (hF : Fol b n (p + (tx L i 1).length)) (hN : noOp b n (p + (tx L i 1).length)) :
    exprD b n f rg (S L p lo) = (S L (p + (tx L i 1).length) (i + 1), (i : Int)) := by
  obtain ⟨f, rfl⟩ : ∃ f', f = f' + 1 := ⟨f - 1, by omega⟩
  exact h p (n + 1) f (by omega) (by omega) ha hF hN
theorem tx_eq {i : Nat} {need need' : Int} (h : level (nd L i) < need ↔ level (nd L i) < need') : tx L i need = tx L i need' := by
  unfold tx showS bracket; simp only []
  by_cases hl : level (nd L i) < need
  · rw [if_pos hl, if_pos (h.1 hl)]
  · rw [if_neg hl, if_neg (fun h' => hl (h.2 h'))]
theorem level_bd (x : Nd) : 1 ≤ level x ∧ level x ≤ 5 := by unfold level; repeat' split
                                                            all_goals decide
theorem unary_atom {ex : Bool → PS → PS × Int} {F m : Nat} {rg : Bool} {st : PS} (h0 : st.err = 0) (h : (atomM b n ex F rg st).1.err = 0) : unaryM b n ex F (m + 1) rg st = atomM b n ex F rg st := by
  rcases look_two (b := b) (n := n) h0 with ⟨e, hk, _⟩ | ⟨e, hk⟩
  · have h45 : Ch b n st.i ≠ 45 := by
      intro h45
      unfold atomM at h
      rw [e] at h
      simp only [h45] at h
      rw [if_neg (by decide), if_neg (by decide), if_neg (by decide), if_neg (by decide), fail_ok (by exact h0)] at h
      exact absurd h (by show ¬ (3 : Int) = 0; decide)
    have e' : (st.go (skip b n st.i)).look b n = st.look b n := by
      rw [e]
      rcases look_two (b := b) (n := n) (st := st.go (skip b n st.i)) h0 with ⟨e2, _⟩ | ⟨_, hk2⟩
      · rw [e2]
        show ((st.go (skip b n st.i)).go (skip b n (skip b n st.i)), Ch b n (skip b n st.i)) = _
        rw [skip_idem, Ch_idem]; rfl
      · exfalso
        have : (lex b n (skip b n st.i)).kind = 1 := hk2
        rw [lex_idem] at this; exact hk this
    unfold unaryM
    rw [e]
    simp only []
    rw [if_neg h45]
    conv => lhs; unfold atomM
    conv => rhs; unfold atomM
    rw [e']
  · exfalso
    unfold atomM at h
    rw [e] at h
    simp only [] at h
    rw [if_neg (by decide), if_neg (by decide), if_neg (by decide), if_neg (by decide), fail_err (by show (2 : Int) ≠ 0; decide)] at h
    exact absurd h (by show ¬ (2 : Int) = 0; decide)
theorem loop_end {opOf : Int → Int} {nxt : PS → PS × Int} {q j m : Nat} {a : Int} (hm : n - q < m) (hF : Fol b n q) (ho : opOf (Ch b n q) = 0) : chainLoop b n opOf nxt m (S L q j) a = (S L q j, a) := by
  obtain ⟨m, rfl⟩ : ∃ m', m = m' + 1 := ⟨m - 1, by omega⟩
  unfold chainLoop
  rw [if_neg (by show ¬ (0 : Int) ≠ 0; decide), hF.look]
  simp only []
  rw [if_pos ho]
theorem down54 {i lo : Nat} {rg : Bool} (h : C5 b n L i lo rg) (hl : level (nd L i) ≠ 4) : C4 b n L i lo rg := by
  intro p F f m hF hf hm ha hFol
  have e : tx L i 4 = tx L i 5 := tx_eq (by have := level_bd (nd L i); omega)
  rw [e] at ha hFol ⊢
  have := h p F f hF hf ha hFol
  obtain ⟨m, rfl⟩ : ∃ m', m = m' + 1 := ⟨m - 1, by omega⟩
  rw [unary_atom rfl (by rw [this]; rfl), this]
theorem down43 {i lo : Nat} {rg : Bool} (h : C4 b n L i lo rg) (hl : level (nd L i) ≠ 3) : C3 b n L i lo rg := by
  intro p F f hF hf ha hFol
  have e : tx L i 3 = tx L i 4 := tx_eq (by omega)
  rw [e] at ha hFol ⊢
  refine ⟨F, by omega, ?_⟩
  unfold chain3
  rw [h p F f F hF hf (by omega) ha hFol]
theorem down32 {i lo : Nat} {rg : Bool} (h : C3 b n L i lo rg) (hl : level (nd L i) ≠ 2) : C2 b n L i lo rg := by
  intro p F f hF hf ha hFol hm
  have e : tx L i 2 = tx L i 3 := tx_eq (by omega)
  rw [e] at ha hFol hm ⊢
  obtain ⟨m, h1, h2⟩ := h p F f hF hf ha hFol
  refine ⟨F, by omega, ?_⟩
  unfold chain2
  rw [h2, loop_end h1 hFol hm]
theorem expr_of_chain2 {F f p q j : Nat} {rg : Bool} {a : Int} {lo : Nat} (h : ∃ m, n - q < m ∧ chain2 b n (exprD b n f) F rg (S L p lo) = chainLoop b n addOp (chain3 b n (exprD b n f) F false) m (S L q j) a) (hFol : Fol b n q) (hN : noOp b n q) :
    exprM b n (exprD b n f) F rg (S L p lo) = (S L q j, a) := by
  obtain ⟨m, h1, h2⟩ := h
  unfold exprM
  rw [h2, loop_end h1 hFol hN.2.1]
  simp only []
  rw [hFol.look]
  simp only []
  rw [if_neg (by rw [hN.2.2]; decide)]
theorem down21 {i lo : Nat} {rg : Bool} (h : C2 b n L i lo rg) (hl : level (nd L i) ≠ 1) : C1 b n L i lo rg := by
  intro p F f hF hf ha hFol hN
  have e : tx L i 1 = tx L i 2 := tx_eq (by have := level_bd (nd L i); omega)
  rw [e] at ha hFol hN ⊢
  exact expr_of_chain2 (h p F f hF hf ha hFol hN.1) hFol hN
theorem noOp_close {q : Nat} (h : Ch b n q = 41 ∨ Ch b n q = 44 ∨ Ch b n q = 0) : noOp b n q := by
  rcases h with h | h | h <;> (unfold noOp; rw [h]; decide)
theorem bracket15 {i lo : Nat} (h : C1 b n L i lo false) (hl : level (nd L i) < 5) (rg : Bool) : C5 b n L i lo rg := by
  intro p F f hF hf ha hFol
  have e : tx L i 5 = 40 :: (tx L i 1 ++ [41]) := by
    have := level_bd (nd L i)
    unfold tx showS
    simp only []
    rw [bracket_no (lv := level (nd L i)) (need := 1) (by omega)]
    unfold bracket
    rw [if_pos hl]
  rw [e] at ha hFol ⊢
  obtain ⟨h1, h2, h3⟩ := ha
  rw [at_app] at h3
  obtain ⟨h3, h4⟩ := h3
  obtain ⟨k1, k2, k3⟩ := at_fol h4 (by decide)
  have hx := h.expr (f := f) (by omega) h3 k1 (noOp_close (.inl k2))
  unfold atomM
  rw [look_at h1 (by rw [h2]; decide) (by rw [h2]; decide), h2]
  simp only []
  rw [if_neg (by decide), if_neg (by decide), if_neg (by decide), if_pos trivial]
  have hgo : (S L p lo).go ((S L p lo).i + 1) = S L (p + 1) lo := rfl
  rw [hgo, hx]
  simp only []
  rw [k1.look, k2]
  simp only [if_true]
  simp only [List.length_cons, List.length_append, List.length_nil, Prod.mk.injEq, and_true]
  show S L (p + 1 + (tx L i 1).length + 1) (i + 1) = S L (p + ((tx L i 1).length + 1 + 1)) (i + 1)
  congr 1; omega
/-- All five. -/
structure Cs (b : Nat → Int) (n : Nat) (L : List Nd) (i lo : Nat) (rg : Bool) : Prop where
  c5 : C5 b n L i lo rg
  c4 : C4 b n L i lo rg
  c3 : C3 b n L i lo rg
  c2 : C2 b n L i lo rg
  c1 : C1 b n L i lo rg
theorem cs5 {i lo : Nat} {rg : Bool} (hl : level (nd L i) = 5) (h : C5 b n L i lo rg) : Cs b n L i lo rg :=
  have h4 := down54 h (by omega)
  have h3 := down43 h4 (by omega)
  have h2 := down32 h3 (by omega)
  ⟨h, h4, h3, h2, down21 h2 (by omega)⟩
theorem cs4 {i lo : Nat} (hl : level (nd L i) = 4) (h : ∀ rg, C4 b n L i lo rg) (rg : Bool) : Cs b n L i lo rg :=
  have h3 := fun rg => down43 (h rg) (by omega)
  have h2 := fun rg => down32 (h3 rg) (by omega)
  have h1 := fun rg => down21 (h2 rg) (by omega)
  ⟨bracket15 (h1 false) (by omega) rg, h rg, h3 rg, h2 rg, h1 rg⟩
theorem cs3 {i lo : Nat} (hl : level (nd L i) = 3) (h : ∀ rg, C3 b n L i lo rg) (rg : Bool) : Cs b n L i lo rg :=
  have h2 := fun rg => down32 (h rg) (by omega)
  have h1 := fun rg => down21 (h2 rg) (by omega)
  have h5 := bracket15 (h1 false) (by omega) rg
  ⟨h5, down54 h5 (by omega), h rg, h2 rg, h1 rg⟩
theorem cs2 {i lo : Nat} (hl : level (nd L i) = 2) (h : ∀ rg, C2 b n L i lo rg) (rg : Bool) : Cs b n L i lo rg :=
  have h1 := fun rg => down21 (h rg) (by omega)
  have h5 := bracket15 (h1 false) (by omega) rg
  have h4 := down54 h5 (by omega)
  ⟨h5, h4, down43 h4 (by omega), h rg, h1 rg⟩
theorem cs1 {i lo : Nat} (hl : level (nd L i) = 1) (h : ∀ rg, C1 b n L i lo rg) (rg : Bool) : Cs b n L i lo rg :=
  have h5 := bracket15 (h false) (by omega) rg
  have h4 := down54 h5 (by omega)
  have h3 := down43 h4 (by omega)
  ⟨h5, h4, h3, down32 h3 (by omega), h rg⟩

/-! ### The node's own way -/
theorem own_neg (h24 : L.length ≤ 24) {i lo : Nat} (hi : i < L.length) (h1 : 1 ≤ i) (h2 : nd L i = nNeg ((i : Int) - 1)) (hc : C4 b n L (i - 1) lo false) (rg : Bool) : C4 b n L i lo rg := by
  intro p F f m hF hf hm ha hFol
  have e : tx L i 4 = 45 :: tx L (i - 1) 4 := by rw [tx_neg h1 h2, bracket_no (by decide)]
  rw [e] at ha hFol ⊢
  obtain ⟨k1, k2, k3⟩ := ha
  obtain ⟨m, rfl⟩ : ∃ m', m = m' + 1 := ⟨m - 1, by omega⟩
  simp only [List.length_cons] at hFol ⊢
  rw [show p + ((tx L (i - 1) 4).length + 1) = p + 1 + (tx L (i - 1) 4).length from by omega] at hFol ⊢
  have := hc (p + 1) F f m hF (by omega) (by omega) k3 hFol
  unfold unaryM
  rw [look_at k1 (by rw [k2]; decide) (by rw [k2]; decide), k2]
  simp only [if_true]
  have hgo : (S L p lo).go ((S L p lo).i + 1) = S L (p + 1) lo := rfl
  rw [hgo, this]
  simp only []
  rw [show i - 1 + 1 = i from by omega]
  exact add_S h24 hi (by rw [h2]; congr 1; omega)
theorem sp_kind4 {f i lo : Nat} (h : Sp L f i lo false) : (nd L i).kind ≠ 4 := by
  cases f with
  | zero => exact h.elim
  | succ f =>
    obtain ⟨_, h⟩ := h
    rcases h with ⟨_, hl⟩ | ⟨_, e, _⟩ | ⟨op, m, _, _, _, _, e, _⟩ | ⟨op, k, _, e, _⟩
    · rcases hl with ⟨v, e, _⟩ | e | e | ⟨r, e, _⟩ | e | ⟨h, _⟩
      · rw [e]; show (1 : Int) ≠ 4; decide
      · rw [e]; show (2 : Int) ≠ 4; decide
      · rw [e]; show (2 : Int) ≠ 4; decide
      · rw [e]; show (3 : Int) ≠ 4; decide
      · rw [e]; show (5 : Int) ≠ 4; decide
      · cases h
    · rw [e]; show (6 : Int) ≠ 4; decide
    · rw [e]; show (7 : Int) ≠ 4; decide
    · rw [e]; show (8 : Int) ≠ 4; decide
theorem isRange_no {f m lo : Nat} (hm : 1 ≤ m) (h : Sp L f (m - 1) lo false) : isRange (L.take m) ((m - 1 : Nat) : Int) = false := by
  have h1 := h.lt
  have h2 := sp_kind4 h
  unfold nd at h2
  unfold isRange
  rw [show (((m - 1 : Nat) : Int)).toNat = m - 1 from by omega, List.getElem?_take, if_pos (by omega)]
  rw [List.getElem?_eq_getElem h1] at h2 ⊢
  simp at h2 ⊢
  exact h2
theorem strength_iff (op : Int) : (strength op = 1 ∧ op ≤ 6) ∨ (strength op = 2 ∧ 6 < op ∧ op ≤ 8) ∨ (strength op = 3 ∧ 8 < op) := by
  unfold strength
  by_cases h1 : op ≤ 6
  · rw [if_pos h1]; omega
  · rw [if_neg h1]
    by_cases h2 : op ≤ 8
    · rw [if_pos h2]; omega
    · rw [if_neg h2]; omega
theorem opTxt_mul {op : Int} (h1 : 1 ≤ op) (h2 : op ≤ 10) (hl : strength op = 3) : ∃ c, opTxt op = [c] ∧ mulOp c = op ∧ folc c = true ∧ addOp c = 0 ∧ op ≠ 0 := by
  have : op = 9 ∨ op = 10 := by have := strength_iff op; omega
  rcases this with e | e <;> rw [e]
  · exact ⟨42, by decide⟩
  · exact ⟨47, by decide⟩
theorem opTxt_add {op : Int} (h1 : 1 ≤ op) (h2 : op ≤ 10) (hl : strength op = 2) : ∃ c, opTxt op = [c] ∧ addOp c = op ∧ folc c = true ∧ mulOp c = 0 ∧ op ≠ 0 := by
  have : op = 7 ∨ op = 8 := by have := strength_iff op; omega
  rcases this with e | e <;> rw [e]
  · exact ⟨43, by decide⟩
  · exact ⟨45, by decide⟩
theorem own_mul (h24 : L.length ≤ 24) {f0 i m lo : Nat} {op : Int} (hi : i < L.length) (h1 : 1 ≤ i) (hm : 1 ≤ m) (ho : 1 ≤ op ∧ op ≤ 10) (hs : strength op = 3) (h5 : nd L i = nBin op ((m : Int) - 1) ((i : Int) - 1)) (h6 : Sp L f0 (i - 1) m false) (h7 : Sp L f0 (m - 1) lo false)
    (hA : ∀ rg, C3 b n L (m - 1) lo rg) (hB : C4 b n L (i - 1) m false) (rg : Bool) : C3 b n L i lo rg := by
  intro p F f hF hf ha hFol
  have hlev : level (nd L i) = 3 := by rw [h5, ← hs]; rfl
  obtain ⟨c, o1, o2, o3, o4, o5⟩ := opTxt_mul ho.1 ho.2 hs
  have e : tx L i 3 = tx L (m - 1) 3 ++ (c :: tx L (i - 1) 4) := by rw [tx_bin h1 hm h5 h6 h7, hlev, bracket_no (by decide), o1]; simp [leftNeed]
  rw [e] at ha hFol ⊢
  rw [at_app] at ha
  obtain ⟨a1, a2⟩ := ha
  obtain ⟨k1, k2, k3⟩ := at_fol a2 o3
  obtain ⟨m', j1, j2⟩ := hA rg p F f hF hf a1 k1
  simp only [List.length_append, List.length_cons] at hFol ⊢
  rw [show p + ((tx L (m - 1) 3).length + ((tx L (i - 1) 4).length + 1)) = p + (tx L (m - 1) 3).length + 1 + (tx L (i - 1) 4).length from by omega] at hFol ⊢
  obtain ⟨m', rfl⟩ : ∃ m'', m' = m'' + 1 := ⟨m' - 1, by omega⟩
  have hBB := hB (p + (tx L (m - 1) 3).length + 1) F f F hF (by omega) (by omega) a2.2.2 hFol
  refine ⟨m', by omega, ?_⟩
  rw [j2]
  conv => lhs; unfold chainLoop
  rw [if_neg (by show ¬ (0 : Int) ≠ 0; decide), k1.look, k2]
  simp only []
  rw [o2, if_neg o5, show m - 1 + 1 = m from by omega]
  rw [if_neg (by show ¬ isRange (L.take m) _ = true; rw [isRange_no hm h7]; decide)]
  have hgo : (S L (p + (tx L (m - 1) 3).length) m).go ((S L (p + (tx L (m - 1) 3).length) m).i + 1) = S L (p + (tx L (m - 1) 3).length + 1) m := rfl
  rw [hgo, hBB]
  simp only []
  rw [show i - 1 + 1 = i from by omega, add_S h24 hi (x := nBin op ((m - 1 : Nat) : Int) ((i - 1 : Nat) : Int)) (by rw [h5]; congr 1 <;> omega)]
theorem own_add (h24 : L.length ≤ 24) {f0 i m lo : Nat} {op : Int} (hi : i < L.length) (h1 : 1 ≤ i) (hm : 1 ≤ m) (ho : 1 ≤ op ∧ op ≤ 10) (hs : strength op = 2) (h5 : nd L i = nBin op ((m : Int) - 1) ((i : Int) - 1)) (h6 : Sp L f0 (i - 1) m false) (h7 : Sp L f0 (m - 1) lo false)
    (hA : ∀ rg, C2 b n L (m - 1) lo rg) (hB : C3 b n L (i - 1) m false) (rg : Bool) : C2 b n L i lo rg := by
  intro p F f hF hf ha hFol hmul
  have hlev : level (nd L i) = 2 := by rw [h5, ← hs]; rfl
  obtain ⟨c, o1, o2, o3, o4, o5⟩ := opTxt_add ho.1 ho.2 hs
  have e : tx L i 2 = tx L (m - 1) 2 ++ (c :: tx L (i - 1) 3) := by rw [tx_bin h1 hm h5 h6 h7, hlev, bracket_no (by decide), o1]; simp [leftNeed]
  rw [e] at ha hFol hmul ⊢
  rw [at_app] at ha
  obtain ⟨a1, a2⟩ := ha
  obtain ⟨k1, k2, k3⟩ := at_fol a2 o3
  obtain ⟨m', j1, j2⟩ := hA rg p F f hF hf a1 k1 (by rw [k2]; exact o4)
  simp only [List.length_append, List.length_cons] at hFol hmul ⊢
  rw [show p + ((tx L (m - 1) 2).length + ((tx L (i - 1) 3).length + 1)) = p + (tx L (m - 1) 2).length + 1 + (tx L (i - 1) 3).length from by omega] at hFol hmul ⊢
  obtain ⟨m', rfl⟩ : ∃ m'', m' = m'' + 1 := ⟨m' - 1, by omega⟩
  obtain ⟨m3, i1, i2⟩ := hB (p + (tx L (m - 1) 2).length + 1) F f hF (by omega) a2.2.2 hFol
  rw [loop_end i1 hFol hmul] at i2
  refine ⟨m', by omega, ?_⟩
  rw [j2]
  conv => lhs; unfold chainLoop
  rw [if_neg (by show ¬ (0 : Int) ≠ 0; decide), k1.look, k2]
  simp only []
  rw [o2, if_neg o5, show m - 1 + 1 = m from by omega]
  rw [if_neg (by show ¬ isRange (L.take m) _ = true; rw [isRange_no hm h7]; decide)]
  have hgo : (S L (p + (tx L (m - 1) 2).length) m).go ((S L (p + (tx L (m - 1) 2).length) m).i + 1) = S L (p + (tx L (m - 1) 2).length + 1) m := rfl
  rw [hgo, i2]
  simp only []
  rw [show i - 1 + 1 = i from by omega, add_S h24 hi (x := nBin op ((m - 1 : Nat) : Int) ((i - 1 : Nat) : Int)) (by rw [h5]; congr 1 <;> omega)]
/-- A comparison is read as it is spelt, whatever opens behind it. -/
theorem opTxt_cmp {op d : Int} (h1 : 1 ≤ op) (h2 : op ≤ 10) (hl : strength op = 1) (hd : d ≠ 61 ∧ d ≠ 62) :
    ∃ c u, opTxt op = c :: u ∧ folc c = true ∧ mulOp c = 0 ∧ addOp c = 0 ∧ isCmp c = true ∧ cmpOp c (u.headD d) = (op, (opTxt op).length) ∧ u.length ≤ 1 := by
  have : op = 1 ∨ op = 2 ∨ op = 3 ∨ op = 4 ∨ op = 5 ∨ op = 6 := by have := strength_iff op; omega
  rcases this with e | e | e | e | e | e <;> rw [e]
  · exact ⟨61, [], by decide, by decide, by decide, by decide, by decide, by simp [cmpOp, opTxt], by decide⟩
  · exact ⟨60, [62], by decide, by decide, by decide, by decide, by decide, by rfl, by decide⟩
  · exact ⟨60, [], by decide, by decide, by decide, by decide, by decide, by simp [cmpOp, opTxt, hd.1, hd.2], by decide⟩
  · exact ⟨60, [61], by decide, by decide, by decide, by decide, by decide, by rfl, by decide⟩
  · exact ⟨62, [], by decide, by decide, by decide, by decide, by decide, by simp [cmpOp, opTxt, hd.1], by decide⟩
  · exact ⟨62, [61], by decide, by decide, by decide, by decide, by decide, by rfl, by decide⟩
theorem own_cmp (h24 : L.length ≤ 24) {f0 i m lo : Nat} {op : Int} (hi : i < L.length) (h1 : 1 ≤ i) (hm : 1 ≤ m) (ho : 1 ≤ op ∧ op ≤ 10) (hs : strength op = 1) (h5 : nd L i = nBin op ((m : Int) - 1) ((i : Int) - 1)) (h6 : Sp L f0 (i - 1) m false) (h7 : Sp L f0 (m - 1) lo false)
    (hA : ∀ rg, C2 b n L (m - 1) lo rg) (hB : C2 b n L (i - 1) m false) (rg : Bool) : C1 b n L i lo rg := by
  intro p F f hF hf ha hFol hN
  have hlev : level (nd L i) = 1 := by rw [h5, ← hs]; rfl
  have e : tx L i 1 = tx L (m - 1) 2 ++ (opTxt op ++ tx L (i - 1) 2) := by rw [tx_bin h1 hm h5 h6 h7, hlev, bracket_no (by decide)]; simp [leftNeed]
  rw [e] at ha hFol hN ⊢
  rw [at_app, at_app] at ha
  obtain ⟨a1, a2, a3⟩ := ha
  obtain ⟨d, w, hdw, hdo⟩ := sp_opens f0 (i - 1) m false 2 h6 (by decide)
  have hdd : d ≠ 61 ∧ d ≠ 62 := by
    constructor <;> (rintro rfl; revert hdo; decide)
  obtain ⟨c, u, o1, o2, o3, o4, o5, o6, o7⟩ := opTxt_cmp ho.1 ho.2 hs hdd
  have a2' := a2
  rw [o1] at a2
  obtain ⟨k1, k2, k3⟩ := at_fol a2 o2
  have hcl : (opTxt op).length = u.length + 1 := by rw [o1]; rfl
  have hnx : nextB b n (p + (tx L (m - 1) 2).length) = (u.headD d) := by
    have hle := at_le _ _ a3
    rw [hdw] at hle a3
    simp only [List.length_cons] at hle
    unfold nextB
    cases u with
    | nil =>
      simp only [List.length_nil] at hcl
      rw [hcl] at a3
      rw [if_pos (by have := a3.1; omega)]
      exact a3.2.1
    | cons e u' =>
      rw [if_pos (by have := a2.2.2.1; omega)]
      exact a2.2.2.2.1
  simp only [List.length_append] at hFol hN ⊢
  rw [show p + ((tx L (m - 1) 2).length + ((opTxt op).length + (tx L (i - 1) 2).length)) = p + (tx L (m - 1) 2).length + (opTxt op).length + (tx L (i - 1) 2).length from by omega] at hFol hN ⊢
  obtain ⟨m', j1, j2⟩ := hA rg p F f hF hf a1 k1 (by rw [k2]; exact o3)
  rw [loop_end j1 k1 (by rw [k2]; exact o4)] at j2
  obtain ⟨m3, i1, i2⟩ := hB (p + (tx L (m - 1) 2).length + (opTxt op).length) F f hF (by omega) a3 hFol hN.1
  rw [loop_end i1 hFol hN.2.1] at i2
  unfold exprM
  rw [j2]
  simp only []
  rw [k1.look, k2]
  simp only []
  rw [if_pos o5, show m - 1 + 1 = m from by omega]
  rw [if_neg (by show ¬ isRange (L.take m) _ = true; rw [isRange_no hm h7]; decide)]
  have hcw : cmpOp c (nextB b n (S L (p + (tx L (m - 1) 2).length) m).i) = (op, (opTxt op).length) := by
    show cmpOp c (nextB b n (p + (tx L (m - 1) 2).length)) = _
    rw [hnx]; exact o6
  rw [hcw]
  have hgo : (S L (p + (tx L (m - 1) 2).length) m).go ((S L (p + (tx L (m - 1) 2).length) m).i + (opTxt op).length) = S L (p + (tx L (m - 1) 2).length + (opTxt op).length) m := rfl
  simp only []
  rw [hgo, i2]
  simp only []
  rw [show i - 1 + 1 = i from by omega, add_S h24 hi (x := nBin op ((m - 1 : Nat) : Int) ((i - 1 : Nat) : Int)) (by rw [h5]; congr 1 <;> omega)]
end
end Go.Proofs.Qxb6500326aGreat
