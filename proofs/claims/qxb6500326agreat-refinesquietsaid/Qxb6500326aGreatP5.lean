/-
  DERIVED. PLAIN: the machine with two stacks answers as the recursive descent: atoms and calls.
-/
import Derived.Test.Qxb6500326aGreatP4
namespace Go.Proofs.Qxb6500326aGreat
set_option linter.unusedVariables false
set_option linter.unusedSimpArgs false
section
variable {b : Nat → Int} {n : Nat}
def base (O : List Mk) : Prop := ∀ m O', O = m :: O' → m.kind = 3 ∨ m.kind = 4
def Lkd (b : Nat → Int) (n : Nat) (s : PS) : Prop := skip b n s.i = s.i ∧ (lex b n s.i).kind ≠ 1
def settleK (V : List Int) (O : List Mk) : PS → Int → RS := fun s v => (mkR s.i s.n (v :: V) O false).settle
def closeK (b : Nat → Int) (n : Nat) (V : List Int) (O : List Mk) : PS → Int → RS := fun s v => (mkR s.i s.n (v :: V) O true).close b n (lex b n s.i)
def ExOK (b : Nat → Int) (n f : Nat) (ex : Bool → PS → PS × Int) : Prop :=
  ∀ (ranges : Bool) (st : PS) (V : List Int) (O : List Mk), st.err = 0 → st.i ≤ n → n - st.i < f → base O → rangesOf O = ranges →
    Sim b n (st.i + 1) (ex ranges st) (mkR st.i st.n V O false) (Lkd b n) (closeK b n V O)
theorem look_lkd {s : PS} (h0 : s.err = 0) (h : Lkd b n s) : s.look b n = (s, Ch b n s.i) := by
  rcases look_two (b := b) (n := n) h0 with ⟨e, _, _⟩ | ⟨_, hk⟩
  · rw [e, h.1]; rfl
  · exact absurd hk h.2
theorem runF_fix {p : Int → Bool} {f i : Nat} (h : ¬ (i < n ∧ p (b i) = true)) : runF p b n f i = i := by cases f <;> simp [runF, h]
theorem cut_nil (a : Nat) : cut b a a = [] := by simp [cut]
theorem cut_cons {a e : Nat} (h : a < e) : cut b a e = b a :: cut b (a + 1) e := by
  obtain ⟨k, rfl⟩ : ∃ k, e = a + (k + 1) := ⟨e - a - 1, by omega⟩
  unfold cut
  rw [show a + (k + 1) - a = k + 1 from by omega, show a + (k + 1) - (a + 1) = k from by omega, List.range_succ_eq_map]
  simp only [List.map_cons, List.map_map, Nat.add_zero, List.cons.injEq, true_and]
  apply List.map_congr_left
  intro x _
  show b (a + (x + 1)) = b (a + 1 + x)
  congr 1; omega
theorem refOf_dig {c : Int} (t : List Int) (h : isDig c = true) : refOf (c :: t) = none := by
  rw [isDig_iff] at h
  have h36 : ¬ c = 36 := by omega
  have hc : ¬ isCap c = true := by rw [isCap_iff]; omega
  simp [refOf, refCol, h36, hc]
theorem lex_ref {i : Nat} (hi : i ≤ n) :
    (∃ r, refOf (cut b (skip b n i) (wordEnd b n (skip b n i))) = some r ∧ lex b n i = ⟨4, skip b n i, wordEnd b n (skip b n i), 0, 0, r⟩) ∨
    (refOf (cut b (skip b n i) (wordEnd b n (skip b n i))) = none ∧ (lex b n i).kind ≠ 4) := by
  rcases lex_cases (b := b) (n := n) i with ⟨h1, h2, h3⟩ | ⟨h1, h2, h3, h4⟩ | ⟨h1, h2, h3, h4⟩ | ⟨h1, h2, h3, h4⟩
  · refine .inr ⟨?_, by rw [h3]; show (0 : Int) ≠ 4; decide⟩
    have : wordEnd b n (skip b n i) = skip b n i := runF_fix (by omega)
    rw [this, cut_nil]; rfl
  · refine .inr ⟨?_, by rw [h4]; rcases lexNum_kind (b := b) (n := n) (skip b n i) with h | h <;> rw [h] <;> decide⟩
    have hw : wordy (b (skip b n i)) = true := by rw [← h2, wordy_iff]; rw [isDig_iff] at h3; omega
    rw [cut_cons (show skip b n i < wordEnd b n (skip b n i) from lt_runF h1 hw)]
    exact refOf_dig _ (h2 ▸ h3)
  · rw [h4]; unfold lexWord
    cases hr : refOf (cut b (skip b n i) (wordEnd b n (skip b n i)))
    · refine .inr ⟨rfl, ?_⟩
      simp only [hr]
      repeat' split
      all_goals simp
    · rename_i r
      exact .inl ⟨r, rfl, by simp only [hr]⟩
  · have : wordEnd b n (skip b n i) = skip b n i := runF_fix (by rw [← h2, h3]; simp)
    refine .inr ⟨by rw [this, cut_nil]; rfl, ?_⟩
    rw [h4]
    rcases lexSgn_cases (Ch b n i) (nextB b n (skip b n i)) (skip b n i) with ⟨g, e⟩ | ⟨g, e⟩ | ⟨g, e⟩ | ⟨g, e⟩ | ⟨g, _, e⟩ | ⟨g, _, e⟩ | ⟨g, e⟩ <;> rw [e] <;> simp only [] <;> omega

/-! ### One step where an operand is due -/
section
variable {i : Nat} {l : List Nd} {V : List Int} {O : List Mk}
theorem step_leaf (hi : i ≤ n) (h : (lex b n i).kind = 2) :
    (mkR i l V O false).step b n = (mkR (lex b n i).fin l V O false).whole ⟨(lex b n i).op, 0, -1, -1, (lex b n i).n, rz, rz⟩ := by
  rw [atom_ok hi (by rw [h]; decide)]; simp only [h, if_true]; rw [takeR, lex_idem]
theorem step_ref (hi : i ≤ n) (h : (lex b n i).kind = 4) :
    (mkR i l V O false).step b n = (mkR (skip b n i) l V O false).ref b n (lex b n i) := by
  rw [atom_ok hi (by rw [h]; decide)]; simp only [h]; rw [if_neg (by decide), if_pos trivial]
theorem step_call (hi : i ≤ n) (h : (lex b n i).kind = 5) :
    (mkR i l V O false).step b n = (mkR (skip b n i) l V O false).call b n (lex b n i) := by
  rw [atom_ok hi (by rw [h]; decide)]; simp only [h]; rw [if_neg (by decide), if_neg (by decide), if_pos trivial]
theorem step_open (hi : i ≤ n) (h : (lex b n i).kind = 40) :
    (mkR i l V O false).step b n = mkR (lex b n i).fin l V (⟨3, 0, 0, 0, 0⟩ :: O) false := by
  rw [atom_ok hi (by rw [h]; decide)]; simp only [h]; rw [if_neg (by decide), if_neg (by decide), if_neg (by decide), if_pos trivial, takeR, lex_idem]; rfl
theorem step_fault (hi : i ≤ n) (h : (lex b n i).kind = 3) :
    (mkR i l V O false).step b n = (mkR (skip b n i) l V O false).fail (lex b n i).n (skip b n i) := by
  rw [atom_ok hi (by rw [h]; decide)]; simp only [h]; rw [if_neg (by decide), if_neg (by decide), if_neg (by decide), if_neg (by decide), if_pos trivial, lex_st hi]
theorem step_neg (hi : i ≤ n) (h : (lex b n i).kind = 6) (h8 : (lex b n i).n = 8) :
    (mkR i l V O false).step b n = mkR (lex b n i).fin l V (⟨1, 0, 0, 0, 0⟩ :: O) false := by
  rw [atom_ok hi (by rw [h]; decide)]; simp only [h, h8]; rw [if_neg (by decide), if_neg (by decide), if_neg (by decide), if_neg (by decide), if_neg (by decide), if_neg (by decide), takeR, lex_idem]; rfl
theorem step_other (hi : i ≤ n) (h1 : (lex b n i).kind ≠ 1) (h2 : (lex b n i).kind ≠ 2) (h3 : (lex b n i).kind ≠ 3) (h4 : (lex b n i).kind ≠ 4) (h5 : (lex b n i).kind ≠ 5) (h40 : (lex b n i).kind ≠ 40)
    (h6 : (lex b n i).kind ≠ 6 ∨ (lex b n i).n ≠ 8) :
    (mkR i l V O false).step b n = (mkR (skip b n i) l V O false).fail 3 (skip b n i) := by
  rw [atom_ok hi h1]; simp only []; rw [if_neg h2, if_neg h4, if_neg h5, if_neg h40, if_neg h3, if_pos h6, lex_st hi]
end

/-! ### The arguments of a call -/
def callEnd (fn : Int) (at_ : Nat) (r : PS × Int × Int) : PS × Int :=
  if arity fn r.2.2 = true then r.1.add (nCall fn r.2.1 r.2.2) else (r.1.fail 6 at_, -1)
theorem callEnd_err {fn : Int} {at_ : Nat} {r : PS × Int × Int} (h : r.1.err ≠ 0) : callEnd fn at_ r = (r.1, -1) := by
  unfold callEnd; split
  · exact add_err h _
  · rw [fail_err h]
theorem fail_ok {st : PS} (h : st.err = 0) (e : Int) (p : Nat) : st.fail e p = ⟨st.i, st.n, e, p⟩ := by simp [PS.fail, h]
theorem failed_err {st : PS} (h : st.err = 0) {e : Int} (he : e ≠ 0) (p : Nat) {X : RS} (hX : X.err = 0) : Failed (X.fail e p) (st.fail e p).err (st.fail e p).pos := by
  rw [fail_ok h]; exact Failed.new hX he
theorem sim_callLoop {f : Nat} {ex : Bool → PS → PS × Int} (hex : ExOK b n f ex) (fn : Int) (at_ : Nat) :
    ∀ (m : Nat) (st : PS) (link k : Int) (V : List Int) (O : List Mk), st.err = 0 → st.i ≤ n → n - st.i < m → n - st.i < f →
      Sim b n (st.i + 1) (callEnd fn at_ (callLoop b n ex fn m st link k)) (mkR st.i st.n V (⟨4, fn, at_, k, link⟩ :: O) false) QT (settleK V O)
  | 0, st, link, k, V, O, h0, hi, hm, hf => by omega
  | m + 1, st, link, k, V, O, h0, hi, hm, hf => by
    have hS := hex (rangeOK fn) st V (⟨4, fn, at_, k, link⟩ :: O) h0 hi hf (fun m O' e => by cases e; exact .inr rfl) rfl
    unfold callLoop
    rw [if_neg (by simp [h0])]
    generalize ex (rangeOK fn) st = r at hS ⊢
    obtain ⟨s, a⟩ := r
    simp only []
    by_cases he : s.err ≠ 0
    · rw [add_err he, look_err he]
      simp only []
      rw [if_neg (by decide), if_neg (by decide), fail_err (by exact he), callEnd_err (by exact he)]
      exact sim_bad he (hS.1 he)
    have he0 : s.err = 0 := by simpa using he
    obtain ⟨h1, h2, h3, h4⟩ := hS.2 he0
    simp only [] at h1 h2 h3 h4
    have hcl : (mkR s.i s.n (a :: V) (⟨4, fn, at_, k, link⟩ :: O) true).close b n (lex b n s.i) = closeArg b n ((mkR s.i s.n V (⟨4, fn, at_, k, link⟩ :: O) true).add (nArg a link)) (lex b n s.i) ⟨4, fn, at_, k, link⟩ O := rfl
    have h5 : ∀ R, Ends b n (closeArg b n ((mkR s.i s.n V (⟨4, fn, at_, k, link⟩ :: O) true).add (nArg a link)) (lex b n s.i) ⟨4, fn, at_, k, link⟩ O) R → Ends b n (mkR st.i st.n V (⟨4, fn, at_, k, link⟩ :: O) false) R := by
      intro R hR; exact h4 R (by unfold closeK; rw [hcl]; exact hR)
    clear h4 hcl
    rcases add_two he0 (nArg a link) with ⟨hl, e1, e2⟩ | ⟨e1, e2⟩
    · rw [e1]
      rw [e2] at h5
      have hlk : Lkd b n ⟨s.i, s.n ++ [nArg a link], 0, s.pos⟩ := h3
      have hlo := look_lkd (b := b) (n := n) (s := ⟨s.i, s.n ++ [nArg a link], 0, s.pos⟩) rfl hlk
      rw [hlo]
      simp only []
      by_cases h44 : Ch b n s.i = 44
      · rw [if_pos h44]
        obtain ⟨t1, t2⟩ := lex_byte (b := b) (n := n) (i := s.i) (by omega)
        rw [h3.1] at t1 t2
        have ih := sim_callLoop hex fn at_ m (PS.go ⟨s.i, s.n ++ [nArg a link], 0, s.pos⟩ (s.i + 1)) (s.n.length : Int) (k + 1) V O rfl (by show s.i + 1 ≤ n; omega) (by show n - (s.i + 1) < m; omega) (by show n - (s.i + 1) < f; omega)
        refine ih.from (by show st.i + 1 ≤ s.i + 1 + 1; omega) (fun R hR => h5 R ?_)
        unfold closeArg
        simp only [show (lex b n s.i).kind = 44 from by rw [t1]; exact h44, if_true]
        have : (lex b n s.i).fin = s.i + 1 := by rw [t1]
        show Ends b n (mkR (lex b n s.i).fin _ _ _ _) R
        rw [this]; exact hR
      · rw [if_neg h44]
        have k44 : (lex b n s.i).kind ≠ 44 := fun h => h44 ((lex_kind_of _ _ (by omega)).1 h)
        by_cases h41 : Ch b n s.i = 41
        · rw [if_pos h41]
          obtain ⟨t1, t2⟩ := lex_byte (b := b) (n := n) (i := s.i) (by omega)
          rw [h3.1] at t1 t2
          have hfin : (lex b n s.i).fin = s.i + 1 := by rw [t1]
          have hkk : (lex b n s.i).kind = 41 := by rw [t1]; exact h41
          have h6 : ∀ R, Ends b n (if arity fn (k + 1) = true then (mkR (s.i + 1) (s.n ++ [nArg a link]) V O true).whole (nCall fn s.n.length (k + 1)) else (mkR (s.i + 1) (s.n ++ [nArg a link]) V O true).fail 6 at_) R → Ends b n (mkR st.i st.n V (⟨4, fn, at_, k, link⟩ :: O) false) R := by
            intro R hR
            apply h5 R
            unfold closeArg
            simp only [hkk]
            rw [if_neg (by decide)]
            unfold RS.closeTail
            rw [if_neg (by simp [hkk])]
            simp only []
            rw [if_neg (by decide)]
            have e3 : (RS.take b n ((mkR s.i (s.n ++ [nArg a link]) V (⟨4, fn, at_, k, link⟩ :: O) true).vo (mkR s.i (s.n ++ [nArg a link]) V (⟨4, fn, at_, k, link⟩ :: O) true).V (⟨4, fn, at_, k + 1, s.n.length⟩ :: O))).vo
              ((mkR s.i (s.n ++ [nArg a link]) V (⟨4, fn, at_, k, link⟩ :: O) true).vo (mkR s.i (s.n ++ [nArg a link]) V (⟨4, fn, at_, k, link⟩ :: O) true).V (⟨4, fn, at_, k + 1, s.n.length⟩ :: O)).V O = mkR (lex b n s.i).fin (s.n ++ [nArg a link]) V O true := rfl
            rw [e3, hfin]; exact hR
          unfold callEnd
          simp only []
          by_cases har : arity fn (k + 1) = true
          · rw [if_pos har]; simp only [har, if_true] at h6
            exact sim_whole (st := PS.go ⟨s.i, s.n ++ [nArg a link], 0, s.pos⟩ (s.i + 1)) rfl (by show st.i + 1 ≤ s.i + 1; omega) (by show s.i + 1 ≤ n; omega) _ h6
          · rw [if_neg har]; simp only [if_neg har] at h6
            have hF := failed_err (st := PS.go ⟨s.i, s.n ++ [nArg a link], 0, s.pos⟩ (s.i + 1)) rfl (e := 6) (by decide) at_ (X := mkR (s.i + 1) (s.n ++ [nArg a link]) V O true) rfl
            exact sim_bad hF.ne (h6 _ (ends_failed hF))
        · rw [if_neg h41]
          have k41 : (lex b n s.i).kind ≠ 41 := fun h => h41 ((lex_kind_of _ _ (by omega)).1 h)
          have hF := failed_err (st := (⟨s.i, s.n ++ [nArg a link], 0, s.pos⟩ : PS)) rfl (e := 3) (by decide) s.i (X := mkR s.i (s.n ++ [nArg a link]) V (⟨4, fn, at_, k + 1, s.n.length⟩ :: O) true) rfl
          rw [callEnd_err hF.ne]
          refine sim_bad hF.ne (h5 _ (ends_failed ?_))
          unfold closeArg
          simp only [if_neg k44]
          unfold RS.closeTail
          rw [if_pos k41, lex_st h2, h3.1]
          exact hF
    · rw [e1]
      have hne : (⟨s.i, s.n, 7, s.i⟩ : PS).err ≠ 0 := by show (7 : Int) ≠ 0; decide
      simp only []
      rw [look_err hne]
      simp only []
      rw [if_neg (by decide), if_neg (by decide), fail_err (by exact hne), callEnd_err (by exact hne)]
      exact sim_bad hne (h5 _ (ends_failed (failed_closeArg (e2 _ _ _) _ _ _)))
end
end Go.Proofs.Qxb6500326aGreat
