/-
  DERIVED. THE PLAIN LAW OF LAYER edit, 8: a turned tree under turned values is worth what it was.
-/
import Derived.Test.Qxb6500326aGreatS7
namespace Go.Proofs.Qxb6500326aGreat
set_option linter.unusedVariables false
set_option linter.unusedSimpArgs false

structure EvM (g : Nd → Nd) (L : List Nd) (env env' : Nat → Vl) : Prop where
  lm : LM g
  ref : ∀ j r, nd L j = nRef r → (inGrid r = true → ∃ r', g (nRef r) = nRef r' ∧ inGrid r' = true ∧ env' (cellOf r').toNat = env (cellOf r).toNat) ∧ (inGrid r = false → g (nRef r) = nRef r)
  range : ∀ j p q, nd L j = nRange p q → (blockOK p q = true → ∃ p' q', g (nRange p q) = nRange p' q' ∧ blockOK p' q' = true ∧ ∀ op s, op ≠ 6 → op ≠ 7 → sweepM op (blockS p' q') env' 0 24 s = sweepM op (blockS p q) env 0 24 s) ∧ (blockOK p q = false → g (nRange p q) = nRange p q)
theorem leaf_not4 {x : Nd} (h : Leaf x false) : x.kind ≠ 4 := by
  rcases h with ⟨v, rfl, -⟩ | rfl | rfl | ⟨r, rfl, -⟩ | rfl | ⟨h, -⟩
  · show (1 : Int) ≠ 4; decide
  · decide
  · decide
  · show (3 : Int) ≠ 4; decide
  · decide
  · cases h
theorem sp_kind {L : List Nd} {f i lo : Nat} (h : Sp L f i lo false) : (nd L i).kind ≠ 4 := by
  cases f with
  | zero => exact h.elim
  | succ f =>
    obtain ⟨h0, h⟩ := h
    rcases h with ⟨-, hl⟩ | ⟨-, h2, -⟩ | ⟨op, m, -, -, -, -, h5, -⟩ | ⟨op, k, -, h2, -⟩
    · exact leaf_not4 hl
    · rw [h2]; show (6 : Int) ≠ 4; decide
    · rw [h5]; show (7 : Int) ≠ 4; decide
    · rw [h2]; show (8 : Int) ≠ 4; decide
theorem arg_fix {g : Nd → Nd} (h : LM g) (a b : Int) : g (nArg a b) = nArg a b := h.other _ (by show (9 : Int) ≠ 3; decide) (by show (9 : Int) ≠ 4; decide)
/-- The links of a call go into the same fold. -/
theorem fd_move {g : Nd → Nd} {L : List Nd} {env env' : Nat → Vl} (h : EvM g L env env') {ev ev' : Nat → Vl} {F : Nat} {op : Int} {rg : Bool} (hrg : rg = true → op ≠ 6 ∧ op ≠ 7) (N : Nat)
    (hev : ∀ j lo a, j < N → Sp L F j lo a → (nd L j).kind ≠ 4 → ev' j = ev j) :
    ∀ (k i lo : Nat), i ≤ N → Lk (Sp L F) L rg k i lo → ∀ n : Nat, fdW (L.map g) env' ev' op n i = fdW L env ev op n i
  | 0, _, _, _, h', _ => h'.elim
  | k + 1, i, lo, hN, h', n => by
    obtain ⟨h1, h2, m, h3, h4⟩ := h'
    cases n with
    | zero => rfl
    | succ n =>
      have hnd : ∃ b : Int, nd L i = nArg ((i : Int) - 1) b ∧ ((b = -1) ∨ ∃ m2 : Nat, b = ((m2 : Nat) : Int) ∧ m2 ≤ N ∧ Lk (Sp L F) L rg k m2 lo) := by
        rcases h4 with ⟨-, e, -⟩ | ⟨hk, hm, e, d⟩
        · exact ⟨-1, e, .inl rfl⟩
        · have hle := Sp.le _ _ _ _ h3
          exact ⟨_, e, .inr ⟨m - 1, by omega, by omega, d⟩⟩
      obtain ⟨b, eb, hb⟩ := hnd
      have hrec : fdW (L.map g) env' ev' op n b = fdW L env ev op n b := by
        rcases hb with rfl | ⟨m2, rfl, hm2, d⟩
        · cases n <;> simp [fdW]
        · exact fd_move h hrg N hev k m2 lo hm2 d n
      unfold fdW
      have hni : ¬ ((i : Int) < 0) := by omega
      have ei : nd (L.map g) i = nArg ((i : Int) - 1) b := by rw [nd_map h.lm.bad, eb, arg_fix h.lm]
      rw [if_neg hni, if_neg hni, show ((i : Int)).toNat = i from by omega, ei, eb]
      have ea : ((nArg ((i : Int) - 1) b).a).toNat = i - 1 := by show (((i : Int) - 1)).toNat = _; omega
      have ebb : (nArg ((i : Int) - 1) b).b = b := rfl
      rw [ea, ebb, hrec, nd_map h.lm.bad]
      generalize fdW L env ev op n b = s
      by_cases hk4 : (nd L (i - 1)).kind = 4
      · -- a range: only where it may stand
        have hrt : rg = true := by
          cases rg
          · exact absurd hk4 (sp_kind h3)
          · rfl
        obtain ⟨n6, n7⟩ := hrg hrt
        have hrr : ∃ p q, nd L (i - 1) = nRange p q := by
          cases F with
          | zero => exact h3.elim
          | succ F =>
            obtain ⟨-, h3⟩ := h3
            rcases h3 with ⟨-, hl⟩ | ⟨-, q2, -⟩ | ⟨_, _, -, -, -, -, q5, -⟩ | ⟨_, _, -, q2, -⟩
            · rcases hl with ⟨v, e, -⟩ | e | e | ⟨r, e, -⟩ | e | ⟨-, p, q, e, -⟩
              · rw [e] at hk4; exact absurd hk4 (by show ¬ (1 : Int) = 4; decide)
              · rw [e] at hk4; exact absurd hk4 (by decide)
              · rw [e] at hk4; exact absurd hk4 (by decide)
              · rw [e] at hk4; exact absurd hk4 (by show ¬ (3 : Int) = 4; decide)
              · rw [e] at hk4; exact absurd hk4 (by decide)
              · exact ⟨p, q, e⟩
            · rw [q2] at hk4; exact absurd hk4 (by show ¬ (6 : Int) = 4; decide)
            · rw [q5] at hk4; exact absurd hk4 (by show ¬ (7 : Int) = 4; decide)
            · rw [q2] at hk4; exact absurd hk4 (by show ¬ (8 : Int) = 4; decide)
        obtain ⟨p, q, e⟩ := hrr
        obtain ⟨c1, c2⟩ := h.range _ p q e
        rw [e]
        cases hbo : blockOK p q
        · have hx : ¬ blockOK (nRange p q).r1 (nRange p q).r2 = true := by rw [show (nRange p q).r1 = p from rfl, show (nRange p q).r2 = q from rfl, hbo]; simp
          rw [c2 hbo, if_pos (by rfl), if_neg hx, if_pos (by rfl), if_neg hx]
        · obtain ⟨p', q', e', hb', hsw⟩ := c1 hbo
          rw [e', if_pos (by rfl), if_pos (show blockOK (nRange p' q').r1 (nRange p' q').r2 = true from hb'), if_pos (by rfl), if_pos (show blockOK (nRange p q).r1 (nRange p q).r2 = true from hbo)]
          exact hsw op s n6 n7
      · have hg4 : ¬ (g (nd L (i - 1))).kind = 4 := by
          intro e4
          by_cases e3 : (nd L (i - 1)).kind = 3
          · have : ∃ r, nd L (i - 1) = nRef r := by
              cases F with
              | zero => exact h3.elim
              | succ F =>
                obtain ⟨-, h3⟩ := h3
                rcases h3 with ⟨-, hl⟩ | ⟨-, q2, -⟩ | ⟨_, _, -, -, -, -, q5, -⟩ | ⟨_, _, -, q2, -⟩
                · rcases hl with ⟨v, e, -⟩ | e | e | ⟨r, e, -⟩ | e | ⟨-, p, q, e, -⟩
                  · rw [e] at e3; exact absurd e3 (by show ¬ (1 : Int) = 3; decide)
                  · rw [e] at e3; exact absurd e3 (by decide)
                  · rw [e] at e3; exact absurd e3 (by decide)
                  · exact ⟨r, e⟩
                  · rw [e] at e3; exact absurd e3 (by decide)
                  · rw [e] at e3; exact absurd e3 (by show ¬ (4 : Int) = 3; decide)
                · rw [q2] at e3; exact absurd e3 (by show ¬ (6 : Int) = 3; decide)
                · rw [q5] at e3; exact absurd e3 (by show ¬ (7 : Int) = 3; decide)
                · rw [q2] at e3; exact absurd e3 (by show ¬ (8 : Int) = 3; decide)
            obtain ⟨r, e⟩ := this
            obtain ⟨c1, c2⟩ := h.ref _ r e
            rw [e] at e4
            cases hgr : inGrid r
            · rw [c2 hgr] at e4; exact absurd e4 (by show ¬ (3 : Int) = 4; decide)
            · obtain ⟨r', e', -⟩ := c1 hgr
              rw [e'] at e4; exact absurd e4 (by show ¬ (3 : Int) = 4; decide)
          · rw [h.lm.other _ e3 hk4] at e4; exact hk4 e4
        rw [if_neg hg4, if_neg hk4, hev (i - 1) m rg (by omega) h3 hk4]

set_option maxHeartbeats 1000000 in
theorem ev_move {g : Nd → Nd} {L : List Nd} {env env' : Nat → Vl} (h : EvM g L env env') : ∀ (F i lo : Nat) (a : Bool), Sp L F i lo a → (nd L i).kind ≠ 4 → ∀ f, i < f → evV (L.map g) env' f i = evV L env f i
  | 0, _, _, _, h', _, _, _ => h'.elim
  | F + 1, i, lo, a, h', hk, f, hf => by
    obtain ⟨f, rfl⟩ : ∃ e, f = e + 1 := ⟨f - 1, by omega⟩
    obtain ⟨h0, h'⟩ := h'
    have hm := nd_map h.lm.bad L
    rcases h' with ⟨el, hl⟩ | ⟨h1, h2, h3⟩ | ⟨op, m, h1, h2, h3, h4, h5, h6, h7⟩ | ⟨op, k, h1, h2, h3, h4⟩
    · rcases hl with ⟨v, e, -⟩ | e | e | ⟨r, e, -⟩ | e | ⟨-, p, q, e, -⟩
      · unfold evV; simp only [hm, e, h.lm.other (nNum v) (by show (1 : Int) ≠ 3; decide) (by show (1 : Int) ≠ 4; decide)]
        rw [if_pos (by rfl), if_pos (by rfl)]
      · unfold evV; simp only [hm, e, h.lm.other (nBool 0) (by decide) (by decide), show (nBool 0).kind = 2 from rfl, Int.reduceEq, if_false, if_true]
      · unfold evV; simp only [hm, e, h.lm.other (nBool 1) (by decide) (by decide), show (nBool 1).kind = 2 from rfl, Int.reduceEq, if_false, if_true]
      · obtain ⟨c1, c2⟩ := h.ref _ r e
        unfold evV
        have n1 : ∀ r : Ref, ¬ (nRef r).kind = 1 := fun r => by show ¬ (3 : Int) = 1; decide
        have n2 : ∀ r : Ref, ¬ (nRef r).kind = 2 := fun r => by show ¬ (3 : Int) = 2; decide
        cases hg : inGrid r
        · have hx : ¬ inGrid (nRef r).r1 = true := by rw [show (nRef r).r1 = r from rfl, hg]; simp
          simp only [hm, e, c2 hg]
          rw [if_neg (n1 _), if_neg (n2 _), if_pos (by rfl), if_neg hx, if_neg (n1 _), if_neg (n2 _), if_pos (by rfl), if_neg hx]
        · obtain ⟨r', e', hg', hv⟩ := c1 hg
          simp only [hm, e, e']
          rw [if_neg (n1 _), if_neg (n2 _), if_pos (by rfl), if_pos (show inGrid (nRef r').r1 = true from hg'), if_neg (n1 _), if_neg (n2 _), if_pos (by rfl), if_pos (show inGrid (nRef r).r1 = true from hg)]
          exact hv
      · unfold evV; simp only [hm, e, h.lm.bad, show nBad.kind = 5 from rfl, Int.reduceEq, if_false, if_true]
      · rw [e] at hk; exact absurd rfl hk
    · have e1 : ((nNeg ((i : Int) - 1)).a).toNat = i - 1 := by show (((i : Int) - 1)).toNat = _; omega
      have ih := ev_move h F (i - 1) lo false h3 (sp_kind h3) f (by omega)
      unfold evV
      simp only [hm, h2, h.lm.other (nNeg ((i : Int) - 1)) (by show (6 : Int) ≠ 3; decide) (by show (6 : Int) ≠ 4; decide), e1, ih, show (nNeg ((i : Int) - 1)).kind = 6 from rfl, Int.reduceEq, if_false, if_true]
    · have hle := Sp.le _ _ _ _ h6
      have e1 : ((nBin op ((m : Int) - 1) ((i : Int) - 1)).a).toNat = m - 1 := by show (((m : Int) - 1)).toNat = _; omega
      have e2 : ((nBin op ((m : Int) - 1) ((i : Int) - 1)).b).toNat = i - 1 := by show (((i : Int) - 1)).toNat = _; omega
      have ih1 := ev_move h F (i - 1) m false h6 (sp_kind h6) f (by omega)
      have ih2 := ev_move h F (m - 1) lo false h7 (sp_kind h7) f (by omega)
      unfold evV
      simp only [hm, h5, h.lm.other (nBin op ((m : Int) - 1) ((i : Int) - 1)) (by show (7 : Int) ≠ 3; decide) (by show (7 : Int) ≠ 4; decide), e1, e2, ih1, ih2, show (nBin op ((m : Int) - 1) ((i : Int) - 1)).kind = 7 from rfl, Int.reduceEq, if_false, if_true]
    · have ec : ((nCall op ((i : Int) - 1) k).a).toNat = i - 1 := by show (((i : Int) - 1)).toNat = _; omega
      have ec2 : (nCall op ((i : Int) - 1) k).a = (((i - 1 : Nat) : Int)) := by show ((i : Int) - 1) = _; omega
      have hcf := h.lm.other (nCall op ((i : Int) - 1) k) (by show (8 : Int) ≠ 3; decide) (by show (8 : Int) ≠ 4; decide)
      have hop : (nCall op ((i : Int) - 1) k).op = op := rfl
      have hev : ∀ j lo a, j < i → Sp L F j lo a → (nd L j).kind ≠ 4 → evV (L.map g) env' f j = evV L env f j := fun j lo a hj hs hk => ev_move h F j lo a hs hk f (by omega)
      by_cases o5 : op = 5
      · -- three arguments
        subst o5
        have k3 : k = 3 := by unfold arity at h3; simpa using h3
        subst k3
        have hrg : rangeOK 5 = false := by decide
        rw [hrg] at h4
        obtain ⟨p1, p2, m1, p3, p4⟩ := (h4 : Lk (Sp L F) L false 3 (i - 1) lo)
        rcases p4 with ⟨e, -⟩ | ⟨-, pm, pe, q⟩
        · exact absurd e (by decide)
        obtain ⟨q1, q2, m2, q3, q4⟩ := (q : Lk (Sp L F) L false 2 (m1 - 1) lo)
        rcases q4 with ⟨e, -⟩ | ⟨-, qm, qe, r⟩
        · exact absurd e (by decide)
        obtain ⟨r1, r2, m3, r3, r4⟩ := (r : Lk (Sp L F) L false 1 (m2 - 1) lo)
        have re : nd L (m2 - 1) = nArg (((m2 - 1 : Nat) : Int) - 1) (-1) := by
          rcases r4 with ⟨-, re, -⟩ | ⟨e, -⟩
          · exact re
          · exact absurd e (by decide)
        have l1 := Sp.le _ _ _ _ p3
        have l2 := Sp.le _ _ _ _ q3
        have f1 := arg_fix h.lm (((i - 1 : Nat) : Int) - 1) ((m1 : Int) - 1)
        have f2 := arg_fix h.lm (((m1 - 1 : Nat) : Int) - 1) ((m2 : Int) - 1)
        have f3 := arg_fix h.lm (((m2 - 1 : Nat) : Int) - 1) (-1)
        have b1 : ((nArg (((i - 1 : Nat) : Int) - 1) ((m1 : Int) - 1)).b).toNat = m1 - 1 := by show (((m1 : Int) - 1)).toNat = _; omega
        have b2 : ((nArg (((m1 - 1 : Nat) : Int) - 1) ((m2 : Int) - 1)).b).toNat = m2 - 1 := by show (((m2 : Int) - 1)).toNat = _; omega
        have a1 : ((nArg (((i - 1 : Nat) : Int) - 1) ((m1 : Int) - 1)).a).toNat = i - 1 - 1 := by show ((((i - 1 : Nat) : Int) - 1)).toNat = _; omega
        have a2 : ((nArg (((m1 - 1 : Nat) : Int) - 1) ((m2 : Int) - 1)).a).toNat = m1 - 1 - 1 := by show ((((m1 - 1 : Nat) : Int) - 1)).toNat = _; omega
        have a3 : ((nArg (((m2 - 1 : Nat) : Int) - 1) (-1)).a).toNat = m2 - 1 - 1 := by show ((((m2 - 1 : Nat) : Int) - 1)).toNat = _; omega
        have v1 := hev (i - 1 - 1) m1 false (by omega) p3 (sp_kind p3)
        have v2 := hev (m1 - 1 - 1) m2 false (by omega) q3 (sp_kind q3)
        have v3 := hev (m2 - 1 - 1) m3 false (by omega) r3 (sp_kind r3)
        unfold evV
        simp only [hm, h2, hcf, ec, pe, f1, b1, a1, qe, f2, b2, a2, re, f3, a3, v1, v2, v3, show (nCall 5 ((i : Int) - 1) 3).kind = 8 from rfl, show (nCall 5 ((i : Int) - 1) 3).op = 5 from rfl, Int.reduceEq, if_false, if_true]
      · by_cases o8 : op = 8 ∨ op = 9 ∨ op = 10
        · have k1 : k = 1 := by
            unfold arity at h3
            rw [if_neg (by omega), if_neg o5, if_pos o8] at h3
            simpa using h3
          subst k1
          have hrg : rangeOK op = false := by unfold rangeOK; simp; omega
          rw [hrg] at h4
          obtain ⟨r1, r2, m3, r3, r4⟩ := (h4 : Lk (Sp L F) L false 1 (i - 1) lo)
          have re : nd L (i - 1) = nArg (((i - 1 : Nat) : Int) - 1) (-1) := by
            rcases r4 with ⟨-, re, -⟩ | ⟨e, -⟩
            · exact re
            · exact absurd e (by decide)
          have f3 := arg_fix h.lm (((i - 1 : Nat) : Int) - 1) (-1)
          have a3 : ((nArg (((i - 1 : Nat) : Int) - 1) (-1)).a).toNat = i - 1 - 1 := by show ((((i - 1 : Nat) : Int) - 1)).toNat = _; omega
          have v3 := hev (i - 1 - 1) m3 false (by omega) r3 (sp_kind r3)
          unfold evV
          simp only [hm, h2, hcf, ec, hop, re, f3, a3, v3, if_neg o5, if_pos o8, show (nCall op ((i : Int) - 1) 1).kind = 8 from rfl, Int.reduceEq, if_false, if_true]
        · have hfd := fd_move h (ev := evV L env f) (ev' := evV (L.map g) env' f) (op := op) (rg := rangeOK op) (F := F) (by
            intro e; unfold rangeOK at e; simp at e; omega) i hev k.toNat (i - 1) lo (by omega) h4 i
          unfold evV
          simp only [hm, h2, hcf, hop, if_neg o5, if_neg o8, ec2, hfd, show (nCall op ((i : Int) - 1) k).kind = 8 from rfl, Int.reduceEq, if_false, if_true]
end Go.Proofs.Qxb6500326aGreat
