import Derived.Test.Qxb6500326aGreatW10
import Derived.Test.Qxb6500326aGreatW12
import Derived.Test.Qxb6500326aGreatW16
namespace Go.Proofs.Qxb6500326aGreat
set_option maxRecDepth 100000
set_option linter.unusedVariables false
set_option linter.unusedSimpArgs false
open Go.RowKit Go.PlainAid
section
variable {b : Nat → Int} {n : Nat}
def Mono (n : Nat) (M : Bool → PS → PS × Int) : Prop := ∀ ranges st, st.i ≤ n → st.i ≤ (M ranges st).1.i ∧ (M ranges st).1.i ≤ n
theorem look_mono {st : PS} (h : st.i ≤ n) : st.i ≤ (st.look b n).1.i ∧ (st.look b n).1.i ≤ n := by rw [look_i]; exact ⟨le_skip _, skip_le h⟩
theorem callLoop_mono {ex : Bool → PS → PS × Int} (hex : Mono n ex) (f : Int) : ∀ m st link k, st.i ≤ n → st.i ≤ (callLoop b n ex f m st link k).1.i ∧ (callLoop b n ex f m st link k).1.i ≤ n := by
  intro m
  induction m with
  | zero => intro st link k h; exact ⟨Nat.le_refl _, h⟩
  | succ m ih =>
    intro st link k h
    rw [callLoop_succW _ _ _ _ _ _ _ _ _ _ _ rfl rfl rfl]
    have h1 := hex (rangeOK f) st h
    generalize ex (rangeOK f) st = u at *
    have h2 := add_i u.1 (nArg u.2 link)
    generalize u.1.add (nArg u.2 link) = a at *
    have h3 := look_mono (b := b) (n := n) (st := a.1) (by omega)
    have h4 := look_pos (b := b) (n := n) (st := a.1)
    generalize a.1.look b n = l at *
    split
    · exact ⟨Nat.le_refl _, h⟩
    · split
      · rename_i hc
        have h5 := h4 (by omega)
        have := ih (l.1.go (l.1.i + 1)) a.2 (k + 1) (by show l.1.i + 1 ≤ n; omega)
        rw [show (l.1.go (l.1.i + 1)).i = l.1.i + 1 from rfl] at this
        exact ⟨by omega, this.2⟩
      · split
        · rename_i hc
          have h5 := h4 (by omega)
          exact ⟨by show st.i ≤ l.1.i + 1; omega, by show l.1.i + 1 ≤ n; omega⟩
        · show st.i ≤ (l.1.fail 3 l.1.i).i ∧ (l.1.fail 3 l.1.i).i ≤ n
          rw [fail_i]; omega
theorem callM_mono {ex : Bool → PS → PS × Int} (hex : Mono n ex) (F : Nat) (f : Int) (at_ : Nat) {st : PS} (h : st.i < n) : st.i ≤ (callM b n ex F f at_ st).1.i ∧ (callM b n ex F f at_ st).1.i ≤ n := by
  rw [callM_eqW _ _ _ _ _ _ _ _ rfl]
  have h3 := look_mono (b := b) (n := n) (st := st.go (st.i + 1)) h
  have h4 := look_pos (b := b) (n := n) (st := st.go (st.i + 1))
  rw [show (st.go (st.i + 1)).i = st.i + 1 from rfl] at h3
  generalize (st.go (st.i + 1)).look b n = l at *
  split
  · rename_i hc
    have h5 := h4 (by omega)
    rw [fail_i]
    exact ⟨by show st.i ≤ l.1.i + 1; omega, by show l.1.i + 1 ≤ n; omega⟩
  · rw [callEndW_i]
    have := callLoop_mono (b := b) hex f F l.1 (-1) 0 h3.2
    omega
theorem nameM_mono {ex : Bool → PS → PS × Int} (hex : Mono n ex) (F : Nat) : Mono n (nameM b n ex F) := by
  intro ranges st h
  unfold nameM
  simp only
  have e1 : st.i ≤ wordEnd b n st.i := le_runF _ _
  have e2 : wordEnd b n st.i ≤ n := runF_le _ _ h
  generalize wordEnd b n st.i = e at *
  have h3 := look_mono (b := b) (n := n) (st := st.go e) e2
  have h4 := look_pos (b := b) (n := n) (st := st.go e)
  rw [show (st.go e).i = e from rfl] at h3
  split
  · rw [add_i]; exact ⟨e1, e2⟩
  · split
    · rw [add_i]; exact ⟨e1, e2⟩
    · split
      · split
        · rw [fail_i]; exact ⟨e1, e2⟩
        · split
          · rename_i hc
            have h5 := h4 (by omega)
            have := callM_mono (b := b) hex F (fnOf (cut b st.i e)) st.i h5.1
            omega
          · rw [fail_i]; omega
      · split
        · rename_i hc
          have h5 := h4 (by omega)
          generalize (st.go e).look b n = l at *
          have h6 := look_mono (b := b) (n := n) (st := l.1.go (l.1.i + 1)) h5.1
          rw [show (l.1.go (l.1.i + 1)).i = l.1.i + 1 from rfl] at h6
          generalize (l.1.go (l.1.i + 1)).look b n = l2 at *
          have g1 : l2.1.i ≤ wordEnd b n l2.1.i := le_runF _ _
          have g2 : wordEnd b n l2.1.i ≤ n := runF_le _ _ h6.2
          generalize wordEnd b n l2.1.i = e' at *
          split
          · rw [fail_i]; exact ⟨by show st.i ≤ e'; omega, g2⟩
          · split
            · rw [add_i]; exact ⟨by show st.i ≤ e'; omega, g2⟩
            · rw [fail_i]; exact ⟨by show st.i ≤ e'; omega, g2⟩
        · rw [add_i]; omega
theorem atomM_mono {ex : Bool → PS → PS × Int} (hex : Mono n ex) (F : Nat) : Mono n (atomM b n ex F) := by
  intro ranges st h
  unfold atomM
  simp only
  have h3 := look_mono (b := b) (n := n) h
  have h4 := look_pos (b := b) (n := n) (st := st)
  generalize st.look b n = l at *
  have e1 : l.1.i ≤ digEnd b n l.1.i := le_runF _ _
  have e2 : digEnd b n l.1.i ≤ n := runF_le _ _ h3.2
  split
  · split
    · rw [fail_i]; exact ⟨by show st.i ≤ digEnd b n l.1.i; omega, e2⟩
    · rw [add_i]; exact ⟨by show st.i ≤ digEnd b n l.1.i; omega, e2⟩
  · split
    · have := nameM_mono (b := b) hex F ranges l.1 h3.2
      omega
    · split
      · split
        · rename_i hc
          rw [add_i]; exact ⟨by show st.i ≤ l.1.i + 2; omega, by show l.1.i + 2 ≤ n; omega⟩
        · rw [fail_i]; omega
      · split
        · rename_i hc
          have h5 := h4 (by omega)
          have h6 := hex false (l.1.go (l.1.i + 1)) (by show l.1.i + 1 ≤ n; omega)
          rw [show (l.1.go (l.1.i + 1)).i = l.1.i + 1 from rfl] at h6
          generalize ex false (l.1.go (l.1.i + 1)) = u at *
          have h7 := look_mono (b := b) (n := n) h6.2
          have h8 := look_pos (b := b) (n := n) (st := u.1)
          generalize u.1.look b n = l2 at *
          split
          · rename_i hc2
            have h9 := h8 (by omega)
            exact ⟨by show st.i ≤ l2.1.i + 1; omega, by show l2.1.i + 1 ≤ n; omega⟩
          · rw [fail_i]; omega
        · rw [fail_i]; omega
theorem unaryM_mono {ex : Bool → PS → PS × Int} (hex : Mono n ex) (F : Nat) : ∀ m, Mono n (unaryM b n ex F m) := by
  intro m
  induction m with
  | zero => intro ranges st h; exact ⟨Nat.le_refl _, h⟩
  | succ m ih =>
    intro ranges st h
    rw [unaryM_succ]
    have h3 := look_mono (b := b) (n := n) h
    have h4 := look_pos (b := b) (n := n) (st := st)
    generalize st.look b n = l at *
    split
    · rename_i hc
      have h5 := h4 (by omega)
      have h6 := ih false (l.1.go (l.1.i + 1)) (by show l.1.i + 1 ≤ n; omega)
      rw [show (l.1.go (l.1.i + 1)).i = l.1.i + 1 from rfl] at h6
      rw [add_i]; omega
    · have := atomM_mono (b := b) hex F ranges l.1 h3.2
      omega
theorem chainLoop_mono {opOf : Int → Int} (h0 : opOf 0 = 0) {nxt : Bool → PS → PS × Int} (hn : Mono n nxt) : ∀ m st a, st.i ≤ n → st.i ≤ (chainLoop b n opOf (nxt false) m st a).1.i ∧ (chainLoop b n opOf (nxt false) m st a).1.i ≤ n := by
  intro m
  induction m with
  | zero => intro st a h; exact ⟨Nat.le_refl _, h⟩
  | succ m ih =>
    intro st a h
    rw [chainLoop_succ]
    have h3 := look_mono (b := b) (n := n) h
    have h4 := look_pos (b := b) (n := n) (st := st)
    generalize st.look b n = l at *
    split
    · exact ⟨Nat.le_refl _, h⟩
    · split
      · exact h3
      · rename_i hc
        split
        · rw [fail_i]; exact h3
        · have h5 := h4 (fun e => hc (by rw [e]; exact h0))
          have h6 := hn false (l.1.go (l.1.i + 1)) (by show l.1.i + 1 ≤ n; omega)
          rw [show (l.1.go (l.1.i + 1)).i = l.1.i + 1 from rfl] at h6
          generalize nxt false (l.1.go (l.1.i + 1)) = u at *
          have h7 := ih (u.1.add (nBin (opOf l.2) a u.2)).1 (u.1.add (nBin (opOf l.2) a u.2)).2 (by rw [add_i]; omega)
          rw [add_i] at h7
          omega
theorem chain3_mono {ex : Bool → PS → PS × Int} (hex : Mono n ex) (F : Nat) : Mono n (chain3 b n ex F) := by
  intro ranges st h
  unfold chain3
  simp only
  have h1 := unaryM_mono (b := b) hex F F ranges st h
  have h2 := chainLoop_mono (b := b) (opOf := mulOp) rfl (nxt := unaryM b n ex F F) (unaryM_mono hex F F) F _ (unaryM b n ex F F ranges st).2 h1.2
  omega
theorem chain2_mono {ex : Bool → PS → PS × Int} (hex : Mono n ex) (F : Nat) : Mono n (chain2 b n ex F) := by
  intro ranges st h
  unfold chain2
  simp only
  have h1 := chain3_mono (b := b) hex F ranges st h
  have h2 := chainLoop_mono (b := b) (opOf := addOp) rfl (nxt := chain3 b n ex F) (chain3_mono hex F) F _ (chain3 b n ex F ranges st).2 h1.2
  omega
theorem exprM_mono {ex : Bool → PS → PS × Int} (hex : Mono n ex) (F : Nat) : Mono n (exprM b n ex F) := by
  intro ranges st h
  rw [exprM_eq b n ex F ranges st _ _ rfl rfl]
  have h1 := chain2_mono (b := b) hex F ranges st h
  generalize chain2 b n ex F ranges st = u at *
  have h3 := look_mono (b := b) (n := n) h1.2
  have h4 := look_pos (b := b) (n := n) (st := u.1)
  generalize u.1.look b n = l at *
  split
  · rename_i hc
    split
    · rw [fail_i]; omega
    · have h5 := h4 (by rw [isCmp_iff] at hc; omega)
      have h6 := cmpOp_fits (b := b) (c := l.2) h5.1
      have h7 := chain2_mono (b := b) hex F false (l.1.go (l.1.i + (cmpOp l.2 (nextB b n l.1.i)).2)) h6
      rw [show (l.1.go (l.1.i + (cmpOp l.2 (nextB b n l.1.i)).2)).i = l.1.i + (cmpOp l.2 (nextB b n l.1.i)).2 from rfl] at h7
      rw [add_i]
      omega
  · exact ⟨by show st.i ≤ l.1.i; omega, h3.2⟩
theorem exprD_mono : ∀ f, Mono n (exprD b n f) := by
  intro f
  induction f with
  | zero => intro ranges st h; exact ⟨Nat.le_refl _, h⟩
  | succ f ih => exact exprM_mono ih (n + 1)
end
theorem expr_all (r : Nat) (s : ByteArray) (hs : s.size ≤ 40) : ∀ f, OK1 142 r s (exprD (bt s) s.size f) f := by
  intro f
  induction f with
  | zero => intro ranges st v w h h1 h2; omega
  | succ f ih =>
    have hm := exprD_mono (b := bt s) (n := s.size) f
    have hF : s.size < s.size + 1 := by omega
    have hat := atom_any r s hs (exprD (bt s) s.size f) (s.size + 1) f hF ih (fun ranges st h _ => hm ranges st h)
    have hun := unary_any r s hs (exprD (bt s) s.size f) (s.size + 1) (f + 1) hat (s.size + 1)
    have h3 := chain3_any r s hs mulOp rfl (unaryM (bt s) s.size (exprD (bt s) s.size f) (s.size + 1) (s.size + 1)) (s.size + 1) (f + 1) hF (fun ranges st v w h a b => hun ranges st v w h a b (by omega))
    have h2 := chain2_any r s hs addOp rfl (chain3 (bt s) s.size (exprD (bt s) s.size f) (s.size + 1)) (s.size + 1) (f + 1) hF h3
    exact expr_any r s hs (exprD (bt s) s.size f) (s.size + 1) (f + 1) h2 (chain2_mono hm (s.size + 1))
end Go.Proofs.Qxb6500326aGreat
