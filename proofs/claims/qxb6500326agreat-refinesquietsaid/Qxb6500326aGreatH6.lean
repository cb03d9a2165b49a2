import Derived.Test.Qxb6500326aGreatH3
import Derived.Test.Qxb6500326aGreatO17
import Derived.Test.Qxb6500326aGreatO14
namespace Go.Proofs.Qxb6500326aGreat
set_option maxRecDepth 100000
set_option linter.unusedVariables false
set_option linter.unusedSimpArgs false
open Go.RowKit Go.PlainAid

/-! ### the editors, by what they show -/
def setT (c : Int) (s : ByteArray) (T : Tx) : Tx := if setP c s = 0 then upd T c.toNat s else T
def edP (k at_ : Int) : Int := if edOK k at_ = true then 0 else 9
def edX (k at_ : Int) (T : Tx) : Tx := if edOK k at_ = true then edT (decide (k = 1 ∨ k = 2)) (decide (k = 1 ∨ k = 3)) at_ T else T
def cpX (src dst : Int) (T : Tx) : Tx := if cpP T src dst = 0 then upd T dst.toNat (cpS T src dst) else T
/-- A command: what it answers, what it leaves. -/
structure Cmd where
  p : Tx → Int
  x : Tx → Tx
/-- Texts of a sheet. -/
structure TxO (T : Tx) : Prop where
  ok : TxOK T
  out : ∀ c, 24 ≤ c → T c = es
theorem TxO.size {T : Tx} (h : TxO T) (c : Nat) : (T c).size ≤ 40 := by
  rcases Nat.lt_or_ge c 24 with hc | hc
  · exact h.ok c hc
  · rw [h.out c hc]; decide
theorem setP_size {c : Int} {s : ByteArray} (h : setP c s = 0) : 0 ≤ c ∧ c < 24 ∧ s.size ≤ 40 := by
  unfold setP at h
  split at h
  · cases h
  · split at h
    · cases h
    · omega
theorem TxO.upd {T : Tx} (h : TxO T) {c : Nat} {s : ByteArray} (hc : c < 24) (hs : s.size ≤ 40) : TxO (upd T c s) :=
  ⟨fun i hi => by unfold Go.Proofs.Qxb6500326aGreat.upd; split; · exact hs
                  · exact h.ok i hi, fun i hi => by rw [upd_other _ _ (by omega)]; exact h.out i hi⟩
theorem TxO.set {T : Tx} (h : TxO T) (c : Int) (s : ByteArray) : TxO (setT c s T) := by
  unfold setT; split
  · rename_i h0; have := setP_size h0; exact h.upd (by omega) this.2.2
  · exact h
theorem kd_edOK {rows ins : Bool} {at_ : Int} (h0 : 0 ≤ at_) (h1 : at_ < nAx rows) : edOK (kd rows ins) at_ = true := by
  unfold edOK kd nAx at *
  cases rows <;> cases ins <;> simp_all
theorem edX_kd {rows ins : Bool} {at_ : Int} {T : Tx} (h0 : 0 ≤ at_) (h1 : at_ < nAx rows) : edX (kd rows ins) at_ T = edT rows ins at_ T := by
  unfold edX
  rw [if_pos (kd_edOK h0 h1)]
  have e1 : decide (kd rows ins = 1 ∨ kd rows ins = 2) = rows := by cases rows <;> cases ins <;> rfl
  have e2 : decide (kd rows ins = 1 ∨ kd rows ins = 3) = ins := by cases rows <;> cases ins <;> rfl
  rw [e1, e2]
theorem edT_out {rows ins : Bool} {at_ : Int} {T : Tx} {c : Nat} (hc : 24 ≤ c) : edT rows ins at_ T c = T c := by unfold edT; rw [if_neg (by omega)]
theorem TxO.ed {T : Tx} (h : TxO T) (k at_ : Int) : TxO (edX k at_ T) := by
  cases hk : edOK k at_
  · unfold edX; rw [if_neg (by rw [hk]; simp)]; exact h
  · obtain ⟨rows, ins, rfl, h0, h1⟩ := edOK_kd hk
    rw [edX_kd h0 h1]
    exact ⟨edT_ok h0 h1 h.ok, fun c hc => by rw [edT_out hc]; exact h.out c hc⟩
theorem cpP_in0 {T : Tx} {src dst : Int} (h : cpP T src dst = 0) : 0 ≤ dst ∧ dst < 24 ∧ (cpS T src dst).size ≤ 40 := by
  unfold cpP at h
  split at h
  · cases h
  · split at h
    · cases h
    · omega
theorem TxO.cp {T : Tx} (h : TxO T) (src dst : Int) : TxO (cpX src dst T) := by
  unfold cpX; split
  · rename_i h0; have := cpP_in0 h0; exact h.upd (by omega) this.2.2
  · exact h
/-! ### the real editor -/
def XB (w : World) (A : XA) (T : Tx) : Prop := ∃ x E, EX w A x T E (fun _ => es) ∧ Sheet T E
/-- What a command's call leaves. -/
def Did (w : World) (S : Nat → Prop) (n : Int) (Q : World → Prop) : Ending → World → Prop := fun e w' => e = .returned (I n) ∧ Q w' ∧ Fr S w w'
section
variable {w w' : World} {A : XA} {T : Tx}
theorem XB.fr (h : XB w A T) {S : Nat → Prop} (f : Fr S w w') (hS : ∀ k, SE A k → ¬ S k) : XB w' A T := by
  obtain ⟨x, E, h1, h2⟩ := h; exact ⟨x, E, h1.fr f hS, h2⟩
theorem XB.lt (h : XB w A T) : ∀ k, SE A k → k < w.heap.size := by obtain ⟨x, E, h1, h2⟩ := h; exact h1.lt
theorem XB.cell (h : XB w A T) : A.xe < w.heap.size := h.lt _ (.inr (.inr (.inl rfl)))
theorem xb_raw (h : XB w A T) (c : Int) : Calls Tryz.prog 52 #[pt A.xe, I c] w fun e w' => e = .returned (.string (rawP T c)) ∧ w = w' := by
  obtain ⟨x, E, h1, h2⟩ := h; exact xRaw_any c w h1
theorem xb_val (h : XB w A T) : ∃ E, Sheet T E ∧ ∀ (c : Int) w', Fr S0 w w' → Calls Tryz.prog 63 #[pt A.xe, I c] w' (VR w' (valP E c)) := by
  obtain ⟨x, E, h1, h2⟩ := h; exact ⟨E, h2, fun c w' f => xValue_any c w' (h1.fr0 f)⟩
theorem xb_set (h : XB w A T) (c : Int) (s : ByteArray) : Calls Tryz.prog 67 #[pt A.xe, I c, .string s] w (Did w (SE A) (setP c s) (fun w' => XB w' A (setT c s T))) := by
  obtain ⟨x, E, h1, h2⟩ := h
  refine (xSet_any c s w h1 h2).mono ?_
  rintro e w' ⟨rfl, hf, h⟩
  refine ⟨rfl, ?_, hf.mono (fun k hk => .inl hk)⟩
  unfold setT
  rcases h with ⟨hne, hx⟩ | ⟨he, x', E', hx, hs⟩
  · rw [if_neg hne]; exact ⟨x, E, hx, h2⟩
  · rw [if_pos he]; exact ⟨x', E', hx, hs⟩
theorem xb_edit (h : XB w A T) (k at_ : Int) : Calls Tryz.prog 68 #[pt A.xe, I k, I at_] w (Did w (SE A) (edP k at_) (fun w' => XB w' A (edX k at_ T))) := by
  obtain ⟨x, E, h1, h2⟩ := h
  refine (xEdit_any k at_ w h1 h2).mono ?_
  rintro e w' ⟨rfl, hf, h⟩
  refine ⟨rfl, ?_, hf⟩
  rcases h with ⟨hne, hx⟩ | ⟨rows, ins, rfl, g0, g1, x', E', hx, hs⟩
  · unfold edX; rw [if_neg (by rw [hne]; simp)]; exact ⟨x, E, hx, h2⟩
  · rw [edX_kd g0 g1]; exact ⟨x', E', hx, hs⟩
theorem xb_copy (h : XB w A T) (src dst : Int) : Calls Tryz.prog 69 #[pt A.xe, I src, I dst] w (Did w (SE A) (cpP T src dst) (fun w' => XB w' A (cpX src dst T))) := by
  obtain ⟨x, E, h1, h2⟩ := h
  refine (xCopy_any src dst w h1 h2).mono ?_
  rintro e w' ⟨rfl, hf, h⟩
  refine ⟨rfl, ?_, hf⟩
  unfold cpX
  rcases h with ⟨hne, hx⟩ | ⟨he, x', E', hx, hs⟩
  · rw [if_neg hne]; exact ⟨x, E, hx, h2⟩
  · rw [if_pos he]; exact ⟨x', E', hx, hs⟩
end
/-! ### the model's editor; its blocks have the colour 2 -/
/-- The colours of the old blocks stay. -/
def Ext (w : World) (ρ ρ' : Nat → Nat) : Prop := ∀ k, k < w.heap.size → ρ' k = ρ k
theorem Ext.refl (w : World) (ρ : Nat → Nat) : Ext w ρ ρ := fun _ _ => rfl
theorem Ext.trans {w w' : World} {ρ ρ' ρ'' : Nat → Nat} (h : Ext w ρ ρ') (h' : Ext w' ρ' ρ'') (hs : w.heap.size ≤ w'.heap.size) : Ext w ρ ρ'' := fun k hk => (h' k (by omega)).trans (h k hk)
/-- A new block of a colour; what else is new has the colour 0. -/
def ext (ρ : Nat → Nat) (n b c : Nat) : Nat → Nat := fun k => if k < n then ρ k else if k = b then c else 0
theorem ext_old {ρ : Nat → Nat} {n b c k : Nat} (h : k < n) : ext ρ n b c k = ρ k := by unfold ext; rw [if_pos h]
theorem ext_new {ρ : Nat → Nat} {n b c : Nat} (h : n ≤ b) : ext ρ n b c b = c := by unfold ext; rw [if_neg (by omega), if_pos rfl]
theorem ext_Ext (w : World) (ρ : Nat → Nat) (b c : Nat) : Ext w ρ (ext ρ w.heap.size b c) := fun k hk => ext_old hk
def YB (w : World) (ρ : Nat → Nat) (M : YA) (T : Tx) : Prop := ∃ sb E, EY w M sb T E ∧ Sheet T E ∧ ∀ k, SYa M sb k → ρ k = 2
abbrev Cq (ρ : Nat → Nat) (c : Nat) : Nat → Prop := fun k => ρ k = c
/-- What a call on the model's side leaves. -/
def DidM (w : World) (ρ : Nat → Nat) (S : Nat → Prop) (n : Int) (Q : World → (Nat → Nat) → Prop) : Ending → World → Prop := fun e w' => e = .returned (I n) ∧ (∃ ρ', Ext w ρ ρ' ∧ Q w' ρ') ∧ Fr S w w'
section
variable {w w' : World} {ρ ρ' : Nat → Nat} {M : YA} {T : Tx}
theorem YB.fr (h : YB w ρ M T) {S : Nat → Prop} (f : Fr S w w') (hS : ∀ k, ρ k = 2 → ¬ S k) (hx : Ext w ρ ρ') : YB w' ρ' M T := by
  obtain ⟨sb, E, h1, h2, h3⟩ := h
  exact ⟨sb, E, h1.fr f (fun k hk => hS k (h3 k hk)), h2, fun k hk => (hx k (h1.lt k hk)).trans (h3 k hk)⟩
theorem YB.lt (h : YB w ρ M T) : M.me < w.heap.size := by obtain ⟨sb, E, h1, h2, h3⟩ := h; exact h1.lt _ (.inl (.inl rfl))
theorem yb_raw (h : YB w ρ M T) (c : Int) : Calls Tryz.prog 42 #[pt M.me, I c] w fun e w' => e = .returned (.string (rawP T c)) ∧ w = w' := by
  obtain ⟨sb, E, h1, h2, h3⟩ := h; exact yRaw_any c w h1
theorem yb_val (h : YB w ρ M T) : ∃ E, Sheet T E ∧ ∀ (c : Int) w', Fr S0 w w' → Calls Tryz.prog 98 #[pt M.me, I c] w' (VR w' (valP E c)) := by
  obtain ⟨sb, E, h1, h2, h3⟩ := h; exact ⟨E, h2, fun c w' f => yValue_any c w' (h1.fr0 f)⟩
theorem yb_mk {sb sb' : Nat} {T' : Tx} {E E' : Nat → Vl} (h1 : EY w M sb T E) (h3 : ∀ k, SYa M sb k → ρ k = 2) (hs : sb' = sb ∨ w.heap.size ≤ sb') (hx : EY w' M sb' T' E') (hS : Sheet T' E') : ∃ ρ', Ext w ρ ρ' ∧ YB w' ρ' M T' := by
  rcases hs with e | e
  · subst e; exact ⟨ρ, Ext.refl _ _, _, E', hx, hS, h3⟩
  · refine ⟨ext ρ w.heap.size sb' 2, ext_Ext _ _ _ _, sb', E', hx, hS, ?_⟩
    rintro k (hk | hk)
    · rw [ext_old (h1.lt k (.inl hk))]; exact h3 k (.inl hk)
    · rw [hk, ext_new e]
theorem yb_set (h : YB w ρ M T) (c : Int) (s : ByteArray) : Calls Tryz.prog 37 #[pt M.me, I c, .string s] w (DidM w ρ (Cq ρ 2) (setP c s) (fun w' ρ' => YB w' ρ' M (setT c s T))) := by
  obtain ⟨sb, E, h1, h2, h3⟩ := h
  refine (ySet_any c s w h1 h2).mono ?_
  rintro e w' ⟨rfl, hf, h⟩
  refine ⟨rfl, ?_, hf.mono (fun k hk => h3 k (.inl hk))⟩
  unfold setT
  rcases h with ⟨hne, hx⟩ | ⟨he, sb', E', hb, hx, hs⟩
  · rw [if_neg hne]; exact ⟨ρ, Ext.refl _ _, sb, E, hx, h2, h3⟩
  · rw [if_pos he]; exact yb_mk h1 h3 (.inr hb) hx hs
theorem yb_edit (h : YB w ρ M T) (k at_ : Int) : Calls Tryz.prog 39 #[pt M.me, I k, I at_] w (DidM w ρ (Cq ρ 2) (edP k at_) (fun w' ρ' => YB w' ρ' M (edX k at_ T))) := by
  obtain ⟨sb, E, h1, h2, h3⟩ := h
  refine (yEdit_any k at_ w h1 h2).mono ?_
  rintro e w' ⟨rfl, hf, h⟩
  refine ⟨rfl, ?_, hf.mono (fun k hk => h3 k (.inl hk))⟩
  rcases h with ⟨hne, hx⟩ | ⟨rows, ins, rfl, g0, g1, sb', E', hb, hx, hs⟩
  · unfold edX; rw [if_neg (by rw [hne]; simp)]; exact ⟨ρ, Ext.refl _ _, sb, E, hx, h2, h3⟩
  · rw [edX_kd g0 g1]; exact yb_mk h1 h3 hb hx hs
theorem yb_copy (h : YB w ρ M T) (src dst : Int) : Calls Tryz.prog 40 #[pt M.me, I src, I dst] w (DidM w ρ (Cq ρ 2) (cpP T src dst) (fun w' ρ' => YB w' ρ' M (cpX src dst T))) := by
  obtain ⟨sb, E, h1, h2, h3⟩ := h
  refine (yCopy_any src dst w h1 h2).mono ?_
  rintro e w' ⟨rfl, hf, h⟩
  refine ⟨rfl, ?_, hf.mono (fun k hk => h3 k (.inl hk))⟩
  unfold cpX
  rcases h with ⟨hne, hx⟩ | ⟨he, sb', E', hb, hx, hs⟩
  · rw [if_neg hne]; exact ⟨ρ, Ext.refl _ _, sb, E, hx, h2, h3⟩
  · rw [if_pos he]; exact yb_mk h1 h3 (.inr hb) hx hs
end
end Go.Proofs.Qxb6500326aGreat
