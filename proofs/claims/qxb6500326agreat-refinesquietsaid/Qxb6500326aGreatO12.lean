import Derived.Test.Qxb6500326aGreatK7
import Derived.Test.Qxb6500326aGreatS12
namespace Go.Proofs.Qxb6500326aGreat
set_option maxRecDepth 100000
set_option linter.unusedVariables false
set_option linter.unusedSimpArgs false
open Go.RowKit Go.PlainAid

/-! ### the real Editor's memory -/
structure XA where
  xe : Nat
  bb : Nat
  B2 : FB
  xb : Nat
  V : VB
  B : FB
  gb : Nat
  rb : Nat
  sb : Nat
abbrev SK (A : XA) : Nat → Prop := KS A.xb A.V A.B A.gb A.rb A.sb
def SE (A : XA) : Nat → Prop := fun k => SK A k ∨ FmS A.B2 k ∨ k = A.xe ∨ k = A.bb
/-- What an edit writes ahead of the laying. -/
def SB (A : XA) : Nat → Prop := fun k => FmS A.B2 k ∨ k = A.bb
structure XN (A : XA) : Prop where
  k1 : ∀ k, SK A k → ¬ FmS A.B2 k
  k2 : ¬ SK A A.xe
  k3 : ¬ SK A A.bb
  f1 : ¬ FmS A.B2 A.xe
  f2 : ¬ FmS A.B2 A.bb
  n1 : A.xe ≠ A.bb
abbrev kmA (w : World) (A : XA) (x : Gr.XS) (T : Nat → ByteArray) (E : Nat → Vl) : Prop := KM w A.xb A.V A.B A.gb A.rb A.sb x T E
def exC (A : XA) : Nat → Value
  | 0 => pt A.B2.f
  | 1 => pt A.xb
  | _ => sl A.bb 24 24
structure EX (w : World) (A : XA) (x : Gr.XS) (T : Nat → ByteArray) (E : Nat → Vl) (Bf : Nat → ByteArray) : Prop where
  obj : Row w A.xe 3 (exC A)
  km : kmA w A x T E
  fz : FZ w A.B2
  buf : Row w A.bb 24 (fun i => .string (Bf i))
  n : XN A
section
variable {w w' : World} {A : XA} {x : Gr.XS} {T : Nat → ByteArray} {E : Nat → Vl} {Bf : Nat → ByteArray}
theorem EX.fr (h : EX w A x T E Bf) {S : Nat → Prop} (f : Fr S w w') (hS : ∀ k, SE A k → ¬ S k) : EX w' A x T E Bf :=
  ⟨f.row h.obj (hS _ (.inr (.inr (.inl rfl)))), h.km.fr f (fun k hk => hS k (.inl hk)), h.fz.fr f (fun k hk => hS k (.inr (.inl hk))), f.row h.buf (hS _ (.inr (.inr (.inr rfl)))), h.n⟩
theorem EX.fr0 (h : EX w A x T E Bf) (f : Fr S0 w w') : EX w' A x T E Bf := h.fr f (fun _ _ e => e)
theorem EX.lt (h : EX w A x T E Bf) : ∀ k, SE A k → k < w.heap.size := by
  rintro k (e | e | e | e)
  · exact h.km.lt k e
  · obtain ⟨F, hF, -⟩ := h.fz
    rcases Nat.lt_or_ge k w.heap.size with q | q
    · exact q
    · exact absurd e (not_fm hF q)
  · exact e ▸ h.obj.lt
  · exact e ▸ h.buf.lt
theorem Row.ex3 (h : Row w A.xe 3 (exC A)) : w.cell? ⟨A.xe, 0, none⟩ = some (pt A.B2.f) ∧ w.cell? ⟨A.xe, 1, none⟩ = some (pt A.xb) ∧ w.cell? ⟨A.xe, 2, none⟩ = some (sl A.bb 24 24) :=
  ⟨h.cell 0 (by omega), h.cell 1 (by omega), h.cell 2 (by omega)⟩
/-- The former has worked. -/
theorem EX.stepF (h : EX w A x T E Bf) (hz : FZ w' A.B2) (f : Fr (FmS A.B2) w w') : EX w' A x T E Bf :=
  ⟨f.row h.obj h.n.f1, h.km.fr f (fun k hk e => h.n.k1 k hk e), hz, f.row h.buf h.n.f2, h.n⟩
/-- The sheet has turned. -/
theorem EX.stepK (h : EX w A x T E Bf) {x' : Gr.XS} {T' : Nat → ByteArray} {E' : Nat → Vl} (hk : kmA w' A x' T' E') (f : Fr (SK A) w w') : EX w' A x' T' E' Bf :=
  ⟨f.row h.obj h.n.k2, hk, h.fz.fr f (fun k hk e => h.n.k1 k e hk), f.row h.buf h.n.k3, h.n⟩
theorem EX.put (h : EX w A x T E Bf) (c : Nat) (s : ByteArray) : EX (w.setCell ⟨A.bb, c, none⟩ (.string s)) A x T E (upd Bf c s) :=
  have f : Fr (fun k => k = A.bb) w (w.setCell ⟨A.bb, c, none⟩ (.string s)) := (Fr.refl (fun k => k = A.bb) w).setCell (p := ⟨A.bb, c, none⟩) (.inl rfl) _
  ⟨f.row h.obj h.n.n1, h.km.fr f (fun k hk e => h.n.k3 (e ▸ hk)), h.fz.fr f (fun k hk e => h.n.f2 (e ▸ hk)), (h.buf.set c _).congr (fun i _ => by unfold upd; split <;> rfl), h.n⟩
theorem EX.bufEq (h : EX w A x T E Bf) {Bf' : Nat → ByteArray} (e : ∀ i, i < 24 → Bf i = Bf' i) : EX w A x T E Bf' := ⟨h.obj, h.km, h.fz, h.buf.congr (fun i hi => by rw [e i hi]), h.n⟩
theorem setP_ok {c : Nat} {s : ByteArray} (hc : c < 24) (hs : s.size ≤ 40) : setP (c : Int) s = 0 := by
  unfold setP; rw [if_neg (by omega), if_neg (by omega)]
theorem rawP_at {T : Nat → ByteArray} {c : Nat} (hc : c < 24) : rawP T (c : Int) = T c := by
  unfold rawP; rw [if_pos (by omega)]; rfl
theorem upd_here {α : Type} {T : Nat → α} {c : Nat} {s : α} (h : T c = s) : upd T c s = T := funext fun i => by
  unfold upd; split
  · rename_i e; rw [e, h]
  · rfl
/-- What 'lay' leaves. -/
def LayP (w : World) (A : XA) (T : Nat → ByteArray) (Bf : Nat → ByteArray) (c : Nat) (s : ByteArray) : Ending → World → Prop := fun e w' => e = .returned (.tuple #[]) ∧ (∃ x' E', EX w' A x' (upd T c s) E' Bf ∧ Sheet (upd T c s) E') ∧ Fr (SK A) w w'
set_option maxHeartbeats 2000000 in
theorem lay_any (c : Nat) (s : ByteArray) (w : World) (h : EX w A x T E Bf) (hS : Sheet T E) (hc : c < 24) (hs : s.size ≤ 40) : Calls Tryz.prog 105 #[pt A.xe, I c, .string s] w (LayP w A T Bf c s) := by
  have h1 := Bx.mk (kRaw_any (c : Int) w h.km)
  rw [rawP_at hc] at h1
  obtain ⟨c0, c1, c2⟩ := h.obj.ex3
  have hl := h.obj.lt
  by_cases e : T c = s
  · have hfin : Bx (LayP w A T Bf c s (.returned (.tuple #[])) w) := ⟨rfl, ⟨x, E, by rw [upd_here e]; exact h, by rw [upd_here e]; exact hS⟩, Fr.refl _ _⟩
    rw [e] at h1
    clear h e
    go_enter Tryz.func105, Tryz.ntmps105
    go_wp2_with (first
      | (go_at_call 80; refine h1.out.mono ?_; clear h1; rintro e w1 ⟨rfl, rfl⟩))
    go_end0
    exact hfin.out
  · have h2 := Bx.mk (kSet_any (c : Int) s w h.km hS)
    have hX := Bx.mk h
    have e0 := Bx.mk (setP_ok hc hs)
    have hne : ((T c).toList == s.toList) = false := by
      cases hq : ((T c).toList == s.toList)
      · rfl
      · exact absurd (str_of_list (by simpa using hq)) e
    clear h e
    generalize T c = o at h1 hne
    go_enter Tryz.func105, Tryz.ntmps105
    go_wp2_with (first
      | (go_at_call 80; refine h1.out.mono ?_; clear h1; rintro e w1 ⟨rfl, rfl⟩)
      | (go_at_call 99; refine h2.out.mono ?_; clear h2; rintro e w2 ⟨rfl, hf2, hr⟩; have hf2 := Bx.mk hf2; have hr := Bx.mk hr))
    go_end0
    rcases hr.out with ⟨a, -⟩ | ⟨-, x', E', hk, hS'⟩
    · exact absurd e0.out a
    · exact ⟨rfl, ⟨x', E', hX.out.stepK hk hf2.out, hS'⟩, hf2.out⟩
set_option maxHeartbeats 2000000 in
theorem xRaw_any (c : Int) (w : World) (h : EX w A x T E Bf) : Calls Tryz.prog 52 #[pt A.xe, I c] w fun e w' => e = .returned (.string (rawP T c)) ∧ w = w' := by
  have h1 := Bx.mk (kRaw_any c w h.km)
  obtain ⟨c0, c1, c2⟩ := h.obj.ex3
  have hl := h.obj.lt
  generalize rawP T c = s at *
  clear h
  go_enter Tryz.func52, Tryz.ntmps52
  go_wp2_with (first
    | (go_at_call 80; refine h1.out.mono ?_; clear h1; rintro e w1 ⟨rfl, rfl⟩))
  go_ret
  exact ⟨rfl, rfl⟩
set_option maxHeartbeats 2000000 in
theorem xValue_any (c : Int) (w : World) (h : EX w A x T E Bf) : Calls Tryz.prog 63 #[pt A.xe, I c] w (VR w (valP E c)) := by
  have h1 := Bx.mk (kValue_any c _ (h.fr0 (fr_zero w 92)).km)
  have hfr := Bx.mk (fr_zero w 92)
  have hz := Bx.mk (v_zero w 92 rfl)
  obtain ⟨c0, c1, c2⟩ := h.obj.ex3
  have hl := h.obj.lt
  generalize valP E c = y at *
  clear h
  go_enter Tryz.func63, Tryz.ntmps63
  go_wp2_with (first
    | (go_at_call 97; refine h1.out.mono ?_; clear h1; rintro e w1 ⟨rfl, hf⟩; have hz1 := Bx.mk (hf.row0 hz.out); obtain ⟨c0, c1, c2, y0, y1, y2⟩ := hz1.out.v3))
  exact ret_vs (x := y) (p := 4) rfl rfl rfl hz1.out (hfr.out.trans hf) (Nat.le_refl _) rfl
def XSet (w : World) (A : XA) (x : Gr.XS) (T : Nat → ByteArray) (E : Nat → Vl) (Bf : Nat → ByteArray) (c : Int) (s : ByteArray) : Ending → World → Prop := fun e w' => e = .returned (I (setP c s)) ∧ Fr (SK A) w w' ∧
  ((setP c s ≠ 0 ∧ EX w' A x T E Bf) ∨ (setP c s = 0 ∧ ∃ x' E', EX w' A x' (upd T c.toNat s) E' Bf ∧ Sheet (upd T c.toNat s) E'))
set_option maxHeartbeats 2000000 in
theorem xSet_any (c : Int) (s : ByteArray) (w : World) (h : EX w A x T E Bf) (hS : Sheet T E) : Calls Tryz.prog 67 #[pt A.xe, I c, .string s] w (XSet w A x T E Bf c s) := by
  obtain ⟨c0, c1, c2⟩ := h.obj.ex3
  have hl := h.obj.lt
  have hX := Bx.mk h
  by_cases h40 : 40 < s.size
  · have hd : decide (40 < (s.size : Int)) = true := by simp; omega
    have hp : Bx (setP c s = 1) := ⟨by unfold setP; rw [if_pos h40]⟩
    clear h h40
    go_enter Tryz.func67, Tryz.ntmps67
    go_wp2_with fail
    go_ret
    exact ⟨by rw [hp.out] <;> rfl, Fr.refl _ _, .inl ⟨by rw [hp.out]; decide, hX.out⟩⟩
  · have hd : decide (40 < (s.size : Int)) = false := by simp; omega
    have h2 := Bx.mk (kSet_any c s w h.km hS)
    clear h h40
    go_enter Tryz.func67, Tryz.ntmps67
    go_wp2_with (first
      | (go_at_call 99; refine h2.out.mono ?_; clear h2; rintro e w2 ⟨rfl, hf2, hr⟩; have hf2 := Bx.mk hf2; have hr := Bx.mk hr))
    go_ret
    refine ⟨rfl, hf2.out, ?_⟩
    rcases hr.out with ⟨a, hk⟩ | ⟨a, x', E', hk, hS'⟩
    · exact .inl ⟨a, hX.out.stepK hk hf2.out⟩
    · exact .inr ⟨a, x', E', hX.out.stepK hk hf2.out, hS'⟩
end
end Go.Proofs.Qxb6500326aGreat
