import Derived.Test.Qxb6500327aGreatK7
namespace Go.Proofs.Qxb6500327aGreat
set_option maxRecDepth 100000
set_option linter.unusedVariables false
set_option linter.unusedSimpArgs false
open Go.RowKit Go.PlainAid
attribute [local go_sem] bv_and bv_or bv_eq_zero bv_ne_zero bv_bit bv_ne

/-! ### the law's state -/
structure AD where
  xb : Nat
  rb : Nat
  sb : Nat
  gb : Nat
  V : VB
  B : FB
  cb : Nat
  mb : Nat
  fb : Nat
  mrb : Nat
  mb2 : Nat
  fb2 : Nat
  d : Nat
  tb : Nat
  wb : Nat
  nb : Nat
structure DS where
  reg : ByteArray
  er : Int
  c : Int
  r : Int
  s : Int
  q : Int
  tt : Nat → ByteArray
  wa : Nat → Vl
  no : Nat → Vl
def dkC (A : AD) (D : DS) : Nat → Value
  | 0 => .string D.reg
  | 1 => sl A.tb 24 24
  | 2 => sl A.wb 24 24
  | 3 => sl A.nb 24 24
  | 4 => I D.er
  | 5 => I D.c
  | 6 => I D.r
  | 7 => I D.s
  | _ => I D.q
abbrev SR (A : AD) : Nat → Prop := KS A.xb A.V A.B A.gb A.rb A.sb
abbrev SM (A : AD) (msb : Nat) : Nat → Prop := CmS A.cb A.mb A.fb A.mrb msb
abbrev SL (A : AD) : Nat → Prop := MeS A.mb2 A.fb2
def SD (A : AD) : Nat → Prop := fun k => k = A.d ∨ k = A.tb ∨ k = A.wb ∨ k = A.nb
def SU (A : AD) (msb : Nat) : Nat → Prop := fun k => SR A k ∨ SM A msb k ∨ SL A k ∨ SD A k
structure Ap (A : AD) (msb : Nat) : Prop where
  r1 : ∀ k, SR A k → ¬ SM A msb k
  r2 : ∀ k, SR A k → ¬ SL A k
  r3 : ∀ k, SR A k → ¬ SD A k
  m1 : ∀ k, SM A msb k → ¬ SL A k
  m2 : ∀ k, SM A msb k → ¬ SD A k
  l1 : ∀ k, SL A k → ¬ SD A k
  d1 : A.d ≠ A.tb ∧ A.d ≠ A.wb ∧ A.d ≠ A.nb ∧ A.tb ≠ A.wb ∧ A.tb ≠ A.nb ∧ A.wb ≠ A.nb
structure WS (w : World) (A : AD) (msb : Nat) (x : Gr.XS) (T : Nat → ByteArray) (E : Nat → Vl) (D : DS) : Prop where
  km : KM w A.xb A.V A.B A.gb A.rb A.sb x T E
  cm : CM w A.cb A.mb A.fb A.mrb msb T E
  me : MEv w A.mb2 A.fb2
  dk : Row w A.d 9 (dkC A D)
  tb : Row w A.tb 24 (fun i => .string (D.tt i))
  wb : EL w A.wb 24 D.wa
  nb : EL w A.nb 24 D.no
  ap : Ap A msb
section
variable {w w' : World} {A : AD} {msb : Nat} {x : Gr.XS} {T : Nat → ByteArray} {E : Nat → Vl} {D : DS}
theorem WS.fr (h : WS w A msb x T E D) {S : Nat → Prop} (f : Fr S w w') (hS : ∀ k, SU A msb k → ¬ S k) : WS w' A msb x T E D :=
  ⟨h.km.fr f (fun k hk => hS k (.inl hk)), h.cm.fr f (fun k hk => hS k (.inr (.inl hk))), h.me.fr f (hS _ (.inr (.inr (.inl (.inl rfl))))) (hS _ (.inr (.inr (.inl (.inr rfl))))), f.row h.dk (hS _ (.inr (.inr (.inr (.inl rfl))))), f.row h.tb (hS _ (.inr (.inr (.inr (.inr (.inl rfl)))))), h.wb.of f (hS _ (.inr (.inr (.inr (.inr (.inr (.inl rfl))))))), h.nb.of f (hS _ (.inr (.inr (.inr (.inr (.inr (.inr rfl))))))), h.ap⟩
theorem WS.fr0 (h : WS w A msb x T E D) (f : Fr S0 w w') : WS w' A msb x T E D := h.fr f (fun _ _ e => e)
theorem WS.lt (h : WS w A msb x T E D) : ∀ k, SU A msb k → k < w.heap.size := by
  rintro k (e | e | e | e)
  · exact h.km.lt k e
  · exact h.cm.lt k e
  · obtain ⟨c, r, hm⟩ := h.me.row
    obtain ⟨p, q, t, hf⟩ := h.me.mf
    rcases e with rfl | rfl
    · exact hm.lt
    · exact hf.lt
  · rcases e with rfl | rfl | rfl | rfl
    · exact h.dk.lt
    · exact h.tb.lt
    · exact Row.lt h.wb
    · exact Row.lt h.nb
theorem WS.ne (h : WS w A msb x T E D) {k : Nat} (hk : w.heap.size ≤ k) : ¬ SU A msb k := fun e => by have := h.lt k e; omega
/-- The law's own evaluator has worked. -/
theorem WS.stepL (h : WS w A msb x T E D) (hm : MEv w' A.mb2 A.fb2) (f : Fr (SL A) w w') : WS w' A msb x T E D :=
  ⟨h.km.fr f (fun k hk => h.ap.r2 k hk), h.cm.fr f (fun k hk => h.ap.m1 k hk), hm, f.row h.dk (fun e => h.ap.l1 _ e (.inl rfl)), f.row h.tb (fun e => h.ap.l1 _ e (.inr (.inl rfl))), h.wb.of f (fun e => h.ap.l1 _ e (.inr (.inr (.inl rfl)))), h.nb.of f (fun e => h.ap.l1 _ e (.inr (.inr (.inr rfl)))), h.ap⟩
theorem Fr.su_l (f : Fr (SL A) w w') : Fr (SU A msb) w w' := f.mono (fun k hk => .inr (.inr (.inl hk)))
theorem Fr.su_d (f : Fr (SD A) w w') : Fr (SU A msb) w w' := f.mono (fun k hk => .inr (.inr (.inr hk)))
theorem Fr.su_r (f : Fr (SR A) w w') : Fr (SU A msb) w w' := f.mono (fun k hk => .inl hk)
theorem Row.dk9 {w : World} {A : AD} {D : DS} (h : Row w A.d 9 (dkC A D)) :
    w.cell? ⟨A.d, 0, none⟩ = some (.string D.reg) ∧ w.cell? ⟨A.d, 1, none⟩ = some (sl A.tb 24 24) ∧ w.cell? ⟨A.d, 2, none⟩ = some (sl A.wb 24 24) ∧ w.cell? ⟨A.d, 3, none⟩ = some (sl A.nb 24 24) ∧ w.cell? ⟨A.d, 4, none⟩ = some (I D.er) ∧ w.cell? ⟨A.d, 5, none⟩ = some (I D.c) ∧ w.cell? ⟨A.d, 6, none⟩ = some (I D.r) ∧ w.cell? ⟨A.d, 7, none⟩ = some (I D.s) ∧ w.cell? ⟨A.d, 8, none⟩ = some (I D.q) :=
  ⟨h.cell 0 (by omega), h.cell 1 (by omega), h.cell 2 (by omega), h.cell 3 (by omega), h.cell 4 (by omega), h.cell 5 (by omega), h.cell 6 (by omega), h.cell 7 (by omega), h.cell 8 (by omega)⟩
/-- The lower layers as a value. -/
abbrev blV (A : AD) : Value := .agg #[pt A.V.e, pt A.gb, pt A.mb2]
abbrev blA (A : AD) : Array Value := #[pt A.V.e, pt A.gb, pt A.mb2]
def blC (A : AD) : Nat → Value
  | 0 => pt A.V.e
  | 1 => pt A.gb
  | _ => pt A.mb2
theorem bl_new (w : World) (A : AD) {H : Nat} (e : w.heap.size = H) : Row (w.alloc (.cells (blA A) 31)) H 3 (blC A) := by
  subst e
  exact Row.new w _ 31 3 _ rfl (by intro i hi; rcases i with _ | _ | _ | i <;> first | rfl | omega)
theorem Row.bl3 {w : World} {A : AD} {b : Nat} (h : Row w b 3 (blC A)) : w.cell? ⟨b, 0, none⟩ = some (pt A.V.e) ∧ w.cell? ⟨b, 1, none⟩ = some (pt A.gb) ∧ w.cell? ⟨b, 2, none⟩ = some (pt A.mb2) := ⟨h.cell 0 (by omega), h.cell 1 (by omega), h.cell 2 (by omega)⟩
abbrev opV (kd a b c : Int) (S1 T1 : ByteArray) : Value := .agg #[I kd, I a, I b, I c, .string S1, .string T1]
abbrev opA (kd a b c : Int) (S1 T1 : ByteArray) : Array Value := #[I kd, I a, I b, I c, .string S1, .string T1]
def opC (kd a b c : Int) (S1 T1 : ByteArray) : Nat → Value
  | 0 => I kd
  | 1 => I a
  | 2 => I b
  | 3 => I c
  | 4 => .string S1
  | _ => .string T1
theorem op_new (w : World) (kd a b c : Int) (S1 T1 : ByteArray) {H : Nat} (e : w.heap.size = H) : Row (w.alloc (.cells (opA kd a b c S1 T1) 45)) H 6 (opC kd a b c S1 T1) := by
  subst e
  exact Row.new w _ 45 6 _ rfl (by intro i hi; rcases i with _ | _ | _ | _ | _ | _ | i <;> first | rfl | omega)
theorem Row.op6 {w : World} {kd a b c : Int} {S1 T1 : ByteArray} {g : Nat} (h : Row w g 6 (opC kd a b c S1 T1)) :
    w.cell? ⟨g, 0, none⟩ = some (I kd) ∧ w.cell? ⟨g, 1, none⟩ = some (I a) ∧ w.cell? ⟨g, 2, none⟩ = some (I b) ∧ w.cell? ⟨g, 3, none⟩ = some (I c) ∧ w.cell? ⟨g, 4, none⟩ = some (.string S1) ∧ w.cell? ⟨g, 5, none⟩ = some (.string T1) :=
  ⟨h.cell 0 (by omega), h.cell 1 (by omega), h.cell 2 (by omega), h.cell 3 (by omega), h.cell 4 (by omega), h.cell 5 (by omega)⟩

/-! ### what lies below -/
set_option maxHeartbeats 400000 in
theorem asked_any (A : AD) (w : World) : Calls Tryz.prog 22 #[blV A] w fun e w' => e = .returned (.tuple #[I (-1), I (-1), I (-1), I (-1)]) ∧ Fr S0 w w' := by
  go_enter Tryz.func22, Tryz.ntmps22
  go_wp2
  go_returns
  exact ⟨rfl, (Fr.refl _ _).alloc _⟩
set_option maxHeartbeats 400000 in
theorem markL_any (A : AD) (w : World) (h : MEv w A.mb2 A.fb2) : Calls Tryz.prog 13 #[blV A] w fun e w' => e = .returned (.tuple #[]) ∧ MEv w' A.mb2 A.fb2 ∧ Fr (SL A) w w' := by
  have f0 : Fr S0 w (w.alloc (.cells (blA A) 31)) := (Fr.refl _ _).alloc _
  have hm := Bx.mk (mMark_any A.mb2 A.fb2 _ (h.fr f0 (by simp) (by simp)))
  have f0 := Bx.mk f0
  clear h
  go_enter Tryz.func13, Tryz.ntmps13
  go_wp2_with (first | (go_at_call 27; refine hm.out.mono ?_; clear hm; rintro e w1 ⟨rfl, hm1, hf1⟩))
  go_end0
  exact ⟨rfl, hm1, f0.out.up.trans hf1⟩
set_option maxHeartbeats 400000 in
theorem readsOf_any (A : AD) (s : ByteArray) (w : World) (h : MEv w A.mb2 A.fb2) : Calls Tryz.prog 39 #[blV A, .string s] w fun e w' => e = .returned (U (readsP s).1) ∧ MEv w' A.mb2 A.fb2 ∧ Fr (SL A) w w' := by
  have f0 : Fr S0 w (w.alloc (.cells (blA A) 31)) := (Fr.refl _ _).alloc _
  have hm := Bx.mk (readsM_any A.mb2 A.fb2 s _ (h.fr f0 (by simp) (by simp)))
  have f0 := Bx.mk f0
  generalize readsP s = r at hm ⊢
  obtain ⟨r1, r2⟩ := r
  clear h
  go_enter Tryz.func39, Tryz.ntmps39
  go_wp2_with (first | (go_at_call 57; refine hm.out.mono ?_; clear hm; rintro e w1 ⟨rfl, hm1, hf1⟩))
  go_ret
  exact ⟨rfl, hm1, f0.out.up.trans hf1⟩
set_option maxHeartbeats 1000000 in
theorem worthOf_any (A : AD) (s : ByteArray) (g : Nat) (env : Nat → Vl) (w : World) (h : MEv w A.mb2 A.fb2) (hs : s.size ≤ 40) (hE : EL w g 24 env) (hg : ¬ SL A g) (hl : LwE env) :
    Calls Tryz.prog 43 #[blV A, .string s, sl g 24 24] w fun e w' => e = .returned (vV (mf s env)) ∧ MEv w' A.mb2 A.fb2 ∧ Fr (SL A) w w' := by
  have f0 : Fr S0 w ((w.alloc (.cells (blA A) 31)).alloc (.cells #[I 0, I 0, .string es] 66)) := ((Fr.refl _ _).alloc _).alloc _
  have hm := Bx.mk ((mf_mean hs).model A.mb2 A.fb2 _ g 24 env (h.fr f0 (by simp) (by simp)) (hE.of f0 (by simp)) (fun e => hg (.inl e)) (fun e => hg (.inr e)) hl)
  have f0 := Bx.mk f0
  have hz := Bx.mk (v_zero (w.alloc (.cells (blA A) 31)) 66 (H := w.heap.size + 1) (by simp))
  have hnl : Bx (¬ SL A (w.heap.size + 1)) := ⟨by
    obtain ⟨c, r, h1⟩ := h.row
    obtain ⟨p, q, t, h2⟩ := h.mf
    have a1 := h1.lt
    have a2 := h2.lt
    rintro (e | e) <;> omega⟩
  generalize mf s env = y at hm ⊢
  clear h hE hs hl
  go_enter Tryz.func43, Tryz.ntmps43
  go_wp2_with (first | (go_at_call 58; refine hm.out.mono ?_; clear hm; rintro e w1 ⟨rfl, hm1, hf1⟩; have hz1 := Bx.mk (hf1.row hz.out hnl.out); obtain ⟨q0, q1, q2, y0, y1, y2⟩ := hz1.out.v3; have hlz := hz1.out.lt; have hf1 := Bx.mk (f0.out.up.trans hf1); have hm1 := Bx.mk hm1))
  have fA : Fr (fun k => k = w.heap.size + 1) w1 ((sets w1 (w.heap.size + 1) 0 (vA y).toList).alloc (.cells (vA y) 66)) := (sets_fr (S := fun k => k = w.heap.size + 1) (a := w1) (b := w.heap.size + 1) (.inl rfl) (vA y).toList w1 0 (Fr.refl _ _)).alloc _
  have fB : Fr (SL A) w ((sets w1 (w.heap.size + 1) 0 (vA y).toList).alloc (.cells (vA y) 66)) := (sets_fr (S := SL A) (a := w) (b := w.heap.size + 1) (.inr (by omega)) (vA y).toList w1 0 hf1.out).alloc _
  exact ret_v (p := 6) (g := w.heap.size + 1) (x := y) rfl rfl ((v_sets hz1.out y).alloc _) rfl ⟨rfl, hm1.out.fr fA (fun e => hnl.out (.inl e.symm)) (fun e => hnl.out (.inr e.symm)), fB⟩

/-! ### notes -/
set_option maxHeartbeats 2000000 in
theorem note_any {cb mb fb rb sb : Nat} (g : Nat) (f : Nat → Vl) (w : World) (h : CM w cb mb fb rb sb T E) (hE : EL w g 24 f) (hg : ¬ CmS cb mb fb rb sb g) : Calls Tryz.prog 15 #[pt cb, sl g 24 24] w fun e w' => e = .returned (.tuple #[]) ∧ EL w' g 24 E ∧ Fr (fun k => k = g) w w' := by
  have hC : Bx (∀ w', Fr (fun k => k = g) w w' → CM w' cb mb fb rb sb T E) := ⟨fun w' f => h.fr f (fun k hk e => hg (e ▸ hk))⟩
  have hE := Bx.mk hE
  clear h
  go_enter Tryz.func15, Tryz.ntmps15
  go_wp2_with fail
  go_loopw [4] (fun c wr => ∃ k : Nat, k ≤ 24 ∧ c = I (k : Int) ∧ Bx (EL wr g 24 (fun c => if c < k then E c else f c)) ∧ Bx (Fr (fun k => k = g) w wr)) (fun c _ => 24 - (intOf c).toNat)
  case atStart => exact ⟨0, by omega, rfl, ⟨hE.out.eeq (fun c hc => by simp)⟩, ⟨Fr.refl _ _⟩⟩
  case round =>
    clear hE
    obtain ⟨k, hk, rfl, hE, hf⟩ := hrel
    cases hlt : decide ((k : Int) < 24)
    · have hk24 : k = 24 := by simp at hlt; omega
      go_wp2_with fail
      go_end0
      exact ⟨rfl, hE.out.eeq (fun c hc => by rw [if_pos (by omega)]), hf.out⟩
    · have hk24 : k < 24 := by simp at hlt; omega
      have hkI : (k : Int) < 24 := by omega
      have hv : Bx (Calls Tryz.prog 28 #[pt cb, I (k : Int)] wr (VR wr (E k))) := ⟨by
        have := cValue_any (k : Int) wr (hC.out wr hf.out)
        unfold valP at this
        rw [if_pos ⟨by omega, hkI⟩] at this
        exact this⟩
      generalize hek : E k = y at hv
      have hek := Bx.mk hek
      go_wp2_with (first | (go_at_call 28; refine hv.out.mono ?_; clear hv; rintro e w0 ⟨rfl, hf0⟩; have hE0 := Bx.mk (hE.out.of hf0 (by simp)); obtain ⟨m0, m1, m2, z0, z1, z2⟩ := hE0.out.ev3 hk24; have hEl := Row.lt hE0.out; simp only [if_neg (Nat.lt_irrefl k)] at m0 m1 m2; have hf0 := Bx.mk hf0))
      go_roundw
      case rel =>
        refine ⟨k + 1, by omega, by go_num, ⟨(hE0.out.eput k y).eeq (fun c hc => ?_)⟩, ⟨fr_val (.inl rfl) (hf.out.trans hf0.out.up)⟩⟩
        show upd _ k y c = (if c < k + 1 then _ else _)
        by_cases e : c = k
        · subst e; rw [upd_same, if_pos (by omega), hek.out]
        · rw [upd_other _ _ e]
          by_cases e2 : c < k
          · rw [if_pos e2, if_pos (by omega)]
          · rw [if_neg e2, if_neg (by omega)]
      case measure => simp [intOf]; omega
set_option maxHeartbeats 2000000 in
theorem noteRaw_any {cb mb fb rb sb : Nat} (g : Nat) (f : Nat → ByteArray) (w : World) (h : CM w cb mb fb rb sb T E) (hE : Row w g 24 (fun i => .string (f i))) (hg : ¬ CmS cb mb fb rb sb g) : Calls Tryz.prog 16 #[pt cb, sl g 24 24] w fun e w' => e = .returned (.tuple #[]) ∧ Row w' g 24 (fun i => .string (T i)) ∧ Fr (fun k => k = g) w w' := by
  have hC : Bx (∀ w', Fr (fun k => k = g) w w' → CM w' cb mb fb rb sb T E) := ⟨fun w' f => h.fr f (fun k hk e => hg (e ▸ hk))⟩
  have hE := Bx.mk hE
  clear h
  go_enter Tryz.func16, Tryz.ntmps16
  go_wp2_with fail
  go_loopw [4] (fun c wr => ∃ k : Nat, k ≤ 24 ∧ c = I (k : Int) ∧ Bx (Row wr g 24 (fun c => .string (if c < k then T c else f c))) ∧ Bx (Fr (fun k => k = g) w wr)) (fun c _ => 24 - (intOf c).toNat)
  case atStart => exact ⟨0, by omega, rfl, ⟨hE.out.congr (fun c hc => by simp)⟩, ⟨Fr.refl _ _⟩⟩
  case round =>
    clear hE
    obtain ⟨k, hk, rfl, hE, hf⟩ := hrel
    cases hlt : decide ((k : Int) < 24)
    · have hk24 : k = 24 := by simp at hlt; omega
      go_wp2_with fail
      go_end0
      exact ⟨rfl, hE.out.congr (fun c hc => by rw [if_pos (by omega)]), hf.out⟩
    · have hk24 : k < 24 := by simp at hlt; omega
      have hkI : (k : Int) < 24 := by omega
      have hv : Bx (Calls Tryz.prog 29 #[pt cb, I (k : Int)] wr fun e w' => e = .returned (.string (T k)) ∧ wr = w') := ⟨by
        have := cRaw_any (k : Int) wr (hC.out wr hf.out)
        unfold rawP at this
        rw [if_pos ⟨by omega, hkI⟩] at this
        exact this⟩
      generalize hek : T k = y at hv
      have hek := Bx.mk hek
      have m0 := hE.out.cell k hk24
      have z0 := hE.out.frozen k
      have hEl := hE.out.lt
      simp only [if_neg (Nat.lt_irrefl k)] at m0
      go_wp2_with (first | (go_at_call 29; refine hv.out.mono ?_; clear hv; rintro e w0 ⟨rfl, rfl⟩))
      go_roundw
      case rel =>
        refine ⟨k + 1, by omega, by go_num, ⟨(hE.out.set k _).congr (fun c hc => ?_)⟩, ⟨hf.out.setCell (p := ⟨g, k, none⟩) (.inl rfl) _⟩⟩
        show upd _ k (Value.string y) c = Value.string (if c < k + 1 then _ else _)
        by_cases e : c = k
        · subst e; rw [upd_same, if_pos (by omega), hek.out]
        · rw [upd_other _ _ e]
          by_cases e2 : c < k
          · rw [if_pos e2, if_pos (by omega)]
          · rw [if_neg e2, if_neg (by omega)]
      case measure => simp [intOf]; omega
end
end Go.Proofs.Qxb6500327aGreat
