import Derived.Test.Qxb6500328aGreatO17
namespace Go.Proofs.Qxb6500328aGreat
set_option maxRecDepth 100000
set_option linter.unusedVariables false
set_option linter.unusedSimpArgs false
open Go.RowKit Go.PlainAid

/-! ### the desk -/
structure DA where
  A : XA
  M : YA
  d : Nat
  wsb : Nat
  shb : Nat
def deC (D : DA) (reg : ByteArray) : Nat → Value
  | 0 => pt D.A.B2.f
  | 1 => pt D.A.xb
  | 2 => pt D.A.xe
  | 3 => pt D.M.me
  | 4 => .string reg
  | 5 => sl D.wsb 24 24
  | _ => sl D.shb 24 24
def SDk (D : DA) : Nat → Prop := fun k => k = D.d ∨ k = D.wsb ∨ k = D.shb
def SU (D : DA) (sb : Nat) : Nat → Prop := fun k => SE D.A k ∨ SYa D.M sb k ∨ SDk D k
structure Ap (D : DA) (sb : Nat) : Prop where
  r1 : ∀ k, SE D.A k → ¬ SYa D.M sb k
  r2 : ∀ k, SE D.A k → ¬ SDk D k
  m1 : ∀ k, SYa D.M sb k → ¬ SDk D k
  d1 : D.d ≠ D.wsb
  d2 : D.d ≠ D.shb
  d3 : D.wsb ≠ D.shb
structure WS (w : World) (D : DA) (sb : Nat) (x : Gr.XS) (T : Nat → ByteArray) (E : Nat → Vl) (reg : ByteArray) (Wt : Nat → ByteArray) (We : Nat → Vl) : Prop where
  ex : EX w D.A x T E (fun _ => es)
  ey : EY w D.M sb T E
  dk : Row w D.d 7 (deC D reg)
  ws : Row w D.wsb 24 (fun i => .string (Wt i))
  sh : EL w D.shb 24 We
  ap : Ap D sb
section
variable {w w' : World} {D : DA} {sb : Nat} {x : Gr.XS} {T : Nat → ByteArray} {E : Nat → Vl} {reg : ByteArray} {Wt : Nat → ByteArray} {We : Nat → Vl}
theorem WS.fr (h : WS w D sb x T E reg Wt We) {S : Nat → Prop} (f : Fr S w w') (hS : ∀ k, SU D sb k → ¬ S k) : WS w' D sb x T E reg Wt We :=
  ⟨h.ex.fr f (fun k hk => hS k (.inl hk)), h.ey.fr f (fun k hk => hS k (.inr (.inl hk))), f.row h.dk (hS _ (.inr (.inr (.inl rfl)))), f.row h.ws (hS _ (.inr (.inr (.inr (.inl rfl))))), h.sh.of f (hS _ (.inr (.inr (.inr (.inr rfl))))), h.ap⟩
theorem WS.fr0 (h : WS w D sb x T E reg Wt We) (f : Fr S0 w w') : WS w' D sb x T E reg Wt We := h.fr f (fun _ _ e => e)
theorem WS.lt (h : WS w D sb x T E reg Wt We) : ∀ k, SU D sb k → k < w.heap.size := by
  rintro k (e | e | e | e | e)
  · exact h.ex.lt k e
  · exact h.ey.lt k e
  · exact e ▸ h.dk.lt
  · exact e ▸ h.ws.lt
  · exact e ▸ Row.lt h.sh
theorem WS.de7 (h : WS w D sb x T E reg Wt We) : w.cell? ⟨D.d, 0, none⟩ = some (pt D.A.B2.f) ∧ w.cell? ⟨D.d, 1, none⟩ = some (pt D.A.xb) ∧ w.cell? ⟨D.d, 2, none⟩ = some (pt D.A.xe) ∧ w.cell? ⟨D.d, 3, none⟩ = some (pt D.M.me) ∧ w.cell? ⟨D.d, 4, none⟩ = some (.string reg) ∧ w.cell? ⟨D.d, 5, none⟩ = some (sl D.wsb 24 24) ∧ w.cell? ⟨D.d, 6, none⟩ = some (sl D.shb 24 24) ∧ D.d < w.heap.size :=
  ⟨h.dk.cell 0 (by omega), h.dk.cell 1 (by omega), h.dk.cell 2 (by omega), h.dk.cell 3 (by omega), h.dk.cell 4 (by omega), h.dk.cell 5 (by omega), h.dk.cell 6 (by omega), h.dk.lt⟩
theorem sd_ne (h : Ap D sb) {k : Nat} (hk : SDk D k) : (∀ j, SE D.A j → j ≠ k) ∧ ∀ j, SYa D.M sb j → j ≠ k := ⟨fun j hj e => h.r2 j hj (e ▸ hk), fun j hj e => h.m1 j hj (e ▸ hk)⟩
theorem WS.setReg (h : WS w D sb x T E reg Wt We) (s : ByteArray) : WS (w.setCell ⟨D.d, 4, none⟩ (.string s)) D sb x T E s Wt We := by
  have f : Fr (fun k => k = D.d) w (w.setCell ⟨D.d, 4, none⟩ (.string s)) := (Fr.refl (fun k => k = D.d) w).setCell (p := ⟨D.d, 4, none⟩) (.inl rfl) _
  obtain ⟨n1, n2⟩ := sd_ne h.ap (.inl rfl : SDk D D.d)
  exact ⟨h.ex.fr f n1, h.ey.fr f n2, (h.dk.set 4 _).congr (by intro i hi; rcases i with _ | _ | _ | _ | _ | _ | _ | i <;> first | rfl | omega), f.row h.ws (fun e => h.ap.d1 e.symm), h.sh.of f (fun e => h.ap.d2 e.symm), h.ap⟩
theorem WS.setWas (h : WS w D sb x T E reg Wt We) (c : Nat) (s : ByteArray) : WS (w.setCell ⟨D.wsb, c, none⟩ (.string s)) D sb x T E reg (upd Wt c s) We := by
  have f : Fr (fun k => k = D.wsb) w (w.setCell ⟨D.wsb, c, none⟩ (.string s)) := (Fr.refl (fun k => k = D.wsb) w).setCell (p := ⟨D.wsb, c, none⟩) (.inl rfl) _
  obtain ⟨n1, n2⟩ := sd_ne h.ap (.inr (.inl rfl) : SDk D D.wsb)
  exact ⟨h.ex.fr f n1, h.ey.fr f n2, f.row h.dk h.ap.d1, (h.ws.set c _).congr (fun i _ => by unfold upd; split <;> rfl), h.sh.of f (fun e => h.ap.d3 e.symm), h.ap⟩
theorem WS.setSh (h : WS w D sb x T E reg Wt We) (c : Nat) (y : Vl) : WS (sets w D.shb (c * 3) (vA y).toList) D sb x T E reg Wt (upd We c y) := by
  have f : Fr (fun k => k = D.shb) w (sets w D.shb (c * 3) (vA y).toList) := sets_fr (S := fun k => k = D.shb) (a := w) (b := D.shb) (.inl rfl) _ w _ (Fr.refl _ _)
  obtain ⟨n1, n2⟩ := sd_ne h.ap (.inr (.inr rfl) : SDk D D.shb)
  exact ⟨h.ex.fr f n1, h.ey.fr f n2, f.row h.dk h.ap.d2, f.row h.ws h.ap.d3, h.sh.eput c y, h.ap⟩
theorem WS.ghosts (h : WS w D sb x T E reg Wt We) {Wt' : Nat → ByteArray} {We' : Nat → Vl} (e1 : ∀ c, c < 24 → Wt c = Wt' c) (e2 : ∀ c, c < 24 → We c = We' c) : WS w D sb x T E reg Wt' We' :=
  ⟨h.ex, h.ey, h.dk, h.ws.congr (fun i hi => by rw [e1 i hi]), h.sh.eeq e2, h.ap⟩
/-! ### the observers -/
set_option maxHeartbeats 1000000 in
theorem sameRaw_any (c : Int) (w : World) (h : WS w D sb x T E reg Wt We) : Calls Tryz.prog 37 #[pt D.d, I c] w fun e w' => e = .returned (.bool true) ∧ w = w' := by
  have h1 := Bx.mk (xRaw_any c w h.ex)
  have h2 := Bx.mk (yRaw_any c w h.ey)
  obtain ⟨c0, c1, c2, c3, c4, c5, c6, hl⟩ := h.de7
  generalize rawP T c = s at h1 h2
  clear h
  go_enter Tryz.func37, Tryz.ntmps37
  go_wp2_with (first
    | (go_at_call 67; refine h1.out.mono ?_; clear h1; rintro e w1 ⟨rfl, rfl⟩)
    | (go_at_call 27; refine h2.out.mono ?_; clear h2; rintro e w1 ⟨rfl, rfl⟩))
  go_ret
  exact ⟨by simp, rfl⟩
set_option maxHeartbeats 1000000 in
theorem sameValue_any (c : Int) (w : World) (h : WS w D sb x T E reg Wt We) : Calls Tryz.prog 38 #[pt D.d, I c] w fun e w' => e = .returned (.bool true) ∧ Fr S0 w w' := by
  have h1 := Bx.mk (xValue_any c w h.ex)
  have h2 : Bx (∀ w', Fr S0 w w' → Calls Tryz.prog 28 #[pt D.M.me, I c] w' (VR w' (valP E c))) := ⟨fun w' f => yValue_any c w' (h.ey.fr0 f)⟩
  obtain ⟨c0, c1, c2, c3, c4, c5, c6, hl⟩ := h.de7
  have hD : Bx (∀ w', Fr S0 w w' → WS w' D sb x T E reg Wt We) := ⟨fun w' f => h.fr0 f⟩
  generalize valP E c = y at h1 h2
  have hrun : ∀ u : World, (binOp .eql 71 (vV y) (vV y)).run Tryz.prog u = .ok (.bool true) u := fun u => by rw [eql_v, vEq_self]
  have hgd : ∀ u : World, (eqGuard .eql 71 (.tmp 19) (.tmp 20) (vV y) (vV y)).run Tryz.prog u = .ok () u := fun u => guard_ve _ _ _ _ u
  clear h
  go_enter Tryz.func38, Tryz.ntmps38
  go_wp2_with (first
    | (go_at_call 68; refine h1.out.mono ?_; clear h1; rintro e w1 ⟨rfl, hf1⟩; have hv1 := Bx.mk (v_new w1 y 71 rfl); have hf1 := Bx.mk (hf1.alloc (.cells (vA y) 71)); obtain ⟨c0, c1, c2, c3, c4, c5, c6, hl⟩ := (hD.out _ hf1.out).de7)
    | (go_at_call 28; refine (h2.out _ hf1.out).mono ?_; clear h2; rintro e w2 ⟨rfl, hf2⟩; have hv2 := Bx.mk (hf2.row0 hv1.out); obtain ⟨q0, q1, q2, -, -, -⟩ := hv2.out.v3; have hlq := hv2.out.lt; have hf2 := Bx.mk ((hf1.out.trans hf2).alloc (.cells (vA y) 71))))
  go_ret
  exact ⟨rfl, hf2.out⟩
set_option maxHeartbeats 2000000 in
theorem alike_any (w : World) (h : WS w D sb x T E reg Wt We) : Calls Tryz.prog 26 #[pt D.d] w fun e w' => e = .returned (.bool true) ∧ Fr S0 w w' := by
  have hW : Bx (∀ w', Fr S0 w w' → WS w' D sb x T E reg Wt We) := ⟨fun w' f => h.fr0 f⟩
  clear h
  go_enter Tryz.func26, Tryz.ntmps26
  go_wp2_with fail
  go_loopw [3] (fun c wr => ∃ q : Int, -1 ≤ q ∧ q ≤ 25 ∧ c = I q ∧ Bx (Fr S0 w wr)) (fun c _ => (25 - intOf c).toNat)
  case atStart => exact ⟨-1, by omega, by omega, rfl, ⟨Fr.refl _ _⟩⟩
  case round =>
    obtain ⟨q, hq0, hq1, rfl, hf⟩ := hrel
    cases hlt : decide (q ≤ 24)
    · go_wp2_with fail
      go_ret
      exact ⟨rfl, hf.out⟩
    · have hq24 : q ≤ 24 := by simpa using hlt
      have hR := Bx.mk (sameRaw_any q wr (hW.out wr hf.out))
      have hV := Bx.mk (sameValue_any q wr (hW.out wr hf.out))
      go_wp2_with (first
        | (go_at_call 37; refine hR.out.mono ?_; clear hR; rintro e w2 ⟨rfl, rfl⟩)
        | (go_at_call 38; refine hV.out.mono ?_; clear hV; rintro e w3 ⟨rfl, hf3⟩; have hf3 := Bx.mk hf3))
      go_roundw
      case rel => exact ⟨q + 1, by omega, by omega, by go_num, ⟨hf.out.trans hf3.out⟩⟩
      case measure => simp [intOf]; omega
set_option maxHeartbeats 2000000 in
theorem seen_any (w : World) (h : WS w D sb x T E reg Wt We) : Calls Tryz.prog 13 #[pt D.d] w fun e w' => e = .returned (.bool true) ∧ Fr S0 w w' := by
  have h1 := Bx.mk (xCheck_any w h.ex)
  have h2 := Bx.mk (alike_any w h)
  obtain ⟨c0, c1, c2, c3, c4, c5, c6, hl⟩ := h.de7
  clear h
  go_enter Tryz.func13, Tryz.ntmps13
  go_wp2_with (first
    | (go_at_call 25; refine h1.out.mono ?_; clear h1; rintro e _ ⟨rfl, rfl⟩)
    | (go_at_call 26; refine h2.out.mono ?_; clear h2; rintro e w1 ⟨rfl, hf1⟩; have hf1 := Bx.mk hf1))
  go_ret
  exact ⟨rfl, hf1.out⟩
set_option maxHeartbeats 2000000 in
theorem handed_any (w : World) (h : WS w D sb x T E reg Wt We) : Calls Tryz.prog 39 #[pt D.d] w fun e w' => e = .returned (.bool true) ∧ w = w' := by
  have h1 : Bx (∀ c : Int, Calls Tryz.prog 56 #[pt D.A.xb, I c] w fun e w' => e = .returned (.string (rawP T c)) ∧ w = w') := ⟨fun c => kRaw_any c w h.ex.km⟩
  have h2 : Bx (∀ c : Int, Calls Tryz.prog 27 #[pt D.M.me, I c] w fun e w' => e = .returned (.string (rawP T c)) ∧ w = w') := ⟨fun c => yRaw_any c w h.ey⟩
  obtain ⟨c0, c1, c2, c3, c4, c5, c6, hl⟩ := h.de7
  clear h
  go_enter Tryz.func39, Tryz.ntmps39
  go_wp2_with fail
  go_loopw [3] (fun c wr => ∃ k : Nat, k ≤ 24 ∧ c = I (k : Int) ∧ w = wr) (fun c _ => 24 - (intOf c).toNat)
  case atStart => exact ⟨0, by omega, rfl, rfl⟩
  case round =>
    obtain ⟨k, hk, rfl, rfl⟩ := hrel
    cases hlt : decide ((k : Int) < 24)
    · go_wp2_with fail
      go_ret
      exact ⟨rfl, rfl⟩
    · have hk24 : k < 24 := by simp at hlt; omega
      have hkI : (k : Int) < 24 := by omega
      have a1 := Bx.mk (h1.out (k : Int))
      have a2 := Bx.mk (h2.out (k : Int))
      generalize rawP T (k : Int) = s at a1 a2
      go_wp2_with (first
        | (go_at_call 56; refine a1.out.mono ?_; clear a1; rintro e _ ⟨rfl, rfl⟩)
        | (go_at_call 27; refine a2.out.mono ?_; clear a2; rintro e _ ⟨rfl, rfl⟩))
      go_roundw
      case rel => exact ⟨k + 1, by omega, by go_num, trivial⟩
      case measure => simp [intOf]; omega
abbrev beV (D : DA) : Value := .agg #[pt D.A.B2.f, pt D.A.xb]
abbrev beA (D : DA) : Array Value := #[pt D.A.B2.f, pt D.A.xb]
set_option maxHeartbeats 400000 in
theorem markL_any (w : World) : Calls Tryz.prog 10 #[beV D] w fun e w' => e = .returned (.tuple #[]) ∧ Fr S0 w w' := by
  go_enter Tryz.func10, Tryz.ntmps10
  go_wp2
  go_end0
  exact ⟨rfl, (Fr.refl _ _).alloc _⟩
set_option maxHeartbeats 400000 in
theorem asked_any (w : World) : Calls Tryz.prog 23 #[beV D] w fun e w' => e = .returned (.tuple #[I (-1), I (-1), I (-1)]) ∧ Fr S0 w w' := by
  go_enter Tryz.func23, Tryz.ntmps23
  go_wp2
  go_returns
  exact ⟨rfl, (Fr.refl _ _).alloc _⟩
abbrev opV (kd a b c : Int) (S1 T1 : ByteArray) : Value := .agg #[I kd, I a, I b, I c, .string S1, .string T1]
abbrev opA (kd a b c : Int) (S1 T1 : ByteArray) : Array Value := #[I kd, I a, I b, I c, .string S1, .string T1]
set_option maxHeartbeats 1000000 in
theorem worked_any (kd a b c : Int) (S1 T1 : ByteArray) (er : Int) (w : World) (h : WS w D sb x T E reg Wt We) : Calls Tryz.prog 12 #[pt D.d, opV kd a b c S1 T1, I er] w fun e w' => e = .returned (.bool true) ∧ Fr S0 w w' := by
  have h1 := Bx.mk (fun wx => asked_any (D := D) wx)
  obtain ⟨c0, c1, c2, c3, c4, c5, c6, hl⟩ := h.de7
  have hf0 := Bx.mk ((Fr.refl S0 w).alloc (.cells (opA kd a b c S1 T1) 44))
  clear h
  go_enter Tryz.func12, Tryz.ntmps12
  go_wp2_with (first
    | (go_at_call 23; refine (h1.out _).mono ?_; clear h1; rintro e w1 ⟨rfl, hf1⟩; have hf1 := Bx.mk (hf0.out.trans hf1)))
  go_ret
  exact ⟨rfl, hf1.out⟩
end
end Go.Proofs.Qxb6500328aGreat
