import Derived.Test.Qxb6500326aGreatR8
namespace Go.Proofs.Qxb6500326aGreat
set_option maxRecDepth 100000
set_option linter.unusedVariables false
set_option linter.unusedSimpArgs false
open Go.RowKit Go.PlainAid
set_option maxHeartbeats 4000000 in
theorem step_push (V : VB) (fb : Nat) (E0 : Evr) (eb ec : Nat) (env : Nat → Vl) (a : Int) (v : Vl) (set : BitVec 32) (S : List Vl) (T : List Tl) (w : World) (h : MW w V fb E0 ⟨S, T⟩) (hs : S.length < 24) :
    Calls Tryz.prog 219 #[pt V.e, inV ⟨1, a, v, set⟩, sl eb 24 ec] w (LA w V fb E0 (.tuple #[]) ⟨v :: S, T⟩) := by
  have hM := Bx.mk (h.alloc (.cells (inA ⟨1, a, v, set⟩) 235))
  have hb := Bx.mk (in_new w ⟨1, a, v, set⟩ 235 rfl)
  have hfr : Bx (Fr (VS V) w (w.alloc (.cells (inA ⟨1, a, v, set⟩) 235))) := ⟨(Fr.refl _ _).alloc _⟩
  have hne := Bx.mk (h.ne (Nat.le_refl _))
  have hPu : Bx (∀ w' x, MW w' V fb E0 ⟨S, T⟩ → Calls Tryz.prog 236 #[pt V.e, vV x] w' (LA w' V fb E0 (.tuple #[]) ⟨x :: S, T⟩)) := ⟨fun w' x h => pushA V fb E0 S T x w' h (by omega)⟩
  clear h
  go_enter Tryz.func219, Tryz.ntmps219
  go_wp2_with (first
    | (go_at_call 236; refine (hPu.out _ _ hM.out).mono ?_; clear hPu; rintro e wq ⟨rfl, hM1, hf⟩; have hM := Bx.mk hM1; have hfr := Bx.mk (hfr.out.trans hf); clear hf hM1))
  go_end0
  exact ⟨rfl, hM.out, hfr.out⟩
set_option maxHeartbeats 4000000 in
theorem step_unary (V : VB) (fb : Nat) (E0 : Evr) (eb ec : Nat) (env : Nat → Vl) (a : Int) (x : Vl) (v : Vl) (set : BitVec 32) (S : List Vl) (T : List Tl) (w : World) (h : MW w V fb E0 ⟨x :: S, T⟩) (hs : S.length < 24) (lx : Lw x) :
    Calls Tryz.prog 219 #[pt V.e, inV ⟨3, a, v, set⟩, sl eb 24 ec] w (LA w V fb E0 (.tuple #[]) ⟨unaryP a x :: S, T⟩) := by
  have hM := Bx.mk (h.alloc (.cells (inA ⟨3, a, v, set⟩) 235))
  have hb := Bx.mk (in_new w ⟨3, a, v, set⟩ 235 rfl)
  have hfr : Bx (Fr (VS V) w (w.alloc (.cells (inA ⟨3, a, v, set⟩) 235))) := ⟨(Fr.refl _ _).alloc _⟩
  have hne := Bx.mk (h.ne (Nat.le_refl _))
  have hP : Bx (∀ w', MW w' V fb E0 ⟨x :: S, T⟩ → Calls Tryz.prog 220 #[pt V.e] w' (LA w' V fb E0 (vV x) ⟨S, T⟩)) := ⟨fun w' h => popA V fb E0 S T x w' h (by first | omega | (simp only [List.length_cons]; omega))⟩
  have hPu : Bx (∀ w' x, MW w' V fb E0 ⟨S, T⟩ → Calls Tryz.prog 236 #[pt V.e, vV x] w' (LA w' V fb E0 (.tuple #[]) ⟨x :: S, T⟩)) := ⟨fun w' x h => pushA V fb E0 S T x w' h (by omega)⟩
  clear h
  go_enter Tryz.func219, Tryz.ntmps219
  go_wp2_with (first
    | (go_at_call 220; refine (hP.out _ hM.out).mono ?_; clear hP; rintro e w1 ⟨rfl, hM1, hf⟩; have hb := Bx.mk (hf.row hb.out hne.out); obtain ⟨i0, i1, i2, i3, i4, i5⟩ := hb.out.in6; have hl0 := hb.out.lt; have hnw1 := Bx.mk (hM1.ne (Nat.le_refl _)); have hM := Bx.mk (hM1.alloc (.cells (vA x) 92)); have hb := Bx.mk (hb.out.alloc (.cells (vA x) 92)); have hfr := Bx.mk ((hfr.out.trans hf).alloc (.cells (vA x) 92)); clear hf hM1)
    | (go_at_call 237; refine (unaryR_any _ _ _ lx).mono (VR.letter ?_); rintro r hx e wp ⟨rfl, hf⟩; have hM := Bx.mk ((hM.out.fr0 hf).alloc (.cells (vA r) 92)); have hfr := Bx.mk ((hfr.out.trans hf.up).alloc (.cells (vA r) 92)); clear hf)
    | (go_at_call 236; refine (hPu.out _ _ hM.out).mono ?_; clear hPu; rintro e wq ⟨rfl, hM1, hf⟩; have hM := Bx.mk hM1; have hfr := Bx.mk (hfr.out.trans hf); clear hf hM1))
  go_end0
  rw [hx.out]
  exact ⟨rfl, hM.out, hfr.out⟩
set_option maxHeartbeats 4000000 in
theorem step_bin (V : VB) (fb : Nat) (E0 : Evr) (eb ec : Nat) (env : Nat → Vl) (a : Int) (x y : Vl) (v : Vl) (set : BitVec 32) (S : List Vl) (T : List Tl) (w : World) (h : MW w V fb E0 ⟨y :: x :: S, T⟩) (hs : S.length + 1 < 24) (lx : Lw x) (ly : Lw y) :
    Calls Tryz.prog 219 #[pt V.e, inV ⟨4, a, v, set⟩, sl eb 24 ec] w (LA w V fb E0 (.tuple #[]) ⟨binP a x y :: S, T⟩) := by
  have hM := Bx.mk (h.alloc (.cells (inA ⟨4, a, v, set⟩) 235))
  have hb := Bx.mk (in_new w ⟨4, a, v, set⟩ 235 rfl)
  have hfr : Bx (Fr (VS V) w (w.alloc (.cells (inA ⟨4, a, v, set⟩) 235))) := ⟨(Fr.refl _ _).alloc _⟩
  have hne := Bx.mk (h.ne (Nat.le_refl _))
  have hP : Bx (∀ w', MW w' V fb E0 ⟨y :: x :: S, T⟩ → Calls Tryz.prog 220 #[pt V.e] w' (LA w' V fb E0 (vV y) ⟨x :: S, T⟩)) := ⟨fun w' h => popA V fb E0 (x :: S) T y w' h (by first | omega | (simp only [List.length_cons]; omega))⟩
  have hQ : Bx (∀ w', MW w' V fb E0 ⟨x :: S, T⟩ → Calls Tryz.prog 220 #[pt V.e] w' (LA w' V fb E0 (vV x) ⟨S, T⟩)) := ⟨fun w' h => popA V fb E0 S T x w' h (by first | omega | (simp only [List.length_cons]; omega))⟩
  have hPu : Bx (∀ w' x, MW w' V fb E0 ⟨S, T⟩ → Calls Tryz.prog 236 #[pt V.e, vV x] w' (LA w' V fb E0 (.tuple #[]) ⟨x :: S, T⟩)) := ⟨fun w' x h => pushA V fb E0 S T x w' h (by omega)⟩
  clear h
  go_enter Tryz.func219, Tryz.ntmps219
  go_wp2_with (first
    | (go_at_call 220; refine (hP.out _ hM.out).mono ?_; clear hP; rintro e w1 ⟨rfl, hM1, hf⟩; have hb := Bx.mk (hf.row hb.out hne.out); obtain ⟨i0, i1, i2, i3, i4, i5⟩ := hb.out.in6; have hl0 := hb.out.lt; have hnw1 := Bx.mk (hM1.ne (Nat.le_refl _)); have hM := Bx.mk (hM1.alloc (.cells (vA y) 92)); have hb := Bx.mk (hb.out.alloc (.cells (vA y) 92)); have hfr := Bx.mk ((hfr.out.trans hf).alloc (.cells (vA y) 92)); clear hf hM1)
    | (go_at_call 220; refine (hQ.out _ hM.out).mono ?_; clear hQ; rintro e w2 ⟨rfl, hM1, hf⟩; have hb := Bx.mk (hf.row hb.out hne.out); obtain ⟨i0, i1, i2, i3, i4, i5⟩ := hb.out.in6; have hl0 := hb.out.lt; have hRY := Bx.mk (hf.row (v_new w1 y 92 rfl) hnw1.out); obtain ⟨xY0, xY1, xY2, -, -, -⟩ := hRY.out.v3; have hlY := hRY.out.lt; have hnw2 := Bx.mk (hM1.ne (Nat.le_refl _)); have hM := Bx.mk (hM1.alloc (.cells (vA x) 92)); have hb := Bx.mk (hb.out.alloc (.cells (vA x) 92)); have hfr := Bx.mk ((hfr.out.trans hf).alloc (.cells (vA x) 92)); clear hf hM1)
    | (go_at_call 238; refine (binR_any _ _ _ _ lx ly).mono (VR.letter ?_); rintro r hx e wp ⟨rfl, hf⟩; have hM := Bx.mk ((hM.out.fr0 hf).alloc (.cells (vA r) 92)); have hfr := Bx.mk ((hfr.out.trans hf.up).alloc (.cells (vA r) 92)); clear hf)
    | (go_at_call 236; refine (hPu.out _ _ hM.out).mono ?_; clear hPu; rintro e wq ⟨rfl, hM1, hf⟩; have hM := Bx.mk hM1; have hfr := Bx.mk (hfr.out.trans hf); clear hf hM1))
  go_end0
  rw [hx.out]
  exact ⟨rfl, hM.out, hfr.out⟩
set_option maxHeartbeats 4000000 in
theorem step_choose (V : VB) (fb : Nat) (E0 : Evr) (eb ec : Nat) (env : Nat → Vl) (a : Int) (c x y : Vl) (v : Vl) (set : BitVec 32) (S : List Vl) (T : List Tl) (w : World) (h : MW w V fb E0 ⟨y :: x :: c :: S, T⟩) (hs : S.length + 2 < 24) (lc : Lw c) :
    Calls Tryz.prog 219 #[pt V.e, inV ⟨5, a, v, set⟩, sl eb 24 ec] w (LA w V fb E0 (.tuple #[]) ⟨chooseP c x y :: S, T⟩) := by
  have hM := Bx.mk (h.alloc (.cells (inA ⟨5, a, v, set⟩) 235))
  have hb := Bx.mk (in_new w ⟨5, a, v, set⟩ 235 rfl)
  have hfr : Bx (Fr (VS V) w (w.alloc (.cells (inA ⟨5, a, v, set⟩) 235))) := ⟨(Fr.refl _ _).alloc _⟩
  have hne := Bx.mk (h.ne (Nat.le_refl _))
  have hP : Bx (∀ w', MW w' V fb E0 ⟨y :: x :: c :: S, T⟩ → Calls Tryz.prog 220 #[pt V.e] w' (LA w' V fb E0 (vV y) ⟨x :: c :: S, T⟩)) := ⟨fun w' h => popA V fb E0 (x :: c :: S) T y w' h (by first | omega | (simp only [List.length_cons]; omega))⟩
  have hQ : Bx (∀ w', MW w' V fb E0 ⟨x :: c :: S, T⟩ → Calls Tryz.prog 220 #[pt V.e] w' (LA w' V fb E0 (vV x) ⟨c :: S, T⟩)) := ⟨fun w' h => popA V fb E0 (c :: S) T x w' h (by first | omega | (simp only [List.length_cons]; omega))⟩
  have hR : Bx (∀ w', MW w' V fb E0 ⟨c :: S, T⟩ → Calls Tryz.prog 220 #[pt V.e] w' (LA w' V fb E0 (vV c) ⟨S, T⟩)) := ⟨fun w' h => popA V fb E0 S T c w' h (by first | omega | (simp only [List.length_cons]; omega))⟩
  have hPu : Bx (∀ w' x, MW w' V fb E0 ⟨S, T⟩ → Calls Tryz.prog 236 #[pt V.e, vV x] w' (LA w' V fb E0 (.tuple #[]) ⟨x :: S, T⟩)) := ⟨fun w' x h => pushA V fb E0 S T x w' h (by omega)⟩
  clear h
  go_enter Tryz.func219, Tryz.ntmps219
  go_wp2_with (first
    | (go_at_call 220; refine (hP.out _ hM.out).mono ?_; clear hP; rintro e w1 ⟨rfl, hM1, hf⟩; have hb := Bx.mk (hf.row hb.out hne.out); obtain ⟨i0, i1, i2, i3, i4, i5⟩ := hb.out.in6; have hl0 := hb.out.lt; have hnw1 := Bx.mk (hM1.ne (Nat.le_refl _)); have hM := Bx.mk (hM1.alloc (.cells (vA y) 92)); have hb := Bx.mk (hb.out.alloc (.cells (vA y) 92)); have hfr := Bx.mk ((hfr.out.trans hf).alloc (.cells (vA y) 92)); clear hf hM1)
    | (go_at_call 220; refine (hQ.out _ hM.out).mono ?_; clear hQ; rintro e w2 ⟨rfl, hM1, hf⟩; have hb := Bx.mk (hf.row hb.out hne.out); obtain ⟨i0, i1, i2, i3, i4, i5⟩ := hb.out.in6; have hl0 := hb.out.lt; have hRY := Bx.mk (hf.row (v_new w1 y 92 rfl) hnw1.out); obtain ⟨xY0, xY1, xY2, -, -, -⟩ := hRY.out.v3; have hlY := hRY.out.lt; have hnw2 := Bx.mk (hM1.ne (Nat.le_refl _)); have hM := Bx.mk (hM1.alloc (.cells (vA x) 92)); have hb := Bx.mk (hb.out.alloc (.cells (vA x) 92)); have hfr := Bx.mk ((hfr.out.trans hf).alloc (.cells (vA x) 92)); clear hf hM1)
    | (go_at_call 220; refine (hR.out _ hM.out).mono ?_; clear hR; rintro e w3 ⟨rfl, hM1, hf⟩; have hb := Bx.mk (hf.row hb.out hne.out); obtain ⟨i0, i1, i2, i3, i4, i5⟩ := hb.out.in6; have hl0 := hb.out.lt; have hRY := Bx.mk (hf.row (hRY.out.alloc _) hnw1.out); obtain ⟨xY0, xY1, xY2, -, -, -⟩ := hRY.out.v3; have hlY := hRY.out.lt; have hRX := Bx.mk (hf.row (v_new w2 x 92 rfl) hnw2.out); obtain ⟨xX0, xX1, xX2, -, -, -⟩ := hRX.out.v3; have hlX := hRX.out.lt; have hnw3 := Bx.mk (hM1.ne (Nat.le_refl _)); have hM := Bx.mk (hM1.alloc (.cells (vA c) 92)); have hb := Bx.mk (hb.out.alloc (.cells (vA c) 92)); have hfr := Bx.mk ((hfr.out.trans hf).alloc (.cells (vA c) 92)); clear hf hM1)
    | (go_at_call 239; refine (chooseR_any _ _ _ _).mono (VR.letter ?_); rintro r hx e wp ⟨rfl, hf⟩; have hM := Bx.mk ((hM.out.fr0 hf).alloc (.cells (vA r) 92)); have hfr := Bx.mk ((hfr.out.trans hf.up).alloc (.cells (vA r) 92)); clear hf)
    | (go_at_call 236; refine (hPu.out _ _ hM.out).mono ?_; clear hPu; rintro e wq ⟨rfl, hM1, hf⟩; have hM := Bx.mk hM1; have hfr := Bx.mk (hfr.out.trans hf); clear hf hM1))
  go_end0
  rw [hx.out]
  exact ⟨rfl, hM.out, hfr.out⟩
set_option maxHeartbeats 4000000 in
theorem step_cell (V : VB) (fb : Nat) (E0 : Evr) (eb ec : Nat) (env : Nat → Vl) (c : Nat) (v : Vl) (set : BitVec 32) (S : List Vl) (T : List Tl) (w : World) (h : MW w V fb E0 ⟨S, T⟩) (hG : Grid w eb 24 3 (fun c => vC (env c))) (hc : c < 24) (hs : S.length < 24) :
    Calls Tryz.prog 219 #[pt V.e, inV ⟨2, (c : Int), v, set⟩, sl eb 24 ec] w (LA w V fb E0 (.tuple #[]) ⟨env c :: S, T⟩) := by
  have hM := Bx.mk (h.alloc (.cells (inA ⟨2, (c : Int), v, set⟩) 235))
  have hb := Bx.mk (in_new w ⟨2, (c : Int), v, set⟩ 235 rfl)
  have hfr : Bx (Fr (VS V) w (w.alloc (.cells (inA ⟨2, (c : Int), v, set⟩) 235))) := ⟨(Fr.refl _ _).alloc _⟩
  have hne := Bx.mk (h.ne (Nat.le_refl _))
  have hPu : Bx (∀ w' x, MW w' V fb E0 ⟨S, T⟩ → Calls Tryz.prog 236 #[pt V.e, vV x] w' (LA w' V fb E0 (.tuple #[]) ⟨x :: S, T⟩)) := ⟨fun w' x h => pushA V fb E0 S T x w' h (by omega)⟩
  have g0 := hG.cell0 c hc (by omega)
  have g1 := hG.cell c 1 hc (by omega)
  have g2 := hG.cell c 2 hc (by omega)
  simp only [vC] at g0 g1 g2
  have hel := Row.lt hG
  clear hG
  clear h
  go_enter Tryz.func219, Tryz.ntmps219
  go_wp2_with (first
    | (go_at_call 236; refine (hPu.out _ (env c) hM.out).mono ?_; clear hPu; rintro e wq ⟨rfl, hM1, hf⟩; have hM := Bx.mk hM1; have hfr := Bx.mk (hfr.out.trans hf); clear hf hM1))
  go_end0
  exact ⟨rfl, hM.out, hfr.out⟩
end Go.Proofs.Qxb6500326aGreat
