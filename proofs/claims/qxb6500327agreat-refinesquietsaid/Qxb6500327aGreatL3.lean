import Derived.Test.Qxb6500327aGreatL2
namespace Go.Proofs.Qxb6500327aGreat
set_option maxRecDepth 100000
set_option linter.unusedVariables false
set_option linter.unusedSimpArgs false
open Go.RowKit Go.PlainAid

section
variable {A : AD} {msb : Nat} {x : Gr.XS} {T : Nat → ByteArray} {E : Nat → Vl} {D : DS}
set_option maxHeartbeats 1000000 in
theorem sameRaw_any (c : Int) (w : World) (h : WS w A msb x T E D) : Calls Tryz.prog 33 #[pt A.xb, pt A.cb, I c] w fun e w' => e = .returned (.bool true) ∧ w = w' := by
  have h1 := Bx.mk (kRaw_any c w h.km)
  have h2 := Bx.mk (cRaw_any c w h.cm)
  generalize rawP T c = s at h1 h2
  clear h
  go_enter Tryz.func33, Tryz.ntmps33
  go_wp2_with (first
    | (go_at_call 47; refine h1.out.mono ?_; clear h1; rintro e w1 ⟨rfl, rfl⟩)
    | (go_at_call 29; refine h2.out.mono ?_; clear h2; rintro e w1 ⟨rfl, rfl⟩))
  go_ret
  exact ⟨by simp, rfl⟩
set_option maxHeartbeats 1000000 in
theorem sameValue_any (c : Int) (w : World) (h : WS w A msb x T E D) : Calls Tryz.prog 34 #[pt A.xb, pt A.cb, I c] w fun e w' => e = .returned (.bool true) ∧ Fr S0 w w' := by
  have h1 := Bx.mk (kValue_any c w h.km)
  have h2 : Bx (∀ w', Fr S0 w w' → Calls Tryz.prog 28 #[pt A.cb, I c] w' (VR w' (valP E c))) := ⟨fun w' f => cValue_any c w' (h.cm.fr0 f)⟩
  generalize valP E c = y at h1 h2
  have hrun : ∀ u : World, (binOp .eql 66 (vV y) (vV y)).run Tryz.prog u = .ok (.bool true) u := fun u => by rw [eql_v, vEq_self]
  have hgd : ∀ u : World, (eqGuard .eql 66 (.tmp 15) (.tmp 16) (vV y) (vV y)).run Tryz.prog u = .ok () u := fun u => guard_ve _ _ _ _ u
  clear h
  go_enter Tryz.func34, Tryz.ntmps34
  go_wp2_with (first
    | (go_at_call 48; refine h1.out.mono ?_; clear h1; rintro e w1 ⟨rfl, hf1⟩; have hv1 := Bx.mk (v_new w1 y 66 rfl); have hf1 := Bx.mk (hf1.alloc (.cells (vA y) 66)))
    | (go_at_call 28; refine (h2.out _ hf1.out).mono ?_; clear h2; rintro e w2 ⟨rfl, hf2⟩; have hv2 := Bx.mk (hf2.row0 hv1.out); obtain ⟨q0, q1, q2, -, -, -⟩ := hv2.out.v3; have hlq := hv2.out.lt; have hf2 := Bx.mk ((hf1.out.trans hf2).alloc (.cells (vA y) 66))))
  go_ret
  exact ⟨rfl, hf2.out⟩
set_option maxHeartbeats 2000000 in
theorem alike_any (w : World) (h : WS w A msb x T E D) (hS : Sheet T E) : Calls Tryz.prog 26 #[pt A.xb, pt A.cb] w fun e w' => e = .returned (.bool true) ∧ Fr S0 w w' := by
  have hW : Bx (∀ w', Fr S0 w w' → WS w' A msb x T E D) := ⟨fun w' f => h.fr0 f⟩
  have hC := Bx.mk (kCheck_any w h.km hS)
  clear h
  go_enter Tryz.func26, Tryz.ntmps26
  go_wp2_with (first | (go_at_call 35; refine hC.out.mono ?_; clear hC; rintro e w1 ⟨rfl, hf1⟩; have hf1 := Bx.mk hf1))
  go_loopw [6] (fun c wr => ∃ q : Int, -1 ≤ q ∧ q ≤ 25 ∧ c = I q ∧ Bx (Fr S0 w wr)) (fun c _ => (25 - intOf c).toNat)
  case atStart => exact ⟨-1, by omega, by omega, rfl, hf1⟩
  case round =>
    clear hf1
    obtain ⟨q, hq0, hq1, rfl, hf⟩ := hrel
    cases hlt : decide (q ≤ 24)
    · go_wp2_with fail
      go_ret
      exact ⟨rfl, hf.out⟩
    · have hq24 : q ≤ 24 := by simpa using hlt
      have hR := Bx.mk (sameRaw_any q wr (hW.out wr hf.out))
      have hV := Bx.mk (sameValue_any q wr (hW.out wr hf.out))
      go_wp2_with (first
        | (go_at_call 33; refine hR.out.mono ?_; clear hR; rintro e w2 ⟨rfl, rfl⟩)
        | (go_at_call 34; refine hV.out.mono ?_; clear hV; rintro e w3 ⟨rfl, hf3⟩; have hf3 := Bx.mk hf3))
      go_roundw
      case rel => exact ⟨q + 1, by omega, by omega, by go_num, ⟨hf.out.trans hf3.out⟩⟩
      case measure => simp [intOf]; omega
set_option maxHeartbeats 2000000 in
theorem loud_any (w : World) (h : WS w A msb x T E D) (hS : Sheet T E) : Calls Tryz.prog 12 #[blV A, pt A.xb, pt A.cb] w fun e w' => e = .returned (.bool true) ∧ Fr S0 w w' := by
  have hf0 := Bx.mk ((Fr.refl S0 w).alloc (.cells (blA A) 31))
  have hb := Bx.mk (bl_new w A rfl)
  have hA : Bx (∀ w', Fr S0 w w' → Calls Tryz.prog 26 #[pt A.xb, pt A.cb] w' fun e w'' => e = .returned (.bool true) ∧ Fr S0 w' w'') := ⟨fun w' f => alike_any w' (h.fr0 f) hS⟩
  obtain ⟨b0, b1, b2⟩ := hb.out.bl3
  clear h hS
  go_enter Tryz.func12, Tryz.ntmps12
  go_upto_region 2 with (first
    | (go_at_call 22; refine (asked_any A _).mono ?_; rintro e w1 ⟨rfl, hf1⟩; have hb1 := Bx.mk (hf1.row0 hb.out); have hff1 := Bx.mk (hf0.out.trans hf1); clear b0 b1 b2 hf1))
  go_upto_region 5 with (first
    | (go_at_call 26; refine (hA.out _ hff1.out).mono ?_; clear hA; rintro e w2 ⟨rfl, hf2⟩; have hb2 := Bx.mk (hf2.row0 hb1.out); have hff2 := Bx.mk (hff1.out.trans hf2); clear hf2; obtain ⟨b0, b1, b2⟩ := hb2.out.bl3; have hbl := hb2.out.lt))
  go_wp2_with (first
    | (go_at_call 22; refine (asked_any A _).mono ?_; rintro e w3 ⟨rfl, hf3⟩; have hff3 := Bx.mk (hff2.out.trans hf3); clear hf3))
  go_ret
  exact ⟨rfl, hff3.out⟩
end
end Go.Proofs.Qxb6500327aGreat
