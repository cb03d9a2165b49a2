import Derived.Test.Qxb6500326aGreatR17
namespace Go.Proofs.Qxb6500326aGreat
set_option maxRecDepth 100000
set_option linter.unusedVariables false
set_option linter.unusedSimpArgs false
open Go.RowKit Go.PlainAid

set_option maxHeartbeats 8000000 in
theorem cellV_form (V : VB) (B : FB) (s : ByteArray) (w : World) (h : EZ w V B) (eb ec : Nat) (env : Nat → Vl) (hs : s.size ≤ 40) (hGr : Grid w eb 24 3 (fun c => vC (env c))) (heb : ¬ VF V B eb) (hok : LwE env) (hp : isForm s = true) (x : Vl) (hx : ((tlT s).err ≠ 0 ∧ x = vErr 1) ∨ ((tlT s).err = 0 ∧ TreeOK (tlT s) ∧ ∃ pre val, Sub (tlT s).nodes 0 ((tlT s).nodes.length - 1) pre val ∧ x = val env)) : Calls Tryz.prog 158 #[pt V.e, .string s, sl eb 24 ec] w (fun e w' => e = .returned (.tuple #[vV x, I 0]) ∧ EZ w' V B ∧ Fr (VF V B) w w') := by
  have hZ0 := Bx.mk (h.fr0 ((Fr.refl S0 w).alloc (.cells #[I 0, I 0, .string es] 92)))
  have hF0 : Bx (Fr (VF V B) w (w.alloc (.cells #[I 0, I 0, .string es] 92))) := ⟨(Fr.refl _ _).alloc _⟩
  have hr0 := Bx.mk (v_zero w 92 rfl)
  have hnw := Bx.mk (h.ne (Nat.le_refl _))
  clear h
  have hsd : decide (40 < (s.size : Int)) = false := by simp; omega
  have he : (s.toList == []) = false := by simp only [isForm, Bool.and_eq_true, Bool.not_eq_true'] at hp; exact hp.1
  have h61 : (bt s 0 != 61) = false := by simp only [isForm, Bool.and_eq_true] at hp; simpa [bne] using hp.2
  have hpos := size_pos he
  have hb := get_bt s 0 hpos
  have hGr := Bx.mk hGr
  have hok := Bx.mk hok
  have hx := Bx.mk hx
  have heb := Bx.mk heb
  go_enter Tryz.func158, Tryz.ntmps158
  go_wp2_with fail
  go_loopw [8] (fun c wr => ∃ k : Nat, k ≤ 24 ∧ c = I (k : Int) ∧ Bx (∀ j, j < k → lawB (env j) = true) ∧ Bx (Row wr w.heap.size 3 (vC v0)) ∧ Bx (EZ wr V B) ∧ Bx (Fr (VF V B) w wr) ∧ Bx (Grid wr eb 24 3 (fun c => vC (env c)))) (fun c _ => 24 - (intOf c).toNat)
  case atStart => exact ⟨0, by omega, rfl, ⟨fun j hj => by omega⟩, hr0, hZ0, hF0, ⟨hGr.out.of (S := S0) ((Fr.refl S0 _).alloc _) (by simp)⟩⟩
  case round =>
    clear hZ0 hF0 hr0 hGr
    obtain ⟨k, hk, rfl, hall, hZ, hM, hF, hG⟩ := hrel
    obtain ⟨q0, q1, q2, qq0, qq1, qq2⟩ := hZ.out.v3
    cases hlt : decide ((k : Int) < 24)
    · clear hall hk
      have hLd := loadV V B s wr hM.out hp
      rcases hx.out with ⟨e0, hxe⟩ | ⟨e0, hto, pre, val, hSub, hxe⟩
      · have hLd : Bx (Calls Tryz.prog 153 #[pt V.e, .string s] wr fun e w' => e = .returned (.bool false) ∧ EZ w' V B ∧ Fr (VF V B) wr w') := ⟨hLd.mono (fun e w' hh => by
          rcases hh with ⟨⟨-, a2, a3⟩ | ⟨a1, -⟩, a5⟩
          · exact ⟨a2, a3, a5⟩
          · exact (e0 a1).elim)⟩
        subst hxe
        clear e0 hM
        go_wp2_with (first
          | (go_at_call 153; refine hLd.out.mono ?_; clear hLd; rintro e w1 ⟨rfl, hM, hf⟩; have hZ := Bx.mk (hf.row hZ.out hnw.out); have hG := Bx.mk (hG.out.of hf heb.out); have hF := Bx.mk (hF.out.trans hf); obtain ⟨q0, q1, q2, qq0, qq1, qq2⟩ := hZ.out.v3; clear hf)
          | (go_at_call 139; refine (err_any _ _).mono ?_; rintro e w1 ⟨rfl, hf⟩; have hZ2 := Bx.mk (hf.row0 hZ.out); have hM2 := Bx.mk (EZ.fr0 hM hf); have hF2 := Bx.mk (hF.out.trans hf.up); obtain ⟨q0, q1, q2, qq0, qq1, qq2⟩ := hZ2.out.v3; clear hf))
        exact ret_ve (p := 6) (q := 7) (g := w.heap.size) (x := (vErr 1)) rfl rfl rfl (v_sets hZ2.out (vErr 1)) rfl ⟨rfl, hM2.out.fr (S := fun k => k = w.heap.size) (sets_fr (S := fun k => k = w.heap.size) (.inl rfl) (vA (vErr 1)).toList w1 0 (Fr.refl _ _)) (fun k hk e => by subst e; exact hnw.out hk), sets_fr (S := VF V B) (a := w) (b := w.heap.size) (.inr (Nat.le_refl _)) (vA (vErr 1)).toList w1 0 hF2.out⟩
      · have hL1 := hto.one
        have hL24 := hto.max
        have hdj := Bx.mk hM.out.dj
        have hLd : Bx (Calls Tryz.prog 153 #[pt V.e, .string s] wr fun e w' => e = .returned (.bool true) ∧ ((∃ ow', CW w' V B.f ⟨ow', pre, rdS (tlT s).nodes 0 (tlT s).nodes.length⟩) ∧ FZ w' B) ∧ Fr (VF V B) wr w') := ⟨hLd.mono (fun e w' hh => by
          rcases hh with ⟨⟨a1, -⟩ | ⟨-, a2, ⟨ow, a3⟩, a4⟩, a5⟩
          · exact (a1 e0).elim
          · exact ⟨a2, ⟨hSub.cw hL1 a3, a4⟩, a5⟩)⟩
        have hR : Bx (∀ w' ow', CW w' V B.f ⟨ow', pre, rdS (tlT s).nodes 0 (tlT s).nodes.length⟩ → Grid w' eb 24 3 (fun c => vC (env c)) → FZ w' B → Calls Tryz.prog 184 #[pt V.e, sl eb 24 ec] w' fun e w'' => e = .returned (vV x) ∧ EZ w'' V B ∧ Fr (VF V B) w' w'') := ⟨fun w' ow' hcw hg hfz => by
          obtain ⟨E, h1, a1, a2, a3, a4, a5, a6⟩ := hcw.ex
          refine (runV V B.f E eb ec env pre x w' ⟨E, h1, a5, a6, trivial, trivial, rfl, rfl, rfl, rfl⟩ hok.out hg (fun e => heb.out (.inl e)) a1 a2 (by rw [hxe]; exact hSub.run env hok.out [] [] (by simp; omega) (by simp; omega))).mono ?_
          rintro e w'' ⟨rfl, hm, hf⟩
          obtain ⟨E', b1, b2, b3, -, -, b6, -⟩ := hm.ex
          exact ⟨rfl, ⟨⟨E', b1, b6, b2, b3⟩, hfz.fr hf (fun k hk e => hdj.out k e hk), hdj.out⟩, hf.mono (fun k hk => .inl hk)⟩⟩
        clear e0 hM hto hSub hxe hx
        go_wp2_with (first
          | (go_at_call 153; refine hLd.out.mono ?_; clear hLd; rintro e w1 ⟨rfl, ⟨⟨ow1, hcw⟩, hfz⟩, hf⟩; have hZ := Bx.mk (hf.row hZ.out hnw.out); have hG := Bx.mk (hG.out.of hf heb.out); have hF := Bx.mk (hF.out.trans hf); obtain ⟨q0, q1, q2, qq0, qq1, qq2⟩ := hZ.out.v3; clear hf)
          | (go_at_call 184; refine (hR.out _ ow1 hcw hG.out hfz).mono ?_; clear hR; rintro e w2 ⟨rfl, hM2, hf⟩; have hZ2 := Bx.mk (hf.row hZ.out hnw.out); have hM2 := Bx.mk hM2; have hF2 := Bx.mk (hF.out.trans hf); obtain ⟨q0, q1, q2, qq0, qq1, qq2⟩ := hZ2.out.v3; clear hf))
        exact ret_ve (p := 6) (q := 7) (g := w.heap.size) (x := x) rfl rfl rfl (v_sets hZ2.out x) rfl ⟨rfl, hM2.out.fr (S := fun k => k = w.heap.size) (sets_fr (S := fun k => k = w.heap.size) (.inl rfl) (vA x).toList w2 0 (Fr.refl _ _)) (fun k hk e => by subst e; exact hnw.out hk), sets_fr (S := VF V B) (a := w) (b := w.heap.size) (.inr (Nat.le_refl _)) (vA x).toList w2 0 hF2.out⟩
    · have hk24 : k < 24 := by simp at hlt; omega
      have g0 := hG.out.cell0 k hk24 (by omega)
      have g1 := hG.out.cell k 1 hk24 (by omega)
      have g2 := hG.out.cell k 2 hk24 (by omega)
      simp only [vC] at g0 g1 g2
      have hLf : Bx (∀ w, Calls Tryz.prog 168 #[vV (env k)] w fun e w' => e = .returned (.bool (lawB (env k))) ∧ Fr S0 w w') := ⟨fun w => lawful_any (env k) w⟩
      rw [(lawB_iff _).2 (hok.out k hk24)] at hLf
      go_wp2_with (first | (go_at_call 168; refine (hLf.out _).mono ?_; clear hLf; rintro e w1 ⟨rfl, hf⟩; have hZ := Bx.mk (hf.row0 hZ.out); have hM := Bx.mk (hM.out.fr0 hf); have hF := Bx.mk (hF.out.trans hf.up); have hG := Bx.mk (hG.out.of hf (by simp)); obtain ⟨q0, q1, q2, qq0, qq1, qq2⟩ := hZ.out.v3; clear hf))
      go_roundw
      case rel => exact ⟨k + 1, by omega, rfl, ⟨fun j hj => (lawB_iff _).2 (hok.out j (by omega))⟩, hZ, hM, hF, hG⟩
      case measure => simp [intOf]; omega
end Go.Proofs.Qxb6500326aGreat
