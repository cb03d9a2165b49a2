import Derived.Test.Qxb6500331aGreatF2
import Derived.Test.Qxb6500331aGreatF3
namespace Go.Proofs.Qxb6500331aGreat
set_option maxRecDepth 100000
set_option linter.unusedVariables false
set_option linter.unusedSimpArgs false
open Go.RowKit Go.PlainAid

theorem exM (k : Nat) (hk : k < 28) (mb fb eb : Nat) (w : World) (hm : MEv w mb fb) (hG : Grid w eb 24 3 (fun c => vC (smp c))) (h1 : eb ≠ mb) (h2 : eb ≠ fb) : Calls Tryz.prog 23 #[pt mb, .string (exT k), sl eb 24 24] w (fun e w' => e = .returned (.tuple #[vV (exV k), I 0]) ∧ MEv w' mb fb ∧ Fr (MeS mb fb) w w') := by
  obtain ⟨hs, ⟨hp, hx⟩ | ⟨hp, hx⟩⟩ := ex_all k hk
  · rw [← hx]; exact cellM_plain mb fb eb 24 smp (exT k) w hm hs hG h1 h2 smp_lw hp
  · exact cellM_form mb fb eb 24 smp (exT k) w hm hs hG h1 h2 smp_lw hp (exV k) hx
def smp7 : Nat → Vl := fun c => if c = 7 then ⟨1, 1000000000, es⟩ else smp c
theorem smp7_bad : ¬ LwE smp7 := by
  intro h
  have := (lawB_iff _).2 (h 7 (by decide))
  simp [smp7, lawB] at this
set_option maxHeartbeats 8000000 in
theorem examples_any (mb fb : Nat) (w : World) (h : MEv w mb fb) : Calls Tryz.prog 11 #[pt mb] w fun e w' => e = .returned (.bool true) ∧ MEv w' mb fb ∧ Fr (MeS mb fb) w w' := by
  have hlt : ∀ w', Fr (MeS mb fb) w w' → mb < w'.heap.size ∧ fb < w'.heap.size := fun w' f => by
    obtain ⟨⟨_, _, r1⟩, ⟨_, _, _, r2⟩, _⟩ := h
    exact ⟨Nat.lt_of_lt_of_le r1.lt f.size, Nat.lt_of_lt_of_le r2.lt f.size⟩
  have hlt := Bx.mk hlt
  have hM0 := Bx.mk h
  clear h
  go_enter Tryz.func11, Tryz.ntmps11
  go_wp2_with fail
  go_loopw [3] (fun i wr => ∃ k : Nat, k ≤ 28 ∧ i = I (k : Int) ∧ Bx (MEv wr mb fb) ∧ Bx (Fr (MeS mb fb) w wr)) (fun i _ => 28 - (intOf i).toNat)
  case atStart => exact ⟨0, by omega, rfl, hM0, ⟨Fr.refl _ _⟩⟩
  case round =>
    clear hM0
    obtain ⟨k, hk, rfl, hM, hF⟩ := hrel
    have hFs := hF.out.size
    obtain ⟨hl1, hl2⟩ := hlt.out wr hF.out
    cases hd : decide ((k : Int) < 28)
    · clear hk
      have hS := Bx.mk sample_any
      have hE : Bx (∀ w' eb, MEv w' mb fb → Grid w' eb 24 3 (fun c => vC (smp7 c)) → eb ≠ mb → eb ≠ fb → Calls Tryz.prog 23 #[pt mb, .string ⟨#[49]⟩, sl eb 24 24] w' (fun e w'' => e = .returned (.tuple #[vV v0, I 10]) ∧ MEv w'' mb fb ∧ Fr (MeS mb fb) w' w'')) := ⟨fun w' eb h hG h1 h2 => cellM_env mb fb eb 24 smp7 _ w' h (by decide) hG h1 h2 smp7_bad⟩
      go_wp2_with (first
        | (go_at_call 22; refine (hS.out _).mono ?_; clear hS; rintro e w1 ⟨rfl, hL, hf⟩; have hM := Bx.mk (hM.out.fr hf (by simp) (by simp)); have hF := Bx.mk (hF.out.trans hf.up); have c0 := Row.cell hL 21 (by decide); have c1 := Row.cell hL 22 (by decide); have c2 := Row.cell hL 23 (by decide); have z0 := Row.frozen hL 21; have z1 := Row.frozen hL 22; have z2 := Row.frozen hL 23; have hL7 : Bx (Grid (sets w1 wr.heap.size (7 * 3) (vA ⟨1, 1000000000, es⟩).toList) wr.heap.size 24 3 (fun c => vC (smp7 c))) := ⟨Row.congr (put47 hL 7 ⟨1, 1000000000, es⟩) (by intro j hj; simp only [upd, smp7]; split <;> rfl)⟩; have hs7 : Bx (Fr (fun k => k = wr.heap.size) w1 (sets w1 wr.heap.size (7 * 3) (vA ⟨1, 1000000000, es⟩).toList)) := ⟨sets_fr (S := fun k => k = wr.heap.size) (.inl rfl) _ _ _ (Fr.refl _ _)⟩; have hM7 := Bx.mk (hM.out.fr hs7.out (by show ¬ mb = wr.heap.size; omega) (by show ¬ fb = wr.heap.size; omega)); have hF7 : Bx (Fr (MeS mb fb) w (sets w1 wr.heap.size (7 * 3) (vA ⟨1, 1000000000, es⟩).toList)) := ⟨sets_fr (S := MeS mb fb) (a := w) (b := wr.heap.size) (.inr hFs) (vA ⟨1, 1000000000, es⟩).toList w1 (7 * 3) hF.out⟩; have hE7 := Bx.mk (hE.out _ wr.heap.size hM7.out hL7.out (by omega) (by omega)); clear hf hL)
        | (go_at_call 23; refine hE7.out.mono ?_; clear hE7; rintro e w2 ⟨rfl, hM2, hf2⟩))
      go_ret
      exact ⟨rfl, hM2.fr (S := S0) ((Fr.refl S0 _).alloc _) (by simp) (by simp), (hF7.out.trans hf2).alloc _⟩
    · have hk28 : k < 28 := by simp at hd; omega
      have hX := Bx.mk (fun w => example_any k hk28 w)
      have hS : Bx (∀ w', Calls Tryz.prog 22 #[] w' fun e w'' => ∃ g, e = .returned (sl g 24 24) ∧ w'.heap.size ≤ g ∧ EL w'' g 24 smp ∧ Fr S0 w' w'') := ⟨fun w' => (sample_any w').mono (fun e w'' hh => ⟨_, hh.1, Nat.le_refl _, hh.2.1, hh.2.2⟩)⟩
      have hE : Bx (∀ w' eb, MEv w' mb fb → Grid w' eb 24 3 (fun c => vC (smp c)) → eb ≠ mb → eb ≠ fb → Calls Tryz.prog 23 #[pt mb, .string (exT k), sl eb 24 24] w' (fun e w'' => e = .returned (.tuple #[vV (exV k), I 0]) ∧ MEv w'' mb fb ∧ Fr (MeS mb fb) w' w'')) := ⟨fun w' eb h hG h1 h2 => exM k hk28 mb fb eb w' h hG h1 h2⟩
      generalize exT k = s at hX hE
      generalize exV k = x at hX hE
      go_wp2_with (first
        | (go_at_call 21; refine (hX.out _).mono ?_; clear hX; rintro e w1 ⟨rfl, hf⟩; have hM := Bx.mk ((hM.out.fr hf (by simp) (by simp)).fr (S := S0) ((Fr.refl S0 _).alloc (.cells (vA x) 47)) (by simp) (by simp)); have hv := Bx.mk (v_new w1 x 47 rfl); have hws := hf.size; have hF := Bx.mk ((hF.out.trans hf.up).alloc (.cells (vA x) 47)); clear hf)
        | (go_at_call 22; refine (hS.out _).mono ?_; clear hS; rintro e w2 ⟨g, rfl, hg, hL, hf⟩; have hL := Bx.mk hL; have hg : wr.heap.size < g := (by simp at hg; omega); have hM := Bx.mk (hM.out.fr hf (by simp) (by simp)); have hv := Bx.mk (hf.row0 hv.out); have hF := Bx.mk (hF.out.trans hf.up); clear hf)
        | (go_at_call 23; refine (hE.out _ g hM.out hL.out (by omega) (by omega)).mono ?_; clear hE; rintro e w3 ⟨rfl, hM3, hf⟩; have hM := Bx.mk (hM3.fr (S := S0) ((Fr.refl S0 _).alloc (.cells (vA x) 47)) (by simp) (by simp)); have hv := Bx.mk (hf.row hv.out (by rintro (e | e) <;> omega)); obtain ⟨q0, q1, q2, -, -, -⟩ := hv.out.v3; have hlv := hv.out.lt; have hF := Bx.mk ((hF.out.trans hf).alloc (.cells (vA x) 47)); clear hf hM3)
        | (go_at_call 24; refine (sameValue_refl x _).mono ?_; rintro e w4 ⟨rfl, hf⟩; have hM := Bx.mk (hM.out.fr hf (by simp) (by simp)); have hF := Bx.mk (hF.out.trans hf.up); clear hf))
      go_roundw
      case rel => exact ⟨k + 1, by omega, rfl, hM, hF⟩
      case measure => simp [intOf]; omega
end Go.Proofs.Qxb6500331aGreat
