import Derived.Test.Qxb6500326aGreatD3
namespace Go.Proofs.Qxb6500326aGreat
set_option maxRecDepth 100000
set_option linter.unusedVariables false
set_option linter.unusedSimpArgs false
open Go.RowKit Go.PlainAid

set_option maxHeartbeats 2000000 in
theorem cellM_long (mb fb : Nat) (s : ByteArray) (v : Value) (w : World) (hm : MEv w mb fb) (hs : 40 < s.size) : Calls Tryz.prog 141 #[pt mb, .string s, v] w (fun e w' => e = .returned (.tuple #[vV v0, I 1]) ∧ MEv w' mb fb ∧ Fr (MeS mb fb) w w') := by
  obtain ⟨⟨c, r, hrow⟩, hmf, hne⟩ := hm
  have c0 := hrow.cell 0 (by omega)
  have c1 := hrow.cell 1 (by omega)
  have z1 := hrow.frozen 1
  simp only [meC] at c0 c1
  have hlt := hrow.lt
  have hme : ∀ v, Row (w.setCell ⟨mb, 1, none⟩ (I v)) mb 3 (meC fb v r) := fun v => (hrow.set 1 (I v)).congr (by intro i hi; rcases i with _ | _ | _ | i <;> first | rfl | omega)
  have hf0 : ∀ v, Fr (MeS mb fb) w (w.setCell ⟨mb, 1, none⟩ (I v)) := fun v => (Fr.refl (MeS mb fb) w).setCell (p := ⟨mb, 1, none⟩) (.inl (.inl rfl)) _
  have hmf0 : ∀ v, MF (w.setCell ⟨mb, 1, none⟩ (I v)) fb := fun v => hmf.fr (S := fun k => k = mb) ((Fr.refl (fun k => k = mb) w).setCell (p := ⟨mb, 1, none⟩) (.inl rfl) _) (fun e => hne e.symm)
  have hme := Bx.mk hme
  have hf0 := Bx.mk hf0
  have hmf0 := Bx.mk hmf0
  have hfl : fb < w.heap.size := by obtain ⟨_, _, _, h⟩ := hmf; exact h.lt
  clear hrow hmf
  have hsd : decide (40 < (s.size : Int)) = true := by simp; omega
  clear hs
  go_enter Tryz.func141, Tryz.ntmps141
  go_wp2
  refine ret_ve (p := 6) (q := 7) (g := w.heap.size) (x := v0) rfl rfl rfl (v_zero _ 92 (by simp)) rfl ⟨rfl, ⟨⟨_, r, (hme.out _).alloc _⟩, (hmf0.out _).fr (S := S0) ((Fr.refl S0 _).alloc _) (by simp), hne⟩, (hf0.out _).alloc _⟩
set_option maxHeartbeats 2000000 in
theorem cellM_len (mb fb : Nat) (s : ByteArray) (a : Option Addr) (n cp : Nat) (w : World) (hm : MEv w mb fb) (hs : s.size ≤ 40) (hn : n ≠ 24) : Calls Tryz.prog 141 #[pt mb, .string s, .slice a n cp] w (fun e w' => e = .returned (.tuple #[vV v0, I 10]) ∧ MEv w' mb fb ∧ Fr (MeS mb fb) w w') := by
  obtain ⟨⟨c, r, hrow⟩, hmf, hne⟩ := hm
  have c0 := hrow.cell 0 (by omega)
  have c1 := hrow.cell 1 (by omega)
  have z1 := hrow.frozen 1
  simp only [meC] at c0 c1
  have hlt := hrow.lt
  have hme : ∀ v, Row (w.setCell ⟨mb, 1, none⟩ (I v)) mb 3 (meC fb v r) := fun v => (hrow.set 1 (I v)).congr (by intro i hi; rcases i with _ | _ | _ | i <;> first | rfl | omega)
  have hf0 : ∀ v, Fr (MeS mb fb) w (w.setCell ⟨mb, 1, none⟩ (I v)) := fun v => (Fr.refl (MeS mb fb) w).setCell (p := ⟨mb, 1, none⟩) (.inl (.inl rfl)) _
  have hmf0 : ∀ v, MF (w.setCell ⟨mb, 1, none⟩ (I v)) fb := fun v => hmf.fr (S := fun k => k = mb) ((Fr.refl (fun k => k = mb) w).setCell (p := ⟨mb, 1, none⟩) (.inl rfl) _) (fun e => hne e.symm)
  have hme := Bx.mk hme
  have hf0 := Bx.mk hf0
  have hmf0 := Bx.mk hmf0
  have hfl : fb < w.heap.size := by obtain ⟨_, _, _, h⟩ := hmf; exact h.lt
  clear hrow hmf
  have hsd : decide (40 < (s.size : Int)) = false := by simp; omega
  have hnd : ((n : Int) != 24) = true := by simp; omega
  clear hs hn
  go_enter Tryz.func141, Tryz.ntmps141
  go_wp2
  refine ret_ve (p := 6) (q := 7) (g := w.heap.size) (x := v0) rfl rfl rfl (v_zero _ 92 (by simp)) rfl ⟨rfl, ⟨⟨_, r, (hme.out _).alloc _⟩, (hmf0.out _).fr (S := S0) ((Fr.refl S0 _).alloc _) (by simp), hne⟩, (hf0.out _).alloc _⟩
set_option maxHeartbeats 4000000 in
theorem cellM_env (mb fb eb ec : Nat) (env : Nat → Vl) (s : ByteArray) (w : World) (hm : MEv w mb fb) (hs : s.size ≤ 40) (hGr : Grid w eb 24 3 (fun c => vC (env c))) (hem : eb ≠ mb) (hef : eb ≠ fb) (hbad : ¬ LwE env) : Calls Tryz.prog 141 #[pt mb, .string s, sl eb 24 ec] w (fun e w' => e = .returned (.tuple #[vV v0, I 10]) ∧ MEv w' mb fb ∧ Fr (MeS mb fb) w w') := by
  obtain ⟨⟨c, r, hrow⟩, hmf, hne⟩ := hm
  have c0 := hrow.cell 0 (by omega)
  have c1 := hrow.cell 1 (by omega)
  have z1 := hrow.frozen 1
  simp only [meC] at c0 c1
  have hlt := hrow.lt
  have hme : ∀ v, Row (w.setCell ⟨mb, 1, none⟩ (I v)) mb 3 (meC fb v r) := fun v => (hrow.set 1 (I v)).congr (by intro i hi; rcases i with _ | _ | _ | i <;> first | rfl | omega)
  have hf0 : ∀ v, Fr (MeS mb fb) w (w.setCell ⟨mb, 1, none⟩ (I v)) := fun v => (Fr.refl (MeS mb fb) w).setCell (p := ⟨mb, 1, none⟩) (.inl (.inl rfl)) _
  have hmf0 : ∀ v, MF (w.setCell ⟨mb, 1, none⟩ (I v)) fb := fun v => hmf.fr (S := fun k => k = mb) ((Fr.refl (fun k => k = mb) w).setCell (p := ⟨mb, 1, none⟩) (.inl rfl) _) (fun e => hne e.symm)
  have hme := Bx.mk hme
  have hf0 := Bx.mk hf0
  have hmf0 := Bx.mk hmf0
  have hfl : fb < w.heap.size := by obtain ⟨_, _, _, h⟩ := hmf; exact h.lt
  clear hrow hmf
  have hsd : decide (40 < (s.size : Int)) = false := by simp; omega
  have hGr := Bx.mk hGr
  have hbad := Bx.mk hbad
  go_enter Tryz.func141, Tryz.ntmps141
  go_wp2_with fail
  go_loopw [8] (fun c wr => ∃ k : Nat, k ≤ 24 ∧ c = I (k : Int) ∧ Bx (∀ j, j < k → lawB (env j) = true) ∧ Bx (Row wr w.heap.size 3 (vC v0)) ∧ Bx (MEv wr mb fb) ∧ Bx (Fr (MeS mb fb) w wr) ∧ Bx (Grid wr eb 24 3 (fun c => vC (env c)))) (fun c _ => 24 - (intOf c).toNat)
  case atStart => exact ⟨0, by omega, rfl, ⟨fun j hj => by omega⟩, ⟨v_zero _ 92 (by simp)⟩, ⟨⟨⟨_, r, (hme.out _).alloc _⟩, (hmf0.out _).fr (S := S0) ((Fr.refl S0 _).alloc _) (by simp), hne⟩⟩, ⟨(hf0.out _).alloc _⟩, ⟨(hGr.out.of (S := fun k => k = mb) ((Fr.refl (fun k => k = mb) w).setCell (p := ⟨mb, 1, none⟩) (.inl rfl) _) (fun e => hem e)).of (S := S0) ((Fr.refl S0 _).alloc _) (by simp)⟩⟩
  case round =>
    clear hme hf0 hmf0 hGr c0 c1 z1
    obtain ⟨k, hk, rfl, hall, hZ, hM, hF, hG⟩ := hrel
    obtain ⟨q0, q1, q2, qq0, qq1, qq2⟩ := hZ.out.v3
    cases hlt : decide ((k : Int) < 24)
    · exfalso
      have hk24 : k = 24 := by simp at hlt; omega
      exact hbad.out (fun c hc => (lawB_iff _).1 (hall.out c (by omega)))
    · have hk24 : k < 24 := by simp at hlt; omega
      have g0 := hG.out.cell0 k hk24 (by omega)
      have g1 := hG.out.cell k 1 hk24 (by omega)
      have g2 := hG.out.cell k 2 hk24 (by omega)
      simp only [vC] at g0 g1 g2
      have hLf : Bx (∀ w, Calls Tryz.prog 168 #[vV (env k)] w fun e w' => e = .returned (.bool (lawB (env k))) ∧ Fr S0 w w') := ⟨fun w => lawful_any (env k) w⟩
      cases hl : lawB (env k)
      · rw [hl] at hLf
        go_wp2_with (first | (go_at_call 168; refine (hLf.out _).mono ?_; clear hLf; rintro e w1 ⟨rfl, hf⟩; have hZ := Bx.mk (hf.row0 hZ.out); have hM := Bx.mk (hM.out.fr hf (by simp) (by simp)); have hF := Bx.mk (hF.out.trans hf.up); have hG := Bx.mk (hG.out.of hf (by simp)); obtain ⟨q0, q1, q2, qq0, qq1, qq2⟩ := hZ.out.v3; clear hf))
        refine ret_ve (p := 6) (q := 7) (g := w.heap.size) (x := v0) rfl rfl rfl (v_sets hZ.out v0) rfl ⟨rfl, hM.out.fr (S := fun k => k = w.heap.size) (sets_fr (S := fun k => k = w.heap.size) (.inl rfl) (vA v0).toList w1 0 (Fr.refl _ _)) (by show ¬ mb = w.heap.size; omega) (by show ¬ fb = w.heap.size; omega), sets_fr (S := MeS mb fb) (a := w) (b := w.heap.size) (.inr (Nat.le_refl _)) (vA v0).toList w1 0 hF.out⟩
      · rw [hl] at hLf
        go_wp2_with (first | (go_at_call 168; refine (hLf.out _).mono ?_; clear hLf; rintro e w1 ⟨rfl, hf⟩; have hZ := Bx.mk (hf.row0 hZ.out); have hM := Bx.mk (hM.out.fr hf (by simp) (by simp)); have hF := Bx.mk (hF.out.trans hf.up); have hG := Bx.mk (hG.out.of hf (by simp)); obtain ⟨q0, q1, q2, qq0, qq1, qq2⟩ := hZ.out.v3; clear hf))
        go_roundw
        case rel => exact ⟨k + 1, by omega, rfl, ⟨fun j hj => by rcases Nat.lt_succ_iff_lt_or_eq.1 hj with h | h; exact hall.out j h; rw [h]; exact hl⟩, hZ, hM, hF, hG⟩
        case measure => simp [intOf]; omega
end Go.Proofs.Qxb6500326aGreat
