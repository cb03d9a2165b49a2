import Derived.Test.Qxb6500326aGreatR17
namespace Go.Proofs.Qxb6500326aGreat
set_option maxRecDepth 100000
set_option linter.unusedVariables false
set_option linter.unusedSimpArgs false
open Go.RowKit Go.PlainAid

set_option maxHeartbeats 2000000 in
theorem cellV_long (V : VB) (B : FB) (s : ByteArray) (w : World) (h : EZ w V B) (v : Value) (hs : 40 < s.size) : Calls Tryz.prog 158 #[pt V.e, .string s, v] w (fun e w' => e = .returned (.tuple #[vV v0, I 1]) ∧ EZ w' V B ∧ Fr (VF V B) w w') := by
  have hZ0 := Bx.mk (h.fr0 ((Fr.refl S0 w).alloc (.cells #[I 0, I 0, .string es] 92)))
  have hF0 : Bx (Fr (VF V B) w (w.alloc (.cells #[I 0, I 0, .string es] 92))) := ⟨(Fr.refl _ _).alloc _⟩
  have hr0 := Bx.mk (v_zero w 92 rfl)
  have hnw := Bx.mk (h.ne (Nat.le_refl _))
  clear h
  have hsd : decide (40 < (s.size : Int)) = true := by simp; omega
  clear hs
  go_enter Tryz.func158, Tryz.ntmps158
  go_wp2
  exact ret_ve (p := 6) (q := 7) (g := w.heap.size) (x := v0) rfl rfl rfl hr0.out rfl ⟨rfl, hZ0.out, hF0.out⟩
set_option maxHeartbeats 2000000 in
theorem cellV_len (V : VB) (B : FB) (s : ByteArray) (w : World) (h : EZ w V B) (a : Option Addr) (n cp : Nat) (hs : s.size ≤ 40) (hn : n ≠ 24) : Calls Tryz.prog 158 #[pt V.e, .string s, .slice a n cp] w (fun e w' => e = .returned (.tuple #[vV v0, I 10]) ∧ EZ w' V B ∧ Fr (VF V B) w w') := by
  have hZ0 := Bx.mk (h.fr0 ((Fr.refl S0 w).alloc (.cells #[I 0, I 0, .string es] 92)))
  have hF0 : Bx (Fr (VF V B) w (w.alloc (.cells #[I 0, I 0, .string es] 92))) := ⟨(Fr.refl _ _).alloc _⟩
  have hr0 := Bx.mk (v_zero w 92 rfl)
  have hnw := Bx.mk (h.ne (Nat.le_refl _))
  clear h
  have hsd : decide (40 < (s.size : Int)) = false := by simp; omega
  have hnd : ((n : Int) != 24) = true := by simp; omega
  clear hs hn
  go_enter Tryz.func158, Tryz.ntmps158
  go_wp2
  exact ret_ve (p := 6) (q := 7) (g := w.heap.size) (x := v0) rfl rfl rfl hr0.out rfl ⟨rfl, hZ0.out, hF0.out⟩
set_option maxHeartbeats 4000000 in
theorem cellV_env (V : VB) (B : FB) (s : ByteArray) (w : World) (h : EZ w V B) (eb ec : Nat) (env : Nat → Vl) (hs : s.size ≤ 40) (hGr : Grid w eb 24 3 (fun c => vC (env c))) (heb : ¬ VF V B eb) (hbad : ¬ LwE env) : Calls Tryz.prog 158 #[pt V.e, .string s, sl eb 24 ec] w (fun e w' => e = .returned (.tuple #[vV v0, I 10]) ∧ EZ w' V B ∧ Fr (VF V B) w w') := by
  have hZ0 := Bx.mk (h.fr0 ((Fr.refl S0 w).alloc (.cells #[I 0, I 0, .string es] 92)))
  have hF0 : Bx (Fr (VF V B) w (w.alloc (.cells #[I 0, I 0, .string es] 92))) := ⟨(Fr.refl _ _).alloc _⟩
  have hr0 := Bx.mk (v_zero w 92 rfl)
  have hnw := Bx.mk (h.ne (Nat.le_refl _))
  clear h
  have hsd : decide (40 < (s.size : Int)) = false := by simp; omega
  have hGr := Bx.mk hGr
  have hbad := Bx.mk hbad
  go_enter Tryz.func158, Tryz.ntmps158
  go_wp2_with fail
  go_loopw [8] (fun c wr => ∃ k : Nat, k ≤ 24 ∧ c = I (k : Int) ∧ Bx (∀ j, j < k → lawB (env j) = true) ∧ Bx (Row wr w.heap.size 3 (vC v0)) ∧ Bx (EZ wr V B) ∧ Bx (Fr (VF V B) w wr) ∧ Bx (Grid wr eb 24 3 (fun c => vC (env c)))) (fun c _ => 24 - (intOf c).toNat)
  case atStart => exact ⟨0, by omega, rfl, ⟨fun j hj => by omega⟩, hr0, hZ0, hF0, ⟨hGr.out.of (S := S0) ((Fr.refl S0 _).alloc _) (by simp)⟩⟩
  case round =>
    clear hZ0 hF0 hr0 hGr
    obtain ⟨k, hk, rfl, hall, hZ, hM, hF, hG⟩ := hrel
    obtain ⟨q0, q1, q2, qq0, qq1, qq2⟩ := hZ.out.v3
    cases hlt : decide ((k : Int) < 24)
    · exfalso
      have hk24 : k = 24 := by simp at hlt; omega
      exact hbad.out (fun c hc => (lawB_iff _).1 (hall.out c (by omega)))
    · have hk24 : k < 24 := by simp at hlt; omega
      have g0 := hG.out.cell0 k hk24 (by omega)
      have g1 := hG.out.cell k 1 hk24 (by omega)
      have g2 := hG.out.cell k 2 hk24 (by omega)
      simp only [vC] at g0 g1 g2
      have hLf : Bx (∀ w, Calls Tryz.prog 168 #[vV (env k)] w fun e w' => e = .returned (.bool (lawB (env k))) ∧ Fr S0 w w') := ⟨fun w => lawful_any (env k) w⟩
      cases hl : lawB (env k)
      · rw [hl] at hLf
        go_wp2_with (first | (go_at_call 168; refine (hLf.out _).mono ?_; clear hLf; rintro e w1 ⟨rfl, hf⟩; have hZ := Bx.mk (hf.row0 hZ.out); have hM := Bx.mk (hM.out.fr0 hf); have hF := Bx.mk (hF.out.trans hf.up); have hG := Bx.mk (hG.out.of hf (by simp)); obtain ⟨q0, q1, q2, qq0, qq1, qq2⟩ := hZ.out.v3; clear hf))
        exact ret_ve (p := 6) (q := 7) (g := w.heap.size) (x := v0) rfl rfl rfl (v_sets hZ.out v0) rfl ⟨rfl, hM.out.fr (S := fun k => k = w.heap.size) (sets_fr (S := fun k => k = w.heap.size) (.inl rfl) (vA v0).toList w1 0 (Fr.refl _ _)) (fun k hk e => by subst e; exact hnw.out hk), sets_fr (S := VF V B) (a := w) (b := w.heap.size) (.inr (Nat.le_refl _)) (vA v0).toList w1 0 hF.out⟩
      · rw [hl] at hLf
        go_wp2_with (first | (go_at_call 168; refine (hLf.out _).mono ?_; clear hLf; rintro e w1 ⟨rfl, hf⟩; have hZ := Bx.mk (hf.row0 hZ.out); have hM := Bx.mk (hM.out.fr0 hf); have hF := Bx.mk (hF.out.trans hf.up); have hG := Bx.mk (hG.out.of hf (by simp)); obtain ⟨q0, q1, q2, qq0, qq1, qq2⟩ := hZ.out.v3; clear hf))
        go_roundw
        case rel => exact ⟨k + 1, by omega, rfl, ⟨fun j hj => by rcases Nat.lt_succ_iff_lt_or_eq.1 hj with h | h; exact hall.out j h; rw [h]; exact hl⟩, hZ, hM, hF, hG⟩
        case measure => simp [intOf]; omega
set_option maxHeartbeats 4000000 in
theorem cellV_plain (V : VB) (B : FB) (s : ByteArray) (w : World) (h : EZ w V B) (eb ec : Nat) (env : Nat → Vl) (hs : s.size ≤ 40) (hGr : Grid w eb 24 3 (fun c => vC (env c))) (heb : ¬ VF V B eb) (hok : LwE env) (hp : isForm s = false) : Calls Tryz.prog 158 #[pt V.e, .string s, sl eb 24 ec] w (fun e w' => e = .returned (.tuple #[vV (plainP s), I 0]) ∧ EZ w' V B ∧ Fr (VF V B) w w') := by
  have hZ0 := Bx.mk (h.fr0 ((Fr.refl S0 w).alloc (.cells #[I 0, I 0, .string es] 92)))
  have hF0 : Bx (Fr (VF V B) w (w.alloc (.cells #[I 0, I 0, .string es] 92))) := ⟨(Fr.refl _ _).alloc _⟩
  have hr0 := Bx.mk (v_zero w 92 rfl)
  have hnw := Bx.mk (h.ne (Nat.le_refl _))
  clear h
  have hsd : decide (40 < (s.size : Int)) = false := by simp; omega
  have hGr := Bx.mk hGr
  have hok := Bx.mk hok
  have hPl : Bx (∀ w, Calls Tryz.prog 169 #[.string s] w (VR w (plainP s))) := ⟨fun w => plain_any s w hs⟩
  go_enter Tryz.func158, Tryz.ntmps158
  go_wp2_with fail
  go_loopw [8] (fun c wr => ∃ k : Nat, k ≤ 24 ∧ c = I (k : Int) ∧ Bx (∀ j, j < k → lawB (env j) = true) ∧ Bx (Row wr w.heap.size 3 (vC v0)) ∧ Bx (EZ wr V B) ∧ Bx (Fr (VF V B) w wr) ∧ Bx (Grid wr eb 24 3 (fun c => vC (env c)))) (fun c _ => 24 - (intOf c).toNat)
  case atStart => exact ⟨0, by omega, rfl, ⟨fun j hj => by omega⟩, hr0, hZ0, hF0, ⟨hGr.out.of (S := S0) ((Fr.refl S0 _).alloc _) (by simp)⟩⟩
  case round =>
    clear hZ0 hF0 hr0 hGr
    obtain ⟨k, hk, rfl, hall, hZ, hM, hF, hG⟩ := hrel
    obtain ⟨q0, q1, q2, qq0, qq1, qq2⟩ := hZ.out.v3
    cases hlt : decide ((k : Int) < 24)
    · clear hall hk
      cases he : (s.toList == [])
      · have h61 : (bt s 0 != 61) = true := by simp only [isForm, he] at hp; simpa [bne] using hp
        have hpos := size_pos he
        have hb := get_bt s 0 hpos
        clear hp
        go_wp2_with (first | (go_at_call 169; refine (hPl.out _).mono ?_; rintro e w1 ⟨rfl, hf⟩; have hZ2 := Bx.mk (hf.row0 hZ.out); have hM2 := Bx.mk (hM.out.fr0 hf); have hF2 := Bx.mk (hF.out.trans hf.up); obtain ⟨q0, q1, q2, qq0, qq1, qq2⟩ := hZ2.out.v3; clear hf))
        exact ret_ve (p := 6) (q := 7) (g := w.heap.size) (x := (plainP s)) rfl rfl rfl (v_sets hZ2.out (plainP s)) rfl ⟨rfl, hM2.out.fr (S := fun k => k = w.heap.size) (sets_fr (S := fun k => k = w.heap.size) (.inl rfl) (vA (plainP s)).toList w1 0 (Fr.refl _ _)) (fun k hk e => by subst e; exact hnw.out hk), sets_fr (S := VF V B) (a := w) (b := w.heap.size) (.inr (Nat.le_refl _)) (vA (plainP s)).toList w1 0 hF2.out⟩
      · go_wp2_with (first | (go_at_call 169; refine (hPl.out _).mono ?_; rintro e w1 ⟨rfl, hf⟩; have hZ2 := Bx.mk (hf.row0 hZ.out); have hM2 := Bx.mk (hM.out.fr0 hf); have hF2 := Bx.mk (hF.out.trans hf.up); obtain ⟨q0, q1, q2, qq0, qq1, qq2⟩ := hZ2.out.v3; clear hf))
        exact ret_ve (p := 6) (q := 7) (g := w.heap.size) (x := (plainP s)) rfl rfl rfl (v_sets hZ2.out (plainP s)) rfl ⟨rfl, hM2.out.fr (S := fun k => k = w.heap.size) (sets_fr (S := fun k => k = w.heap.size) (.inl rfl) (vA (plainP s)).toList w1 0 (Fr.refl _ _)) (fun k hk e => by subst e; exact hnw.out hk), sets_fr (S := VF V B) (a := w) (b := w.heap.size) (.inr (Nat.le_refl _)) (vA (plainP s)).toList w1 0 hF2.out⟩
    · have hk24 : k < 24 := by simp at hlt; omega
      have g0 := hG.out.cell0 k hk24 (by omega)
      have g1 := hG.out.cell k 1 hk24 (by omega)
      have g2 := hG.out.cell k 2 hk24 (by omega)
      simp only [vC] at g0 g1 g2
      have hLf : Bx (∀ w, Calls Tryz.prog 168 #[vV (env k)] w fun e w' => e = .returned (.bool (lawB (env k))) ∧ Fr S0 w w') := ⟨fun w => lawful_any (env k) w⟩
      rw [(lawB_iff _).2 (hok.out k hk24)] at hLf
      go_wp2_with (first | (go_at_call 168; refine (hLf.out _).mono ?_; clear hLf; rintro e w1 ⟨rfl, hf⟩; have hZ := Bx.mk (hf.row0 hZ.out); have hM := Bx.mk (hM.out.fr0 hf); have hF := Bx.mk (hF.out.trans hf.up); have hG := Bx.mk (hG.out.of hf (by simp)); obtain ⟨q0, q1, q2, qq0, qq1, qq2⟩ := hZ.out.v3; clear hf))
      go_roundw
      case rel => exact ⟨k + 1, by omega, rfl, ⟨fun j hj => (lawB_iff _).2 (hok.out j (by omega))⟩, hZ, hM, hF, hG⟩
      case measure => simp [intOf]; omega
end Go.Proofs.Qxb6500326aGreat
