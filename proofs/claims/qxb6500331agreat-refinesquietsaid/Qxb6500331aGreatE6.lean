import Derived.Test.Qxb6500331aGreatE5
namespace Go.Proofs.Qxb6500331aGreat
set_option maxRecDepth 100000
set_option linter.unusedVariables false
set_option linter.unusedSimpArgs false
open Go.RowKit Go.PlainAid

set_option maxHeartbeats 8000000 in
theorem sameCell_nil (V : VB) (B : FB) (mb fb d : Nat) (Z : Nat → Prop) (s : ByteArray) (rb : Nat) (env : Nat → Vl) (w : World) (h : WS w V B mb fb d Z) :
    Calls Tryz.prog 30 #[pt V.e, pt mb, blV B.f, pt d, .string s, sl rb 0 0] w (SC w V B mb fb d Z (cellP s 0 env).1 (cellP s 0 env).2) := by
  have hb := Bx.mk ((bl_new w B.f).alloc (.cells #[I 0, I 0, .string es] 47))
  have hz := Bx.mk (v_zero (w.alloc (.cells #[pt B.f] 29)) 47 (H := w.heap.size + 1) (by simp))
  have hfr : Bx (Fr (UD V B mb fb d) w ((w.alloc (.cells #[pt B.f] 29)).alloc (.cells #[I 0, I 0, .string es] 47))) := ⟨((Fr.refl _ _).alloc _).alloc _⟩
  have hne : Bx (∀ k, w.heap.size ≤ k → ¬ UD V B mb fb d k) := ⟨fun k hk => h.ne hk⟩
  have hzl := Bx.mk h.zl
  have hW := Bx.mk (h.fr0 (((Fr.refl S0 w).alloc (.cells #[pt B.f] 29)).alloc (.cells #[I 0, I 0, .string es] 47)))
  obtain ⟨r, hr⟩ : ∃ r, Bx (cellP s 0 env = r) := ⟨_, ⟨rfl⟩⟩
  have hV : Bx (∀ w', EZ w' V B → Calls Tryz.prog 41 #[pt V.e, .string s, .slice none 0 0] w' fun e w'' => e = .returned (.tuple #[vV r.1, I r.2]) ∧ EZ w'' V B ∧ Fr (VF V B) w' w'') := ⟨fun w' h => by
    have := cellV_any V B s 0 0 env w' h (fun e => absurd rfl e)
    rw [hr.out] at this
    exact this⟩
  have hM : Bx (∀ w', MEv w' mb fb → Calls Tryz.prog 23 #[pt mb, .string s, .slice none 0 0] w' fun e w'' => e = .returned (.tuple #[vV r.1, I r.2]) ∧ MEv w'' mb fb ∧ Fr (MeS mb fb) w' w'') := ⟨fun w' h => by
    have := cellM_any mb fb s 0 0 env w' h (fun e => absurd rfl e)
    rw [hr.out] at this
    exact this⟩
  rw [hr.out]
  obtain ⟨x, er⟩ := r
  clear h hr
  go_enter Tryz.func30, Tryz.ntmps30
  go_wp2_with (first
    | (go_at_call 40; refine (copyVals_nil _ _ _).mono ?_; rintro e w1 ⟨rfl, rfl⟩)
    | (go_at_call 27; refine (mark_any B.f _).mono ?_; rintro e w3 ⟨rfl, hf⟩; have hb := Bx.mk (hf.row0 hb.out); have b0 := hb.out.cell 0 (by omega); have hz := Bx.mk (hf.row0 hz.out); have hfr := Bx.mk (hfr.out.trans hf.up); have hW := Bx.mk (hW.out.fr0 hf); clear hf)
    | (go_at_call 41; refine (hV.out _ hW.out.ez).mono ?_; clear hV; rintro e w4 ⟨rfl, hzz, hf⟩; have hb := Bx.mk ((hf.row hb.out (fun e => hne.out _ (Nat.le_refl _) (.inl e))).alloc (.cells (vA x) 47)); have b0 := hb.out.cell 0 (by omega); have hz := Bx.mk ((hf.row hz.out (fun e => hne.out _ (by omega) (.inl e))).alloc (.cells (vA x) 47)); have hW := Bx.mk ((hW.out.stepV hzz hf).fr0 ((Fr.refl S0 _).alloc (.cells (vA x) 47))); have hv := Bx.mk (v_new w4 x 47 rfl); have hsz4 : w.heap.size ≤ w4.heap.size := (Nat.le_trans hfr.out.size hf.size); have hfr := Bx.mk ((hfr.out.trans hf.ud).alloc (.cells (vA x) 47)); obtain ⟨vv0, vv1, vv2, -, -, -⟩ := hv.out.v3; clear hf hzz)
    | (go_at_call 29; refine (scribbled_any d Z _ hW.out.dk).mono ?_; rintro e w5 ⟨rfl, rfl⟩)
    | (go_at_call 34; refine (due_any _ _ _).mono ?_; rintro e w6 ⟨⟨dv, rfl⟩, rfl⟩)
    | (go_at_call 12; refine (asks_any B.f _ _ _).mono ?_; rintro e w7 ⟨rfl, hf⟩; have hz := Bx.mk (hf.row0 hz.out); have hv := Bx.mk (hf.row0 hv.out); obtain ⟨vv0, vv1, vv2, -, -, -⟩ := hv.out.v3; have hfr := Bx.mk (hfr.out.trans hf.up); have hW := Bx.mk (hW.out.fr0 hf); clear hf)
    | (go_at_call 23; refine (hM.out _ hW.out.me).mono ?_; clear hM; rintro e w8 ⟨rfl, hzz, hf⟩; have hz := Bx.mk ((hf.row hz.out (fun e => hne.out _ (by omega) (.inr (.inl e)))).alloc (.cells (vA x) 47)); have hvr := hf.row hv.out (fun e => hne.out _ hsz4 (.inr (.inl e))); obtain ⟨vv0, vv1, vv2, -, -, -⟩ := hvr.v3; have hlv := hvr.lt; have hv := Bx.mk (hvr.alloc (.cells (vA x) 47)); have hW := Bx.mk ((hW.out.stepM hzz hf).fr0 ((Fr.refl S0 _).alloc (.cells (vA x) 47))); have hfr := Bx.mk ((hfr.out.trans hf.ud2).alloc (.cells (vA x) 47)); clear hf hzz hvr)
    | (go_at_call 24; refine (sameValue_refl x _).mono ?_; rintro e w9 ⟨rfl, hf⟩; have hz := Bx.mk (hf.row0 hz.out); have hv := Bx.mk (hf.row0 hv.out); obtain ⟨vv0, vv1, vv2, -, -, -⟩ := hv.out.v3; obtain ⟨q0, q1, q2, qq0, qq1, qq2⟩ := hz.out.v3; have hfr := Bx.mk (hfr.out.trans hf.up); have hW := Bx.mk (hW.out.fr0 hf); clear hf))
  go_loopw [22] (fun i wr => i = I 0 ∧ w9 = wr) (fun _ _ => 0)
  case atStart => exact ⟨rfl, rfl⟩
  case round =>
    obtain ⟨rfl, rfl⟩ := hrel
    go_wp2
    have hSx : Fr (fun j => j = w.heap.size + 1) w9 (sets w9 (w.heap.size + 1) 0 (vA x).toList) := sets_fr (S := fun j => j = w.heap.size + 1) (.inl rfl) _ _ _ (Fr.refl _ _)
    refine ret_vee (p := 12) (q := 13) (r := 14) (g := w.heap.size + 1) (x := x) rfl rfl rfl rfl (v_sets hz.out x) rfl ⟨rfl, ⟨Z, hW.out.fr hSx (fun j hj e => by subst e; exact hne.out _ (by omega) hj) (fun j hj e => by have e : j = w.heap.size + 1 := e; have := hzl.out j hj; omega), fun k hk => .inl hk⟩, sets_fr (S := UD V B mb fb d) (a := w) (b := w.heap.size + 1) (.inr (by omega)) (vA x).toList _ 0 hfr.out⟩
theorem sameCell_any (V : VB) (B : FB) (mb fb d : Nat) (Z : Nat → Prop) (s : ByteArray) (rb n : Nat) (env : Nat → Vl) (w : World) (h : WS w V B mb fb d Z) (hE : EL w rb n env) (hrb : ¬ UD V B mb fb d rb) (hn2 : n ≤ 100) :
    Calls Tryz.prog 30 #[pt V.e, pt mb, blV B.f, pt d, .string s, sl rb n n] w (SC w V B mb fb d Z (cellP s n env).1 (cellP s n env).2) := by
  rcases Nat.eq_zero_or_pos n with e | e
  · subst e; exact sameCell_nil V B mb fb d Z s rb env w h
  · exact sameCell_pos V B mb fb d Z s rb n env w h hE hrb e hn2
end Go.Proofs.Qxb6500331aGreat
