import Derived.Test.Qxb6500331aGreatE7
namespace Go.Proofs.Qxb6500331aGreat
set_option maxRecDepth 100000
set_option linter.unusedVariables false
set_option linter.unusedSimpArgs false
open Go.RowKit Go.PlainAid

set_option maxHeartbeats 8000000 in
theorem playCell_any (V : VB) (B : FB) (mb fb d : Nat) (Z : Nat → Prop) (s : ByteArray) (rb n : Nat) (env : Nat → Vl) (qt : Bool) (w : World) (h : WS w V B mb fb d Z) (hE : EL w rb n env) (hrb : ¬ UD V B mb fb d rb) (hn2 : n ≤ 100) :
    Calls Tryz.prog 17 #[pt V.e, pt mb, blV B.f, pt d, .string s, sl rb n n, .bool qt] w (SP w V B mb fb d Z) := by
  have hb := Bx.mk (bl_new w B.f)
  have hfr : Bx (Fr (UD V B mb fb d) w (w.alloc (.cells #[pt B.f] 29))) := ⟨(Fr.refl _ _).alloc _⟩
  have hne : Bx (∀ k, w.heap.size ≤ k → ¬ UD V B mb fb d k) := ⟨fun k hk => h.ne hk⟩
  have hW := h.fr0 ((Fr.refl S0 w).alloc (.cells #[pt B.f] 29))
  have hC := Bx.mk (sameCell_any V B mb fb d Z s rb n env _ hW (hE.of (S := S0) ((Fr.refl S0 w).alloc (.cells #[pt B.f] 29)) (by simp)) hrb hn2)
  by_cases hgood : ¬ 40 < s.size ∧ n = 24 ∧ LwE env
  · obtain ⟨h1, h2, h3⟩ := hgood
    subst h2
    have hcp : cellP s 24 env = (mf s env, 0) := by unfold cellP; rw [if_neg h1, if_pos ⟨rfl, h3⟩]
    rw [hcp] at hC
    have hL : Bx (∀ w, Calls Tryz.prog 31 #[vV (mf s env)] w fun e w' => e = .returned (.bool true) ∧ Fr S0 w w') := ⟨fun w => by
      have := lawful_any (mf s env) w
      rw [(lawB_iff _).2 ((mf_mean (by omega)).lw env h3)] at this
      exact this⟩
    have hO : Bx (∀ w' Z', WS w' V B mb fb d Z' → Fr (UD V B mb fb d) w w' → Calls Tryz.prog 32 #[pt V.e, pt mb, blV B.f, pt d, .string s, sl rb 24 24, vV (mf s env)] w' (SP w' V B mb fb d Z')) := ⟨fun w' Z' h f => onlyReads_any V B mb fb d Z' s rb env w' h (hE.of f hrb) hrb (by omega) h3⟩
    generalize mf s env = x at hC hL hO
    clear h hE hW hcp h1 h3
    cases qt
    all_goals go_enter Tryz.func17, Tryz.ntmps17
    all_goals go_wp2_with (first
      | (go_at_call 30; refine hC.out.mono ?_; clear hC; rintro e w3 ⟨rfl, ⟨Z', hW', hZ'⟩, hf⟩; have hv3 := Bx.mk (v_new w3 x 47 rfl); have hb := Bx.mk (hf.row hb.out (hne.out _ (Nat.le_refl _))); have b0 := hb.out.cell 0 (by omega); have hlb := hb.out.lt; have hb := Bx.mk (hb.out.alloc (.cells (vA x) 47)); have hW' := Bx.mk (hW'.fr0 ((Fr.refl S0 _).alloc (.cells (vA x) 47))); have hfr' := Bx.mk ((hfr.out.trans hf).alloc (.cells (vA x) 47)); have hZ' : Bx (∀ k, Z' k → Z k ∨ w.heap.size ≤ k) := ⟨fun k hk => (hZ' k hk).elim .inl (fun e => .inr (Nat.le_trans (Nat.le_of_lt (by simp)) e))⟩; clear hf)
      | (go_at_call 31; refine (hL.out _).mono ?_; clear hL; rintro e w4 ⟨rfl, hf⟩; have hb := Bx.mk (hf.row0 hb.out); have b0 := hb.out.cell 0 (by omega); have hv3 := Bx.mk (hf.row0 hv3.out); obtain ⟨q0, q1, q2, -, -, -⟩ := hv3.out.v3; have hW' := Bx.mk (hW'.out.fr0 hf); have hfr' := Bx.mk (hfr'.out.trans hf.up); clear hf)
      | (go_at_call 32; refine (hO.out _ Z' hW'.out hfr'.out).mono ?_; clear hO; rintro e w5 ⟨rfl, ⟨Z2, hW2, hZ2⟩, hf⟩))
    all_goals go_ret
    · exact ⟨rfl, ⟨Z2, hW2, fun k hk => (hZ2 k hk).elim (hZ'.out k) (fun e => .inr (Nat.le_trans hfr'.out.size e))⟩, hfr'.out.trans hf⟩
    · exact ⟨rfl, ⟨Z', hW'.out, hZ'.out⟩, hfr'.out⟩
  · obtain ⟨er, her, hne0⟩ : ∃ er : Int, cellP s n env = (v0, er) ∧ (er != 0) = true := by
      unfold cellP
      by_cases h1 : 40 < s.size
      · rw [if_pos h1]; exact ⟨1, rfl, rfl⟩
      · rw [if_neg h1, if_neg (fun e => hgood ⟨h1, e.1, e.2⟩)]; exact ⟨10, rfl, rfl⟩
    rw [her] at hC
    clear h hE hW her hgood
    go_enter Tryz.func17, Tryz.ntmps17
    go_wp2_with (first
      | (go_at_call 30; refine hC.out.mono ?_; clear hC; rintro e w3 ⟨rfl, ⟨Z', hW', hZ'⟩, hf⟩; have hW' := Bx.mk (hW'.fr0 ((Fr.refl S0 _).alloc (.cells (vA v0) 47))); have hfr' := Bx.mk ((hfr.out.trans hf).alloc (.cells (vA v0) 47)); have hZ' : Bx (∀ k, Z' k → Z k ∨ w.heap.size ≤ k) := ⟨fun k hk => (hZ' k hk).elim .inl (fun e => .inr (Nat.le_trans (Nat.le_of_lt (by simp)) e))⟩; clear hf))
    go_ret
    exact ⟨rfl, ⟨Z', hW'.out, hZ'.out⟩, hfr'.out⟩
end Go.Proofs.Qxb6500331aGreat
