import Derived.Test.Qxb6500331aGreatE6
namespace Go.Proofs.Qxb6500331aGreat
set_option maxRecDepth 100000
set_option linter.unusedVariables false
set_option linter.unusedSimpArgs false
open Go.RowKit Go.PlainAid

def other (r : BitVec 32) (env : Nat → Vl) : Nat → Vl := fun c => if r.getLsbD c = true then env c else vErr 3
theorem other_lw {r : BitVec 32} {env : Nat → Vl} (h : LwE env) : LwE (other r env) := by
  intro c hc; unfold other; split
  · exact h c hc
  · exact .err _ (by decide) (by decide)
theorem other_agree (r : BitVec 32) (env : Nat → Vl) : AgrE r env (other r env) := by
  intro j hj; unfold other; rw [if_pos hj]
/-- What a step on both sides leaves. -/
def SP (w : World) (V : VB) (B : FB) (mb fb d : Nat) (Z : Nat → Prop) : Ending → World → Prop := fun en w' => en = .returned (.bool true) ∧ (∃ Z' : Nat → Prop, WS w' V B mb fb d Z' ∧ ∀ k, Z' k → Z k ∨ w.heap.size ≤ k) ∧ Fr (UD V B mb fb d) w w'
attribute [local go_sem] bv_bit
set_option maxHeartbeats 16000000 in
theorem onlyReads_any (V : VB) (B : FB) (mb fb d : Nat) (Z : Nat → Prop) (s : ByteArray) (rb : Nat) (env : Nat → Vl) (w : World) (h : WS w V B mb fb d Z) (hE : EL w rb 24 env) (hrb : ¬ UD V B mb fb d rb) (hs : s.size ≤ 40) (hok : LwE env) :
    Calls Tryz.prog 32 #[pt V.e, pt mb, blV B.f, pt d, .string s, sl rb 24 24, vV (mf s env)] w (SP w V B mb fb d Z) := by
  have hb := Bx.mk ((bl_new w B.f).alloc (.cells (vA (mf s env)) 47))
  have hv := Bx.mk (v_new (w.alloc (.cells #[pt B.f] 29)) (mf s env) 47 (H := w.heap.size + 1) (by simp))
  have hfr : Bx (Fr (UD V B mb fb d) w ((w.alloc (.cells #[pt B.f] 29)).alloc (.cells (vA (mf s env)) 47))) := ⟨((Fr.refl _ _).alloc _).alloc _⟩
  have hne : Bx (∀ k, w.heap.size ≤ k → ¬ UD V B mb fb d k) := ⟨fun k hk => h.ne hk⟩
  have hzl := Bx.mk h.zl
  have hW := Bx.mk (h.fr0 (((Fr.refl S0 w).alloc (.cells #[pt B.f] 29)).alloc (.cells (vA (mf s env)) 47)))
  obtain ⟨r, hr⟩ : ∃ r, Bx ((readsP s).1 = r) := ⟨_, ⟨rfl⟩⟩
  have hR : Bx (∀ w', WS w' V B mb fb d Z → Calls Tryz.prog 18 #[pt V.e, pt mb, blV B.f, pt d, .string s] w' fun e w'' => e = .returned (.tuple #[U r, .bool true]) ∧ WS w'' V B mb fb d Z ∧ Fr (UD V B mb fb d) w' w'') := ⟨fun w' h => hr.out ▸ sameReads_any V B mb fb d Z s w' h⟩
  have hCp : Bx (∀ w', Fr (UD V B mb fb d) w w' → Calls Tryz.prog 40 #[sl rb 24 24] w' fun e w'' => ∃ g, e = .returned (sl g 24 24) ∧ w'.heap.size ≤ g ∧ EL w'' g 24 env ∧ Fr S0 w' w'') := ⟨fun w' f => (copyVals_any rb 24 24 env w' (hE.of f hrb) (by omega) (by omega)).mono (fun e w'' hh => ⟨_, hh.1, Nat.le_refl _, hh.2.1, hh.2.2⟩)⟩
  have hmean := mf_mean hs
  have heq : Bx (cellP s 24 (other r env) = (mf s env, 0)) := ⟨by
    unfold cellP
    rw [if_neg (by omega), if_pos ⟨rfl, other_lw hok⟩, ← hmean.agree env (other r env) (by rw [hr.out]; exact other_agree r env)]⟩
  have hSC : Bx (∀ w' g, WS w' V B mb fb d Z → EL w' g 24 (other r env) → ¬ UD V B mb fb d g → Calls Tryz.prog 30 #[pt V.e, pt mb, blV B.f, pt d, .string s, sl g 24 24] w' (SC w' V B mb fb d Z (mf s env) 0)) := ⟨fun w' g h hE hg => by
    have := sameCell_any V B mb fb d Z s g 24 (other r env) w' h hE hg (by omega)
    rw [heq.out] at this
    exact this⟩
  generalize mf s env = x at hb hv hfr hW hSC heq ⊢
  clear h hE hrb hmean hok heq hr
  go_enter Tryz.func32, Tryz.ntmps32
  go_wp2_with (first
    | (go_at_call 18; refine (hR.out _ hW.out).mono ?_; clear hR; rintro e w1 ⟨rfl, hW1, hf⟩; have hW := Bx.mk hW1; have hb := Bx.mk (hf.row hb.out (hne.out _ (Nat.le_refl _))); have b0 := hb.out.cell 0 (by omega); have hv := Bx.mk (hf.row hv.out (hne.out _ (by omega))); have hfr := Bx.mk (hfr.out.trans hf); clear hf hW1)
    | (go_at_call 40; refine (hCp.out _ hfr.out).mono ?_; clear hCp; rintro e w2 ⟨g1, rfl, hg1, hL1, hf⟩; have hg1w : w.heap.size + 2 ≤ g1 := (Nat.le_trans hv.out.lt hg1); have hL1 := Bx.mk hL1; have hb := Bx.mk (hf.row0 hb.out); have hv := Bx.mk (hf.row0 hv.out); have hfr := Bx.mk (hfr.out.trans hf.up); have hW := Bx.mk (hW.out.fr0 hf); clear hf hg1))
  have hg1u : Bx (¬ UD V B mb fb d g1) := ⟨hne.out g1 (by omega)⟩
  have hg1z : Bx (∀ k, Z k → ¬ k = g1) := ⟨fun k hk e => by have := hzl.out k hk; omega⟩
  go_loopw [18] (fun c wr => ∃ k : Nat, k ≤ 24 ∧ c = I (k : Int) ∧ Bx (EL wr g1 24 (fun j => if j < k then other r env j else env j)) ∧ Bx (WS wr V B mb fb d Z) ∧ Bx (Row wr w.heap.size 1 (fun _ => pt B.f)) ∧ Bx (Row wr (w.heap.size + 1) 3 (vC x)) ∧ Bx (Fr (UD V B mb fb d) w wr)) (fun c _ => 24 - (intOf c).toNat)
  case atStart => exact ⟨0, by omega, rfl, ⟨Row.congr hL1.out (by intro j hj; simp)⟩, hW, hb, hv, hfr⟩
  case round =>
    clear hL1 hW hb hv hfr b0
    obtain ⟨k, hk, rfl, hL, hW, hb, hv, hfr⟩ := hrel
    have b0 := hb.out.cell 0 (by omega)
    cases hlt : decide ((k : Int) < 24)
    · have hk24 : k = 24 := by simp at hlt; omega
      have hLo : EL wr g1 24 (other r env) := Row.congr hL.out (by intro j hj; simp only []; rw [if_pos (by omega)])
      have hC := Bx.mk (hSC.out wr g1 hW.out hLo hg1u.out)
      clear hSC hLo hk24 hL hk
      go_wp2_with (first
        | (go_at_call 30; refine hC.out.mono ?_; clear hC; rintro e w3 ⟨rfl, ⟨Z', hW', hZ'⟩, hf⟩; have hv3 := Bx.mk (hf.row hv.out (hne.out _ (by omega))); obtain ⟨q0, q1, q2, -, -, -⟩ := hv3.out.v3; have hlq := hv3.out.lt; have hW' := Bx.mk (hW'.fr0 ((Fr.refl S0 _).alloc (.cells (vA x) 47))); have hZ' := Bx.mk hZ'; have hfr' := Bx.mk ((hfr.out.trans hf).alloc (.cells (vA x) 47)); clear hf)
        | (go_at_call 24; refine (sameValue_refl x _).mono ?_; rintro e w4 ⟨rfl, hf⟩))
      go_ret
      exact ⟨rfl, ⟨Z', hW'.out.fr0 hf, fun j hj => by
        rcases hZ'.out j hj with e | e
        · exact .inl e
        · exact .inr (Nat.le_trans hfr.out.size e)⟩, hfr'.out.trans hf.up⟩
    · have hk24 : k < 24 := by simp at hlt; omega
      cases hbit : r.getLsbD k
      · have hSt : Bx (∀ w0, EL w0 g1 24 (fun j => if j < k then other r env j else env j) → EL (sets w0 g1 (k * 3) (vA (vErr 3)).toList) g1 24 (fun j => if j < k + 1 then other r env j else env j)) := ⟨fun w0 hL0 => by
          refine Row.congr (hL0.put k (by omega) (vA (vErr 3)).toList rfl (vC (vErr 3)) (by intro i hi; rcases i with _ | _ | _ | i <;> first | rfl | omega)) ?_
          intro j hj
          simp only [upd]
          by_cases e : j / 3 = k
          · rw [if_pos e, if_pos (by omega), e]
            unfold other; rw [hbit]; rfl
          · rw [if_neg e]
            by_cases e2 : j / 3 < k
            · rw [if_pos e2, if_pos (by omega)]
            · rw [if_neg e2, if_neg (by omega)]⟩
        go_wp2_with (first
          | (go_at_call 38; refine (err_any 3 _).mono ?_; rintro e w0 ⟨rfl, hf⟩; have hL0 := Bx.mk (hL.out.of hf (by simp)); have m0 := hL0.out.cell0 k hk24 (by omega); have m1 := hL0.out.cell k 1 hk24 (by omega); have m2 := hL0.out.cell k 2 hk24 (by omega); have z0 := hL0.out.frozen (k * 3); have z1 := hL0.out.frozen (k * 3 + 1); have z2 := hL0.out.frozen (k * 3 + 2); simp only [vC, if_neg (Nat.lt_irrefl k)] at m0 m1 m2; have hf := Bx.mk hf))
        have hS : Fr (fun j => j = g1) w0 (sets w0 g1 (k * 3) (vA (vErr 3)).toList) := sets_fr (S := fun j => j = g1) (.inl rfl) _ _ _ (Fr.refl _ _)
        go_roundw
        case rel => exact ⟨k + 1, by omega, rfl, ⟨hSt.out w0 hL0.out⟩, ⟨(hW.out.fr0 hf.out).fr hS (fun j hj e => hg1u.out (e ▸ hj)) hg1z.out⟩, ⟨hS.row (hf.out.row0 hb.out) (by show ¬ w.heap.size = g1; omega)⟩, ⟨hS.row (hf.out.row0 hv.out) (by show ¬ w.heap.size + 1 = g1; omega)⟩, ⟨sets_fr (S := UD V B mb fb d) (a := w) (b := g1) (.inr (by omega)) (vA (vErr 3)).toList w0 (k * 3) (hfr.out.trans hf.out.up)⟩⟩
        case measure => simp [intOf]; omega
      · go_wp2
        go_roundw
        case rel => exact ⟨k + 1, by omega, rfl, ⟨Row.congr hL.out (by
          intro j hj
          simp only []
          by_cases e : j / 3 = k
          · rw [if_neg (by omega), if_pos (by omega), e]
            unfold other; rw [hbit]; rfl
          · by_cases e2 : j / 3 < k
            · rw [if_pos e2, if_pos (by omega)]
            · rw [if_neg e2, if_neg (by omega)])⟩, hW, hb, hv, hfr⟩
        case measure => simp [intOf]; omega
end Go.Proofs.Qxb6500331aGreat
