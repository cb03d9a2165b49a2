import Derived.Test.Qxb6500326aGreatGW1
namespace Go.Proofs.Qxb6500326aGreat.Gr
set_option maxRecDepth 100000
set_option linter.unusedVariables false
set_option linter.unusedSimpArgs false
open Go.RowKit
attribute [local go_sem] bv_and bv_or bv_andNot bv_and_all bv_andNot_all bv_all_andNot bv_eq_all bv_ne_all bv_pred bv_pred' bv_eq_zero bv_ne_zero bv_eq bv_ne bv_bit

set_option maxRecDepth 100000 in
set_option maxHeartbeats 400000 in
theorem mCyclic_any (b : Nat) (R : Nat → BitVec 32) (w : World) (hm : MG w b R) :
    Calls Tryz.prog 138 #[pt (b + 1)] w fun e w' => e = .returned (U (cyc R)) ∧ MG w' b R ∧ Fr (fun k => k = b + 1) w w' := by
  obtain ⟨p, q, ho⟩ := hm.obj
  have hc2 := ho.cell 2 (by omega)
  simp only [mcells] at hc2
  have hz2 := ho.frozen 2
  have hlt := ho.lt
  have hm1 : MG (w.setCell ⟨b + 1, 2, none⟩ (I (wrap64 (q + 1)))) b R := ⟨hm.row.set_other (by simp) _, p, wrap64 (q + 1), (ho.set 2 _).congr (fun i hi => by
    match i, hi with
    | 0, _ => rfl
    | 1, _ => rfl
    | 2, _ => rfl)⟩
  have hf1 : Fr (fun k => k = b + 1) w (w.setCell ⟨b + 1, 2, none⟩ (I (wrap64 (q + 1)))) := (Fr.refl (fun k => k = b + 1) w).setCell (p := ⟨b + 1, 2, none⟩) (.inl rfl) _
  clear ho hm
  go_enter Tryz.func138, Tryz.ntmps138
  go_wp2_with (go_at_call 167; refine (rounds_any _ _ _ hm1).mono ?_; rintro e w1 ⟨rfl, hrow, hfr⟩)
  have hrow : Row w1 w.heap.size 24 (fun i => I (lev R i)) := by simpa using hrow
  have hm2 := hm1.fr0 hfr
  have hf2 := hf1.step hfr (by simp)
  clear hm1 hf1 hc2 hz2 hfr
  go_loop [4, 5] (fun st c => ∃ k : Nat, k ≤ 24 ∧ c = .int .i64 k ∧ st = U (accTo (fun c => decide (lev R c < 0)) 0#32 k)) (fun _ c => 24 - (intOf c).toNat)
  case atStart => exact ⟨0, by omega, rfl, rfl⟩
  case round =>
    obtain ⟨k, hk, rfl, rfl⟩ := hrel
    by_cases hlk : k < 24
    · have hck := hrow.cell k hlk
      by_cases h2 : lev R k < 0
      · go_wp2_with (go_at_call 124; refine (bit_any _ _ (by assumption)).mono ?_; rintro e w' ⟨rfl, rfl⟩)
        go_round
        case rel => exact ⟨k + 1, by omega, by go_num, by simp only [accTo, h2, decide_true, if_true]⟩
        case measure => simp [intOf]; omega
      · have hd : decide (lev R k < 0) = false := by simpa using h2
        go_wp2_with (go_at_call 124; refine (bit_any _ _ (by assumption)).mono ?_; rintro e w' ⟨rfl, rfl⟩)
        go_round
        case rel => exact ⟨k + 1, by omega, by go_num, by simp only [accTo, hd]; rfl⟩
        case measure => simp [intOf]; omega
    · have hk24 : k = 24 := by omega
      subst hk24
      go_wp2
      go_ret
      exact ⟨rfl, hm2, hf2⟩
end Go.Proofs.Qxb6500326aGreat.Gr
