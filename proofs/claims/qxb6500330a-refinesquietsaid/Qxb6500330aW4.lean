import Derived.Test.Qxb6500330aW3
namespace Go.Proofs.Qxb6500330a
set_option linter.unusedVariables false
set_option linter.unusedSimpArgs false
open Go.RowKit
attribute [local go_sem] bv_and bv_or bv_andNot bv_and_all bv_andNot_all bv_all_andNot bv_eq_all bv_ne_all bv_pred bv_pred' bv_eq_zero bv_ne_zero bv_eq bv_ne bv_bit

set_option maxHeartbeats 400000 in
theorem mNew_any (w : World) :
    Calls Try.prog 10 #[] w fun e w' => e = .returned (pt (w.heap.size + 1)) ∧ MG w' w.heap.size (fun _ => 0#32) ∧ Fr S0 w w' ∧ w'.heap.size = w.heap.size + 2 := by
  have hmk := mk44
  go_enter Try.func10, Try.ntmps10
  go_wp2
  go_ret
  have h1 : Row (w.alloc (.cells (zU 24) 45)) w.heap.size 24 (fun _ => U 0#32) := Row.zU _ _ _
  refine ⟨rfl, ⟨h1.alloc _, 0, 0, ?_⟩, ((Fr.refl _ _).alloc _).alloc _, by simp⟩
  have := Row.new (w.alloc (.cells (zU 24) 45)) #[sl w.heap.size 24 24, .int .i64 0, .int .i64 0] 49 3 (mcells w.heap.size 0 0) rfl (fun i hi => by
    match i, hi with
    | 0, _ => rfl
    | 1, _ => rfl
    | 2, _ => rfl)
  simpa using this
set_option maxHeartbeats 400000 in
theorem mSet_ok (b : Nat) (R : Nat → BitVec 32) (c : Nat) (s : BitVec 32) (w : World) (hm : MG w b R) (hc : c < 24) (hs : s &&& Out = 0#32) :
    Calls Try.prog 36 #[pt (b + 1), .int .i64 c, U s] w fun e w' => e = .returned (I 0) ∧ MG w' b (upd R c s) ∧ Fr (fun k => k = b ∨ k = b + 1) w w' := by
  obtain ⟨p, q, ho⟩ := hm.obj
  have hc0 := hm.cell0
  have hc1 := ho.cell 1 (by omega)
  simp only [mcells] at hc1
  have hz1 := ho.frozen 1
  have hcc := hm.row.cell c hc
  have hcz := hm.row.frozen c
  have h3 : (s &&& 4278190080#32 != 0#32) = false := by simp [hs]
  go_enter Try.func36, Try.ntmps36
  go_wp2
  go_ret
  refine ⟨rfl, ⟨((hm.row.set_other (by simp) _).set c _).congr (fun i hi => ?_), wrap64 (p + 1), q, ?_⟩, (((Fr.refl _ w).setCell (p := ⟨b + 1, 1, none⟩) (.inl (.inr rfl)) _).setCell (p := ⟨b, c, none⟩) (.inl (.inl rfl)) _)⟩
  · simp only [upd]; split <;> rfl
  · exact ((ho.set 1 _).congr (fun i hi => by
      match i, hi with
      | 0, _ => rfl
      | 1, _ => rfl
      | 2, _ => rfl)).set_other (by simp) _
set_option maxHeartbeats 400000 in
theorem mSet_bad (b : Nat) (R : Nat → BitVec 32) (c : Int) (s : BitVec 32) (w : World) (hm : MG w b R) (hg : ¬ good c s) :
    Calls Try.prog 36 #[pt (b + 1), .int .i64 c, U s] w fun e w' => e = .returned (I 9) ∧ MG w' b R ∧ Fr (fun k => k = b + 1) w w' := by
  obtain ⟨p, q, ho⟩ := hm.obj
  have hc1 := ho.cell 1 (by omega)
  simp only [mcells] at hc1
  have hz1 := ho.frozen 1
  have hm1 : MG (w.setCell ⟨b + 1, 1, none⟩ (I (wrap64 (p + 1)))) b R := ⟨hm.row.set_other (by simp) _, wrap64 (p + 1), q, (ho.set 1 _).congr (fun i hi => by
    match i, hi with
    | 0, _ => rfl
    | 1, _ => rfl
    | 2, _ => rfl)⟩
  have hf1 : Fr (fun k => k = b + 1) w (w.setCell ⟨b + 1, 1, none⟩ (I (wrap64 (p + 1)))) := (Fr.refl (fun k => k = b + 1) w).setCell (p := ⟨b + 1, 1, none⟩) (.inl rfl) _
  clear ho hm
  by_cases h0 : c < 0
  · go_enter Try.func36, Try.ntmps36
    go_wp2
    go_ret
    exact ⟨rfl, hm1, hf1⟩
  · have hd : decide (c < 0) = false := by simpa using h0
    by_cases h1 : 24 ≤ c
    · go_enter Try.func36, Try.ntmps36
      go_wp2
      go_ret
      exact ⟨rfl, hm1, hf1⟩
    · have hd1 : decide (24 ≤ c) = false := by simpa using h1
      have h3 : (s &&& 4278190080#32 != 0#32) = true := by
        rw [bne_iff_ne]
        intro h
        exact hg ⟨by omega, by omega, h⟩
      clear hg
      go_enter Try.func36, Try.ntmps36
      go_wp2
      go_ret
      exact ⟨rfl, hm1, hf1⟩
set_option maxRecDepth 100000 in
set_option maxHeartbeats 400000 in
theorem stored_ok (b bw : Nat) (R R0 : Nat → BitVec 32) (c : Nat) (s : BitVec 32) (w : World) (hm : MG w b R) (hw : Row w bw 24 (fun i => U (R0 i))) (hc : c < 24) (hs : s &&& Out = 0#32) (hR : R = upd R0 c s) :
    Calls Try.prog 37 #[pt (b + 1), sl bw 24 24, .int .i64 c, U s, .int .i64 0] w fun e w' => e = .returned (.bool true) ∧ w = w' := by
  have h3 : (s &&& 4278190080#32 == 0#32) = true := by simp [hs]
  have HR : Hid (R = upd R0 c s) := hR
  clear hR hs
  go_enter Try.func37, Try.ntmps37
  go_wp2
  go_loop [12, 13, 14] (fun c' _ _ => ∃ k : Nat, k ≤ 24 ∧ c' = .int .i64 k) (fun c _ _ => 24 - (intOf c).toNat)
  case atStart => exact ⟨0, by omega, rfl⟩
  case round =>
    obtain ⟨k, hk, rfl⟩ := hrel
    by_cases hlk : k < 24
    · have hck := hw.cell k hlk
      by_cases e : k = c
      · have he : ((k : Int) == (c : Int)) = true := by simp [e]
        have hv : R k = s := by rw [HR.out, e, upd_same]
        clear e
        go_wp2_with (go_at_call 16; refine (mReads_in _ _ _ _ hm hlk).mono ?_; rintro e w1 ⟨rfl, rfl⟩)
        go_round
        case rel => exact ⟨k + 1, by omega, by go_num⟩
        case measure => simp [intOf]; omega
      · have he : ((k : Int) == (c : Int)) = false := by simp; omega
        have hv : R k = R0 k := by rw [HR.out, upd_other _ _ e]
        clear e
        go_wp2_with (go_at_call 16; refine (mReads_in _ _ _ _ hm hlk).mono ?_; rintro e w1 ⟨rfl, rfl⟩)
        go_round
        case rel => exact ⟨k + 1, by omega, by go_num⟩
        case measure => simp [intOf]; omega
    · go_wp2
      go_ret
      exact ⟨rfl, rfl⟩
/-- The arms of a Set that is refused. -/
def BadArm (c : Int) (s : BitVec 32) : Prop := decide (0 ≤ c) = false ∨ (0 ≤ c ∧ decide (c < 24) = false) ∨ (0 ≤ c ∧ c < 24 ∧ (s &&& 4278190080#32 == 0#32) = false)
theorem badArm {c : Int} {s : BitVec 32} (hg : ¬ good c s) : BadArm c s := by
  unfold BadArm
  by_cases h0 : 0 ≤ c
  · by_cases h1 : c < 24
    · refine .inr (.inr ⟨h0, h1, ?_⟩)
      rw [beq_eq_false_iff_ne]
      exact fun h => hg ⟨h0, h1, h⟩
    · exact .inr (.inl ⟨h0, by simpa using h1⟩)
  · exact .inl (by simpa using h0)
set_option maxRecDepth 100000 in
set_option maxHeartbeats 1000000 in
theorem stored_bad (b bw : Nat) (R : Nat → BitVec 32) (c : Int) (s : BitVec 32) (w : World) (hm : MG w b R) (hw : Row w bw 24 (fun i => U (R i))) (hg : ¬ good c s) :
    Calls Try.prog 37 #[pt (b + 1), sl bw 24 24, .int .i64 c, U s, .int .i64 9] w fun e w' => e = .returned (.bool true) ∧ w = w' := by
  have hb := badArm hg
  clear hg
  rcases hb with h1 | ⟨h0, h1⟩ | ⟨h0, h1, h2⟩
  all_goals
    go_enter Try.func37, Try.ntmps37
    go_wp2
    go_loop [12, 13, 14] (fun c' _ _ => ∃ k : Nat, k ≤ 24 ∧ c' = .int .i64 k) (fun c _ _ => 24 - (intOf c).toNat)
    case atStart => exact ⟨0, by omega, rfl⟩
    case round =>
      obtain ⟨k, hk, rfl⟩ := hrel
      by_cases hlk : k < 24
      · have hck := hw.cell k hlk
        go_wp2_with (go_at_call 16; refine (mReads_in _ _ _ _ hm hlk).mono ?_; rintro e w1 ⟨rfl, rfl⟩)
        go_round
        case rel => exact ⟨k + 1, by omega, by go_num⟩
        case measure => simp [intOf]; omega
      · go_wp2
        go_ret
        exact ⟨rfl, rfl⟩
set_option maxRecDepth 100000 in
set_option maxHeartbeats 1000000 in
theorem leveled_any (b : Nat) (R : Nat → BitVec 32) (w : World) (hm : MG w b R) (law : LevLaw R) :
    Calls Try.prog 18 #[pt (b + 1)] w fun e w' => e = .returned (.bool true) ∧ MG w' b R ∧ Fr (fun k => k = b + 1) w w' := by
  have HL : Hid (LevLaw R) := law
  have hb1 : b + 1 < w.heap.size := by obtain ⟨_, _, ho⟩ := hm.obj; exact ho.lt
  clear law
  go_enter Try.func18, Try.ntmps18
  go_wp2_with (first | (go_at_call 32; refine (levels_any _ _ _ hm).mono ?_; rintro e w1 ⟨rfl, hrow1, hf1⟩) | (go_at_call 15; refine (mCyclic_any _ _ _ (hm.fr0 hf1)).mono ?_; rintro e w2 ⟨rfl, hm2, hf2⟩))
  have hrow := hf2.row hrow1 (by omega)
  have hf3 := (hf1.up (S := fun k => k = b + 1)).trans hf2
  clear hf1 hf2 hrow1 hm
  go_loop [5, 6, 7, 8, 9] (fun c' _ _ _ _ => ∃ k : Nat, k ≤ 24 ∧ c' = .int .i64 k) (fun c _ _ _ _ => 24 - (intOf c).toNat)
  case atStart => exact ⟨0, by omega, rfl⟩
  case round =>
    obtain ⟨k, hk, rfl⟩ := hrel
    by_cases hlk : k < 24
    · have hkd : decide ((k : Int) < 24) = true := by simp; omega
      have hck := hrow.cell k hlk
      have h1 := HL.out.2.1 k hlk
      cases h2 : (lev R k == -1)
      · rw [h2] at h1
        go_wp2_with (first | (go_at_call 17; refine (bit_any _ _ (by assumption)).mono ?_; rintro e w' ⟨rfl, rfl⟩) | (go_at_call 16; refine (mReads_in _ _ _ _ hm2 hlk).mono ?_; rintro e w1 ⟨rfl, rfl⟩))
        go_loop [8, 9] (fun t c' => ∃ d : Nat, d ≤ 24 ∧ c' = .int .i64 d ∧ t = I (topTo (lev R) (R k) d)) (fun _ c => 24 - (intOf c).toNat)
        case atStart => exact ⟨0, by omega, rfl, rfl⟩
        case round =>
          obtain ⟨d, hd, rfl, rfl⟩ := hrel
          by_cases hld : d < 24
          · have hcd := hrow.cell d hld
            have hbd := HL.out.1 d hld
            cases hb : (R k).getLsbD d
            · go_wp2
              go_round
              case rel => exact ⟨d + 1, by omega, by go_num, by simp only [topTo, hb, Bool.false_and, Bool.false_eq_true, if_false]⟩
              case measure => simp [intOf]; omega
            · by_cases ht : topTo (lev R) (R k) d ≤ lev R d
              · go_wp2
                go_round
                case rel => exact ⟨d + 1, by omega, by go_num, by simp only [topTo, hb, Bool.true_and, ht, decide_true, if_true]⟩
                case measure => simp [intOf]; omega
              · have htd : decide (topTo (lev R) (R k) d ≤ lev R d) = false := by simpa using ht
                go_wp2
                go_round
                case rel => exact ⟨d + 1, by omega, by go_num, by simp only [topTo, hb, Bool.true_and, htd, Bool.false_eq_true, if_false]⟩
                case measure => simp [intOf]; omega
          · have hd24 : d = 24 := by omega
            subst hd24
            have ht : (lev R k != topTo (lev R) (R k) 24) = false := by rw [bne_eq_false_iff_eq]; exact HL.out.2.2 k hlk (by simpa using h2)
            go_wp2
            go_round
            case rel => exact ⟨k + 1, by omega, by go_num⟩
            case measure => simp [intOf]; omega
      · rw [h2] at h1
        go_wp2_with (first | (go_at_call 17; refine (bit_any _ _ (by assumption)).mono ?_; rintro e w' ⟨rfl, rfl⟩) | (go_at_call 16; refine (mReads_in _ _ _ _ hm2 hlk).mono ?_; rintro e w1 ⟨rfl, rfl⟩))
        go_round
        case rel => exact ⟨k + 1, by omega, by go_num⟩
        case measure => simp [intOf]; omega
    · go_wp2
      go_ret
      exact ⟨rfl, hm2, hf3⟩
end Go.Proofs.Qxb6500330a
