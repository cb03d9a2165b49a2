import Derived.Test.Qxb6500330aW1
namespace Go.Proofs.Qxb6500330a
set_option linter.unusedVariables false
set_option linter.unusedSimpArgs false
open Go.RowKit
attribute [local go_sem] bv_and bv_or bv_andNot bv_and_all bv_andNot_all bv_all_andNot bv_eq_all bv_ne_all bv_pred bv_pred' bv_eq_zero bv_ne_zero bv_eq bv_ne bv_bit

set_option maxRecDepth 100000 in
set_option maxHeartbeats 400000 in
theorem mCyclic_any (b : Nat) (R : Nat → BitVec 32) (w : World) (hm : MG w b R) :
    Calls Try.prog 15 #[pt (b + 1)] w fun e w' => e = .returned (U (cyc R)) ∧ MG w' b R ∧ Fr (fun k => k = b + 1) w w' := by
  obtain ⟨p, q, ho⟩ := hm.obj
  have hc2 := ho.cell 2 (by omega)
  simp only [mcells] at hc2
  have hz2 := ho.frozen 2
  have hlt := ho.lt
  have hm1 : MG (w.setCell ⟨b + 1, 2, none⟩ (I (wrap64 (q + 1)))) b R := ⟨hm.row.set_other (by simp) _, p, wrap64 (q + 1), (ho.set 2 _).congr (fun i hi => by
    match i, hi with
    | 0, _ => rfl
    | 1, _ => rfl
    | 2, _ => rfl)⟩
  have hf1 : Fr (fun k => k = b + 1) w (w.setCell ⟨b + 1, 2, none⟩ (I (wrap64 (q + 1)))) := (Fr.refl (fun k => k = b + 1) w).setCell (p := ⟨b + 1, 2, none⟩) (.inl rfl) _
  clear ho hm
  go_enter Try.func15, Try.ntmps15
  go_wp2_with (go_at_call 31; refine (rounds_any _ _ _ hm1).mono ?_; rintro e w1 ⟨rfl, hrow, hfr⟩)
  have hrow : Row w1 w.heap.size 24 (fun i => I (lev R i)) := by simpa using hrow
  have hm2 := hm1.fr0 hfr
  have hf2 := hf1.step hfr (by simp)
  clear hm1 hf1 hc2 hz2 hfr
  go_loop [4, 5] (fun st c => ∃ k : Nat, k ≤ 24 ∧ c = .int .i64 k ∧ st = U (accTo (fun c => decide (lev R c < 0)) 0#32 k)) (fun _ c => 24 - (intOf c).toNat)
  case atStart => exact ⟨0, by omega, rfl, rfl⟩
  case round =>
    obtain ⟨k, hk, rfl, rfl⟩ := hrel
    by_cases hlk : k < 24
    · have hck := hrow.cell k hlk
      by_cases h2 : lev R k < 0
      · go_wp2_with (go_at_call 17; refine (bit_any _ _ (by assumption)).mono ?_; rintro e w' ⟨rfl, rfl⟩)
        go_round
        case rel => exact ⟨k + 1, by omega, by go_num, by simp only [accTo, h2, decide_true, if_true]⟩
        case measure => simp [intOf]; omega
      · have hd : decide (lev R k < 0) = false := by simpa using h2
        go_wp2_with (go_at_call 17; refine (bit_any _ _ (by assumption)).mono ?_; rintro e w' ⟨rfl, rfl⟩)
        go_round
        case rel => exact ⟨k + 1, by omega, by go_num, by simp only [accTo, hd]; rfl⟩
        case measure => simp [intOf]; omega
    · have hk24 : k = 24 := by omega
      subst hk24
      go_wp2
      go_ret
      exact ⟨rfl, hm2, hf2⟩
set_option maxHeartbeats 400000 in
theorem levels_any (b : Nat) (R : Nat → BitVec 32) (w : World) (hm : MG w b R) :
    Calls Try.prog 32 #[pt (b + 1)] w fun e w' => e = .returned (sl w.heap.size 24 24) ∧ Row w' w.heap.size 24 (fun i => I (lev R i)) ∧ Fr S0 w w' := by
  have hmk := mk35
  go_enter Try.func32, Try.ntmps32
  go_wp2
  go_loopw [4] (fun c wr => ∃ k : Nat, k ≤ 24 ∧ c = .int .i64 k ∧ Row wr w.heap.size 24 (fun i => if i < k then I (lev R i) else I 0) ∧ Fr S0 w wr) (fun c _ => 24 - (intOf c).toNat)
  case atStart => exact ⟨0, by omega, rfl, Row.zI _ _ _, (Fr.refl _ _).alloc _⟩
  case round =>
    obtain ⟨k, hk, rfl, hrow, hfr⟩ := hrel
    by_cases hlt : k < 24
    · go_wp2_with (go_at_call 45; refine (mLevel_in _ _ _ _ (hm.fr0 hfr) hlt).mono ?_; rintro e w1 ⟨rfl, hf1⟩; have hc := (hf1.row0 hrow).cell k hlt; have hz := (hf1.row0 hrow).frozen k)
      go_roundw
      case rel =>
        refine ⟨k + 1, by omega, by go_num, ((hf1.row0 hrow).set k _).congr ?_, (hfr.trans hf1).setCell (.inr (Nat.le_refl _)) _⟩
        intro i hi
        simp only [upd]
        by_cases e : i = k
        · simp [e]
        · rw [if_neg e]; simp only [show (i < k + 1) = (i < k) from by simp; omega]
      case measure => simp [intOf]; omega
    · have hL : Row wr w.heap.size 24 (fun i => I (lev R i)) := hrow.congr (by intro i hi; rw [if_pos (by omega)])
      go_wp2
      go_ret
      exact ⟨rfl, hL, hfr⟩
set_option maxHeartbeats 400000 in
theorem allReads_any (b : Nat) (R : Nat → BitVec 32) (w : World) (hm : MG w b R) :
    Calls Try.prog 34 #[pt (b + 1)] w fun e w' => e = .returned (sl w.heap.size 24 24) ∧ Row w' w.heap.size 24 (fun i => U (R i)) ∧ Fr S0 w w' := by
  have hmk := mk44
  go_enter Try.func34, Try.ntmps34
  go_wp2
  go_loopw [4] (fun c wr => ∃ k : Nat, k ≤ 24 ∧ c = .int .i64 k ∧ Row wr w.heap.size 24 (fun i => if i < k then U (R i) else U 0#32) ∧ Fr S0 w wr) (fun c _ => 24 - (intOf c).toNat)
  case atStart => exact ⟨0, by omega, rfl, Row.zU _ _ _, (Fr.refl _ _).alloc _⟩
  case round =>
    obtain ⟨k, hk, rfl, hrow, hfr⟩ := hrel
    by_cases hlt : k < 24
    · have hc := hrow.cell k hlt
      have hz := hrow.frozen k
      go_wp2_with (go_at_call 16; refine (mReads_in _ _ _ _ (hm.fr0 hfr) hlt).mono ?_; rintro e w1 ⟨rfl, rfl⟩)
      go_roundw
      case rel =>
        refine ⟨k + 1, by omega, by go_num, (hrow.set k _).congr ?_, hfr.setCell (.inr (Nat.le_refl _)) _⟩
        intro i hi
        simp only [upd]
        by_cases e : i = k
        · simp [e]
        · rw [if_neg e]; simp only [show (i < k + 1) = (i < k) from by simp; omega]
      case measure => simp [intOf]; omega
    · have hL : Row wr w.heap.size 24 (fun i => U (R i)) := hrow.congr (by intro i hi; rw [if_pos (by omega)])
      go_wp2
      go_ret
      exact ⟨rfl, hL, hfr⟩
set_option maxHeartbeats 400000 in
theorem under_any (b : Nat) (R : Nat → BitVec 32) (c : Nat) (w : World) (hm : MG w b R) (hc : c < 24) :
    Calls Try.prog 41 #[pt (b + 1), .int .i64 c] w fun e w' => e = .returned (U (under R c)) ∧ w = w' := by
  go_enter Try.func41, Try.ntmps41
  go_wp2_with (go_at_call 17; refine (bit_any _ _ (by assumption)).mono ?_; rintro e w' ⟨rfl, rfl⟩)
  go_loop [5, 6] (fun st c' => ∃ n : Nat, n ≤ 24 ∧ c' = .int .i64 n ∧ st = U (unders R (bit c) n)) (fun _ c => 24 - (intOf c).toNat)
  case atStart => exact ⟨0, by omega, rfl, rfl⟩
  case round =>
    obtain ⟨n, hn, rfl, rfl⟩ := hrel
    by_cases hln : n < 24
    · have hnd : decide ((n : Int) < 24) = true := by simp; omega
      go_wp2
      go_loop [5, 7] (fun st c' => ∃ k : Nat, k ≤ 24 ∧ c' = .int .i64 k ∧ st = U (underTo R (unders R (bit c) n) k)) (fun _ c => 24 - (intOf c).toNat)
      case atStart => exact ⟨0, by omega, rfl, rfl⟩
      case round =>
        obtain ⟨k, hk, rfl, rfl⟩ := hrel
        by_cases hlk : k < 24
        · cases h2 : (underTo R (unders R (bit c) n) k).getLsbD k
          · go_wp2_with (go_at_call 16; refine (mReads_in _ _ _ _ hm hlk).mono ?_; rintro e w1 ⟨rfl, rfl⟩)
            go_round
            case rel => exact ⟨k + 1, by omega, by go_num, by simp only [underTo, h2]; rfl⟩
            case measure => simp [intOf]; omega
          · go_wp2_with (go_at_call 16; refine (mReads_in _ _ _ _ hm hlk).mono ?_; rintro e w1 ⟨rfl, rfl⟩)
            go_round
            case rel => exact ⟨k + 1, by omega, by go_num, by simp only [underTo, h2]; rfl⟩
            case measure => simp [intOf]; omega
        · have hk24 : k = 24 := by omega
          subst hk24
          go_wp2
          go_round
          case rel => exact ⟨n + 1, by omega, by go_num, rfl⟩
          case measure => simp [intOf]; omega
    · have hn24 : n = 24 := by omega
      subst hn24
      go_wp2
      go_ret
      exact ⟨rfl, rfl⟩
set_option maxHeartbeats 400000 in
theorem hung_any (b : Nat) (R : Nat → BitVec 32) (s : BitVec 32) (w : World) (hm : MG w b R) (law : HungLaw R s) :
    Calls Try.prog 25 #[pt (b + 1), U s] w fun e w' => e = .returned (.bool true) ∧ MG w' b R ∧ Fr (fun k => k = b + 1) w w' := by
  have HL : Hid (HungLaw R s) := law
  clear law
  go_enter Try.func25, Try.ntmps25
  go_wp2_with (go_at_call 38; refine (mHang_any _ _ _ _ hm).mono ?_; rintro e w1 ⟨rfl, hm1, hf1⟩)
  go_loop [6, 7, 8] (fun c' _ _ => ∃ k : Nat, k ≤ 24 ∧ c' = .int .i64 k) (fun c _ _ => 24 - (intOf c).toNat)
  case atStart => exact ⟨0, by omega, rfl⟩
  case round =>
    obtain ⟨k, hk, rfl⟩ := hrel
    by_cases hlk : k < 24
    · have h2 := HL.out.1 k hlk
      go_wp2_with (first | (go_at_call 41; refine (under_any _ _ _ _ hm1 hlk).mono ?_; rintro e w1 ⟨rfl, rfl⟩) | (go_at_call 17; refine (bit_any _ _ (by assumption)).mono ?_; rintro e w' ⟨rfl, rfl⟩))
      go_round
      case rel => exact ⟨k + 1, by omega, by go_num⟩
      case measure => simp [intOf]; omega
    · have h3 : (hang R s &&& 4278190080#32 == 0#32) = true := by simpa using HL.out.2
      go_wp2
      go_ret
      exact ⟨rfl, hm1, hf1⟩
end Go.Proofs.Qxb6500330a
