import Derived.Test.Qxb6500326aGreatProg
import Derived.Test.Qxb6500326aGreatGMem
import Derived.Test.Qxb6500326aGreatGPlain
import Derived.WalkKit
import Derived.WalkSpells
import Derived.WalkLawsBesides
namespace Go.Proofs.Qxb6500326aGreat.Gr
set_option maxRecDepth 100000
set_option linter.unusedVariables false
set_option linter.unusedSimpArgs false
open Go.RowKit
attribute [local go_sem] bv_and bv_or bv_andNot bv_and_all bv_andNot_all bv_all_andNot bv_eq_all bv_ne_all bv_pred bv_pred' bv_eq_zero bv_ne_zero bv_eq bv_ne bv_bit
theorem mk35 (w : World) : (Instr.makeSlice 111 (.int .i64 24) (.int .i64 24)).run Tryz.prog w = .ok (sl w.heap.size 24 24) (w.alloc (.cells (zI 24) 3)) := by kernel_rfl
theorem mk44 (w : World) : (Instr.makeSlice 80 (.int .i64 24) (.int .i64 24)).run Tryz.prog w = .ok (sl w.heap.size 24 24) (w.alloc (.cells (zU 24) 117)) := by kernel_rfl
theorem bit_toNat (c : Nat) : uN (bit c) = 2 ^ c % 4294967296 := by
  simp [uN, bit, BitVec.toNat_shiftLeft, Nat.shiftLeft_eq]
set_option maxHeartbeats 400000 in
theorem bit_any (c : Nat) (w : World) (h1 : c < 24) :
    Calls Tryz.prog 124 #[.int .i64 c] w fun e w' => e = .returned (U (bit c)) ∧ w = w' := by
  go_enter Tryz.func124, Tryz.ntmps124
  go_wp2
  go_ret
  exact ⟨by rw [U, bit_toNat]; simp, rfl⟩
set_option maxHeartbeats 400000 in
theorem one_any (c : Nat) (w : World) (h1 : c < 24) :
    Calls Tryz.prog 154 #[.int .i64 c] w fun e w' => e = .returned (U (bit c)) ∧ w = w' := by
  go_enter Tryz.func154, Tryz.ntmps154
  go_wp2
  go_ret
  exact ⟨by rw [U, bit_toNat]; simp, rfl⟩
set_option maxHeartbeats 400000 in
theorem rounds_any (b : Nat) (R : Nat → BitVec 32) (w : World) (hm : MG w b R) :
    Calls Tryz.prog 167 #[pt (b + 1)] w fun e w' => e = .returned (sl w.heap.size 24 24) ∧ Row w' w.heap.size 24 (fun i => I (lev R i)) ∧ Fr S0 w w' := by
  have hmk := mk35
  go_enter Tryz.func167, Tryz.ntmps167
  go_wp2
  go_loopw [4] (fun c wr => ∃ k : Nat, k ≤ 24 ∧ c = .int .i64 k ∧ Row wr w.heap.size 24 (fun i => if i < k then I (-1) else I 0) ∧ Fr S0 w wr) (fun c _ => 24 - (intOf c).toNat)
  case atStart => exact ⟨0, by omega, rfl, Row.zI _ _ _, (Fr.refl _ _).alloc _⟩
  case round =>
    obtain ⟨k, hk, rfl, hrow, hfr⟩ := hrel
    by_cases hlt : k < 24
    · have hc := hrow.cell k hlt
      have hz := hrow.frozen k
      go_wp2
      go_roundw
      case rel =>
        refine ⟨k + 1, by omega, by go_num, (hrow.set k _).congr ?_, hfr.setCell (.inr (Nat.le_refl _)) _⟩
        intro i hi
        simp only [upd]
        by_cases e : i = k
        · simp [e]
        · rw [if_neg e]; simp only [show (i < k + 1) = (i < k) from by simp; omega]
      case measure => simp [intOf]; omega
    · have hL0 : Row wr w.heap.size 24 (fun i => I ((lvs R 0).1 i)) := hrow.congr (by intro i hi; rw [if_pos (by omega)]; rfl)
      clear hrow hmk
      go_wp2
      go_loopw [5, 6] (fun s c w1 => ∃ q : Nat, q ≤ 24 ∧ c = .int .i64 q ∧ s = U (lvs R q).2 ∧ Row w1 w.heap.size 24 (fun i => I ((lvs R q).1 i)) ∧ Fr S0 w w1) (fun _ c _ => 24 - (intOf c).toNat)
      case atStart => exact ⟨0, by omega, rfl, rfl, hL0, hfr⟩
      case round =>
        clear hL0 hfr
        obtain ⟨q, hq, rfl, rfl, hL, hfr⟩ := hrel
        by_cases hlq : q < 24
        · have hqd : decide ((q : Int) < 24) = true := by simp; omega
          go_wp2
          go_loopw [7, 8] (fun nw c w2 => ∃ k : Nat, k ≤ 24 ∧ c = .int .i64 k ∧ nw = U (accTo (ripens R (lvs R q).1 (lvs R q).2) (lvs R q).2 k) ∧ Row w2 w.heap.size 24 (fun i => I (lvTo R q k i)) ∧ Fr S0 w w2) (fun _ c _ => 24 - (intOf c).toNat)
          case atStart => exact ⟨0, by omega, rfl, rfl, hL.congr (by intro i hi; simp [lvTo]), hfr⟩
          case round =>
            clear hL hfr
            obtain ⟨k, hk, rfl, rfl, hL, hfr⟩ := hrel
            by_cases hlk : k < 24
            · have hc := hL.cell k hlk
              simp only [lvTo_at] at hc
              have hz := hL.frozen k
              have hg2 := (hm.fr0 hfr).cell0
              have hr2 := (hm.fr0 hfr).row.cell k hlk
              by_cases h1 : (lvs R q).1 k < 0
              · cases h2 : (R k &&& ~~~(lvs R q).2 == 0#32)
                · have hno := lvTo_no R q k (by simp only [ripens, h2, Bool.and_false])
                  go_wp2_with (go_at_call 124; refine (bit_any _ _ (by assumption)).mono ?_; rintro e w' ⟨rfl, rfl⟩)
                  go_roundw
                  case rel => exact ⟨k + 1, by omega, by go_num, by rw [hno.2], hL.congr (fun i hi => by rw [hno.1]), hfr⟩
                  case measure => simp [intOf]; omega
                · go_wp2_with (go_at_call 124; refine (bit_any _ _ (by assumption)).mono ?_; rintro e w' ⟨rfl, rfl⟩)
                  go_roundw
                  case rel =>
                    refine ⟨k + 1, by omega, by go_num, by rw [(lvTo_yes R q k h1 h2).2], (hL.set k _).congr (fun i hi => ?_), hfr.setCell (.inr (Nat.le_refl _)) _⟩
                    rw [(lvTo_yes R q k h1 h2).1]; unfold upd; split <;> rfl
                  case measure => simp [intOf]; omega
              · have hd : decide ((lvs R q).1 k < 0) = false := by simpa using h1
                have hno := lvTo_no R q k (by simp only [ripens, hd, Bool.false_and])
                go_wp2_with (go_at_call 124; refine (bit_any _ _ (by assumption)).mono ?_; rintro e w' ⟨rfl, rfl⟩)
                go_roundw
                case rel => exact ⟨k + 1, by omega, by go_num, by rw [hno.2], hL.congr (fun i hi => by rw [hno.1]), hfr⟩
                case measure => simp [intOf]; omega
            · have hk24 : k = 24 := by omega
              subst hk24
              go_wp2
              go_roundw
              case rel => exact ⟨q + 1, by omega, by go_num, rfl, hL.congr (fun i hi => by rw [lvTo_full _ _ _ hi]), hfr⟩
              case measure => simp [intOf]; omega
        · have hq24 : q = 24 := by omega
          subst hq24
          go_wp2
          go_ret
          exact ⟨rfl, hL, hfr⟩
end Go.Proofs.Qxb6500326aGreat.Gr
