import Derived.Test.Qxb6500330aW4
namespace Go.Proofs.Qxb6500330a
set_option linter.unusedVariables false
set_option linter.unusedSimpArgs false
open Go.RowKit
attribute [local go_sem] bv_and bv_or bv_andNot bv_and_all bv_andNot_all bv_all_andNot bv_eq_all bv_ne_all bv_pred bv_pred' bv_eq_zero bv_ne_zero bv_eq bv_ne bv_bit

theorem bit_ne {c : Nat} (h : c < 24) : (bit c == 0#32) = false := by
  rw [beq_eq_false_iff_ne]
  intro e
  have := congrArg (fun x => BitVec.getLsbD x c) e
  simp [bit] at this
  omega
set_option maxRecDepth 100000 in
set_option maxHeartbeats 1000000 in
theorem sorted_any (b : Nat) (R : Nat → BitVec 32) (s : BitVec 32) (w : World) (hm : MG w b R) (law : SortLaw R s) :
    Calls Try.prog 19 #[pt (b + 1), U s] w fun e w' => e = .returned (.bool true) ∧ MG w' b R ∧ Fr (fun k => k = b + 1) w w' := by
  have HL : Hid (SortLawL R s (ord R s)) := law
  have hb1 : b + 1 < w.heap.size := by obtain ⟨_, _, ho⟩ := hm.obj; exact ho.lt
  have hlen : (ord R s).length ≤ 600 := by have := ordTo_len R s 24; unfold ord; omega
  clear law
  go_enter Try.func19, Try.ntmps19
  go_wp2_with (go_at_call 14; refine (mOrder_any _ _ _ _ hm).mono ?_; rintro e w1 ⟨v, rfl, hv, hm1, hf1⟩)
  generalize ord R s = L at *
  rcases hv with ⟨rfl, hnil⟩ | ⟨g, cap, rfl, hil⟩
  · have hfin : (0#32 == s &&& 16777215#32 &&& ~~~cyc R) = true := by
      have := HL.out.2.2
      rw [hnil] at this
      rw [beq_iff_eq]
      exact this
    clear hnil
    go_wp2_with (first | (go_at_call 15; refine (mCyclic_any _ _ _ hm1).mono ?_; rintro e w2 ⟨rfl, hm2, hf2⟩) | (go_at_call 32; refine (levels_any _ _ _ hm2).mono ?_; rintro e w3 ⟨rfl, hrow3, hf3⟩))
    go_loop [8, 9, 10, 11, 12] (fun sn i _ _ _ => sn = U 0#32 ∧ i = .int .i64 0) (fun _ _ _ _ _ => 0)
    case atStart => exact ⟨rfl, rfl⟩
    case round =>
      obtain ⟨rfl, rfl⟩ := hrel
      go_wp2
      go_ret
      exact ⟨rfl, hm2.fr0 hf3, (hf1.trans hf2).trans hf3.up⟩
  · go_wp2_with (first | (go_at_call 15; refine (mCyclic_any _ _ _ hm1).mono ?_; rintro e w2 ⟨rfl, hm2, hf2⟩) | (go_at_call 32; refine (levels_any _ _ _ hm2).mono ?_; rintro e w3 ⟨rfl, hrow3, hf3⟩))
    have hil3 := (hil.fr hf2 (fun k h => by omega)).fr hf3 (by simp)
    have hm3 := hm2.fr0 hf3
    have hf4 : Fr (fun k => k = b + 1) w w3 := (hf1.trans hf2).trans hf3.up
    clear hf1 hf2 hf3 hil hm hm1 hm2
    generalize w2.heap.size = lb at *
    go_loopw [8, 9, 10, 11, 12] (fun sn i _ _ _ wr => ∃ k : Nat, k ≤ L.length ∧ i = .int .i64 k ∧ sn = U (seenTo L k) ∧ Fr S0 w3 wr) (fun _ i _ _ _ _ => L.length - (intOf i).toNat)
    case atStart => exact ⟨0, by omega, rfl, rfl, Fr.refl _ _⟩
    case round =>
      obtain ⟨k, hk, rfl, rfl, hfr⟩ := hrel
      have hil := hil3.fr hfr (by simp)
      have hrow := hfr.row0 hrow3
      by_cases hlk : k < L.length
      · have hck := hil.cell k hlk
        have hk24 := HL.out.1 k hlk
        have hne := bit_ne hk24
        have hlv := hrow.cell _ hk24
        rcases Nat.eq_zero_or_pos k with rfl | hpos
        · go_wp2_with (go_at_call 17; refine (bit_any _ _ (by assumption)).mono ?_; rintro e w' ⟨rfl, rfl⟩)
          go_roundw
          case rel => exact ⟨0 + 1, by omega, by go_num, rfl, hfr⟩
          case measure => simp [intOf]; omega
        · obtain ⟨j, rfl⟩ : ∃ j, k = j + 1 := ⟨k - 1, by omega⟩
          have hcj := hil.cell j (by omega)
          have hj24 := HL.out.1 j (by omega)
          have hlj := hrow.cell _ hj24
          have hs := HL.out.2.1 j hlk
          have hle : lev R (nth L j) ≤ lev R (nth L (j + 1)) := by omega
          have hnlt : decide (lev R (nth L (j + 1)) < lev R (nth L j)) = false := by simp; omega
          have hb2 : Hid ((lev R (nth L j) == lev R (nth L (j + 1))) = true → nth L j < nth L (j + 1)) := by
            intro h
            simp at h
            omega
          clear hs
          have hpos' : (0 : Int) < ((j + 1 : Nat) : Int) := by omega
          go_wp2_with (go_at_call 17; refine (bit_any _ _ (by assumption)).mono ?_; rintro e w' ⟨rfl, rfl⟩)
          go_quiet (fail)
          go_wp2
          cases heq : (lev R (nth L j) == lev R (nth L (j + 1)))
          · go_quiet (fail)
            go_wp2
            go_roundw
            case rel => exact ⟨j + 1 + 1, by omega, by go_num, rfl, hfr.drewN _⟩
            case measure => simp [intOf]; omega
          · have hlt := hb2.out heq
            have hdl : decide ((nth L (j + 1) : Int) ≤ (nth L j : Int)) = false := by simp; omega
            go_quiet (fail)
            go_wp2
            go_roundw
            case rel => exact ⟨j + 1 + 1, by omega, by go_num, rfl, hfr.drewN _⟩
            case measure => simp [intOf]; omega
      · have hke : k = L.length := by omega
        have hfin : (seenTo L k == s &&& 16777215#32 &&& ~~~cyc R) = true := by
          rw [beq_iff_eq, hke]; exact HL.out.2.2
        clear hke
        go_wp2
        go_ret
        exact ⟨rfl, hm3.fr0 hfr, hf4.trans hfr.up⟩
theorem sorted_all (b : Nat) (R : Nat → BitVec 32) (w : World) (hm : MG w b R) (law : SortLaw R All) :
    Calls Try.prog 19 #[pt (b + 1), .int .u32 16777215] w fun e w' => e = .returned (.bool true) ∧ MG w' b R ∧ Fr (fun k => k = b + 1) w w' :=
  sorted_any b R All w hm law
/-- Keeps' tail: the loop over the cells, Leveled, Sorted. -/
theorem acc_all {x y : BitVec 32} (h : x = y) : (x != y) = false := by simp [h]
set_option maxRecDepth 100000 in
set_option maxHeartbeats 1000000 in
theorem keeps_any (b : Nat) (R : Nat → BitVec 32) (w : World) (hm : MG w b R) (law : KeepLaw R) (law2 : LevLaw R) (law3 : SortLaw R All) :
    Calls Try.prog 11 #[pt (b + 1)] w fun e w' => e = .returned (.bool true) ∧ MG w' b R ∧ Fr (fun k => k = b + 1) w w' := by
  have HL : Hid (KeepLawL R (ord R All)) := law
  have H2 : Hid (LevLaw R) := law2
  have H3 : Hid (SortLaw R All) := law3
  have hb1 : b + 1 < w.heap.size := by obtain ⟨_, _, ho⟩ := hm.obj; exact ho.lt
  have hlen : (ord R All).length ≤ 600 := by have := ordTo_len R All 24; unfold ord; omega
  clear law law2 law3
  go_enter Try.func11, Try.ntmps11
  go_wp2_with (go_at_call 14; refine (mOrder_all _ _ _ hm).mono ?_; rintro e w1 ⟨v, rfl, hv, hm1, hf1⟩)
  generalize ord R All = L at *
  have hsk1 : (seenTo L L.length &&& cyc R != 0#32) = false := by simp [HL.out.2.1]
  have hsk2 : (seenTo L L.length ||| cyc R != 16777215#32) = false := acc_all HL.out.2.2.1
  rcases hv with ⟨rfl, hnil⟩ | ⟨g, cap, rfl, hil⟩
  · have e2 : (cyc R != 16777215#32) = false := by
      have := HL.out.2.2.1
      rw [hnil] at this
      simp only [List.length_nil, seenTo, BitVec.zero_or] at this
      exact acc_all this
    clear hnil hsk1 hsk2
    go_wp2_with (go_at_call 15; refine (mCyclic_any _ _ _ hm1).mono ?_; rintro e w2 ⟨rfl, hm2, hf2⟩)
    go_loop [5, 6, 7, 8] (fun sn i _ _ => sn = U 0#32 ∧ i = .int .i64 0) (fun _ _ _ _ => 0)
    case atStart => exact ⟨rfl, rfl⟩
    case round =>
      obtain ⟨rfl, rfl⟩ := hrel
      go_wp2
      go_loop [9, 10, 11] (fun c' _ _ => ∃ k : Nat, k ≤ 24 ∧ c' = .int .i64 k) (fun c _ _ => 24 - (intOf c).toNat)
      case atStart => exact ⟨0, by omega, rfl⟩
      case round =>
        obtain ⟨k, hk, rfl⟩ := hrel
        by_cases hlk : k < 24
        · cases hc : (cyc R &&& bit k != 0#32)
          · go_wp2_with (first | (go_at_call 17; refine (bit_any _ _ (by assumption)).mono ?_; rintro e w' ⟨rfl, rfl⟩) | (go_at_call 16; refine (mReads_in _ _ _ _ hm2 hlk).mono ?_; rintro e w1 ⟨rfl, rfl⟩))
            go_round
            case rel => exact ⟨k + 1, by omega, by go_num⟩
            case measure => simp [intOf]; omega
          · have hr : (R k &&& cyc R == 0#32) = false := by rw [beq_eq_false_iff_ne]; exact HL.out.2.2.2 k hlk (by simpa using hc)
            go_wp2_with (first | (go_at_call 17; refine (bit_any _ _ (by assumption)).mono ?_; rintro e w' ⟨rfl, rfl⟩) | (go_at_call 16; refine (mReads_in _ _ _ _ hm2 hlk).mono ?_; rintro e w1 ⟨rfl, rfl⟩))
            go_round
            case rel => exact ⟨k + 1, by omega, by go_num⟩
            case measure => simp [intOf]; omega
        · go_wp2_with (first | (go_at_call 18; refine (leveled_any _ _ _ hm2 H2.out).mono ?_; rintro e w3 ⟨rfl, hm3, hf3⟩) | (go_at_call 19; refine (sorted_all _ _ _ hm3 H3.out).mono ?_; rintro e w4 ⟨rfl, hm4, hf4⟩))
          go_ret
          exact ⟨rfl, hm4, ((hf1.trans hf2).trans hf3).trans hf4⟩
  · go_wp2_with (go_at_call 15; refine (mCyclic_any _ _ _ hm1).mono ?_; rintro e w2 ⟨rfl, hm2, hf2⟩)
    have hil2 := hil.fr hf2 (fun k h => by omega)
    go_loop [5, 6, 7, 8] (fun sn i _ _ => ∃ k : Nat, k ≤ L.length ∧ i = .int .i64 k ∧ sn = U (seenTo L k)) (fun _ i _ _ => L.length - (intOf i).toNat)
    case atStart => exact ⟨0, by omega, rfl, rfl⟩
    case round =>
      obtain ⟨k, hk, rfl, rfl⟩ := hrel
      by_cases hlk : k < L.length
      · have hck := hil2.cell k hlk
        obtain ⟨hk24, hk1, hk2⟩ := HL.out.1 k hlk
        have hne := bit_ne hk24
        have ht1 : (R (nth L k) &&& ~~~seenTo L k != 0#32) = false := by simp [hk1]
        have ht2 : (seenTo L k &&& bit (nth L k) != 0#32) = false := by simp [hk2]
        clear hk1 hk2
        go_wp2_with (first | (go_at_call 17; refine (bit_any _ _ (by assumption)).mono ?_; rintro e w' ⟨rfl, rfl⟩) | (go_at_call 16; refine (mReads_in _ _ _ _ hm2 hk24).mono ?_; rintro e w1 ⟨rfl, rfl⟩))
        go_round
        case rel => exact ⟨k + 1, by omega, by go_num, rfl⟩
        case measure => simp [intOf]; omega
      · have hke : k = L.length := by omega
        rw [← hke] at hsk1 hsk2
        clear hke
        go_wp2
        go_loop [9, 10, 11] (fun c' _ _ => ∃ k : Nat, k ≤ 24 ∧ c' = .int .i64 k) (fun c _ _ => 24 - (intOf c).toNat)
        case atStart => exact ⟨0, by omega, rfl⟩
        case round =>
          obtain ⟨k, hk, rfl⟩ := hrel
          by_cases hlk : k < 24
          · cases hc : (cyc R &&& bit k != 0#32)
            · go_wp2_with (first | (go_at_call 17; refine (bit_any _ _ (by assumption)).mono ?_; rintro e w' ⟨rfl, rfl⟩) | (go_at_call 16; refine (mReads_in _ _ _ _ hm2 hlk).mono ?_; rintro e w1 ⟨rfl, rfl⟩))
              go_round
              case rel => exact ⟨k + 1, by omega, by go_num⟩
              case measure => simp [intOf]; omega
            · have hr : (R k &&& cyc R == 0#32) = false := by rw [beq_eq_false_iff_ne]; exact HL.out.2.2.2 k hlk (by simpa using hc)
              go_wp2_with (first | (go_at_call 17; refine (bit_any _ _ (by assumption)).mono ?_; rintro e w' ⟨rfl, rfl⟩) | (go_at_call 16; refine (mReads_in _ _ _ _ hm2 hlk).mono ?_; rintro e w1 ⟨rfl, rfl⟩))
              go_round
              case rel => exact ⟨k + 1, by omega, by go_num⟩
              case measure => simp [intOf]; omega
          · go_wp2_with (first | (go_at_call 18; refine (leveled_any _ _ _ hm2 H2.out).mono ?_; rintro e w3 ⟨rfl, hm3, hf3⟩) | (go_at_call 19; refine (sorted_all _ _ _ hm3 H3.out).mono ?_; rintro e w4 ⟨rfl, hm4, hf4⟩))
            go_ret
            exact ⟨rfl, hm4, ((hf1.trans hf2).trans hf3).trans hf4⟩
end Go.Proofs.Qxb6500330a
