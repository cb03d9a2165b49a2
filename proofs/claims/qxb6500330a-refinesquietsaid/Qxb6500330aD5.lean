import Derived.Test.Qxb6500330aD4
namespace Go.Proofs.Qxb6500330a
set_option linter.unusedVariables false
set_option linter.unusedSimpArgs false
open Go.RowKit
attribute [local go_sem] bv_and bv_or bv_andNot bv_and_all bv_andNot_all bv_all_andNot bv_eq_all bv_ne_all bv_pred bv_pred' bv_eq_zero bv_ne_zero bv_eq bv_ne bv_bit

theorem sameOrder_all {w0 : World} (B : Nat) (R : Nat → BitVec 32) (M : Nat) (w : World) (h : Law w0 w B R M) (hM : M ≤ 1152921504606846976) :
    Calls Try.prog 29 #[pt B, pt (B + 5 + 1), pt (B + 7), .int .u32 16777215] w fun e w' => e = .returned (.bool true) ∧ Law w0 w' B R (M + 1) := sameOrder_any B R M All w h hM
theorem thrift_law {w0 : World} (B : Nat) (R : Nat → BitVec 32) (M : Nat) (w : World) (h : Law w0 w B R M) :
    Calls Try.prog 30 #[pt B, pt (B + 7)] w fun e w' => e = .returned (.bool true) ∧ w = w' := by
  obtain ⟨x, lid, fl, n, olds, hx, hi, hd, hn, hr, h1, h2, h3, h4⟩ := h.x
  exact thrift_any B (B + 7) x lid fl n olds w hx hd h2 h3
theorem check_law {w0 : World} (B : Nat) (R : Nat → BitVec 32) (M : Nat) (w : World) (h : Law w0 w B R M) :
    Calls Try.prog 20 #[pt B] w fun e w' => e = .returned (.bool true) ∧ Law w0 w' B R M := by
  have HH := h
  obtain ⟨x, lid, fl, n, olds, hx, hi, hd, hn, hr, h1, h2, h3, h4⟩ := h.x
  refine (xCheck_any B x R w hx hi ⟨by omega, h4⟩).mono ?_
  rintro e w' ⟨rfl, hf⟩
  exact ⟨rfl, HH.fr0 hf⟩
set_option maxRecDepth 100000 in
set_option maxHeartbeats 1000000 in
theorem alike_any {w0 : World} (B : Nat) (R : Nat → BitVec 32) (M : Nat) (w : World) (h : Law w0 w B R M) (hM : M ≤ 1152921504606846976) :
    Calls Try.prog 21 #[pt B, pt (B + 5 + 1), pt (B + 7)] w fun e w' => e = .returned (.bool true) ∧ Law w0 w' B R (M + 1) := by
  go_enter Try.func21, Try.ntmps21
  go_wp2
  go_loopw [7] (fun c wr => ∃ k : Nat, k ≤ 26 ∧ c = .int .i64 ((k : Int) - 1) ∧ Law w0 wr B R M) (fun c _ => (25 - intOf c).toNat)
  case atStart => exact ⟨0, by omega, rfl, h⟩
  case round =>
    clear h
    obtain ⟨k, hk, rfl, h⟩ := hrel
    by_cases hlk : k < 26
    · have hle : ((k : Int) - 1) ≤ 24 := by omega
      go_wp2_with (first | (go_at_call 24; refine (sameReads_any _ _ _ _ _ h).mono ?_; rintro e w' ⟨rfl, rfl⟩) | (go_at_call 28; refine (sameLevel_any _ _ _ _ _ h).mono ?_; rintro e w1 ⟨rfl, h1⟩))
      go_roundw
      case rel => exact ⟨k + 1, by omega, by go_num, h1⟩
      case measure => simp [intOf]; omega
    · have hle : ¬ ((k : Int) - 1) ≤ 24 := by omega
      have hled : decide (((k : Int) - 1) ≤ 24) = false := by simp; omega
      go_wp2_with (go_at_call 27; refine (sameCyclic_any _ _ _ _ h).mono ?_; rintro e w1 ⟨rfl, h1⟩)
      go_loopw [8, 9] (fun c _ wr => ∃ j : Nat, j ≤ 24 ∧ c = .int .i64 j ∧ Law w0 wr B R M) (fun c _ _ => 24 - (intOf c).toNat)
      case atStart => exact ⟨0, by omega, rfl, h1⟩
      case round =>
        clear h h1
        obtain ⟨j, hj, rfl, h⟩ := hrel
        by_cases hlj : j < 24
        · go_wp2_with (first | (go_at_call 17; refine (bit_any _ _ hlj).mono ?_; rintro e w' ⟨rfl, rfl⟩) | (go_at_call 26; refine (sameHang_any _ _ _ _ _ h).mono ?_; rintro e w1 ⟨rfl, h1⟩))
          go_roundw
          case rel => exact ⟨j + 1, by omega, by go_num, h1⟩
          case measure => simp [intOf]; omega
        · go_wp2_with (first | (go_at_call 29; refine (sameOrder_all _ _ _ _ h hM).mono ?_; rintro e w1 ⟨rfl, h1⟩) | (go_at_call 30; refine (thrift_law _ _ _ _ h1).mono ?_; rintro e w' ⟨rfl, rfl⟩))
          go_ret
          exact ⟨rfl, h1⟩
set_option maxHeartbeats 400000 in
theorem seen_any {w0 : World} (B : Nat) (R : Nat → BitVec 32) (M : Nat) (w : World) (h : Law w0 w B R M) (hM : M ≤ 1152921504606846976) :
    Calls Try.prog 12 #[pt B, pt (B + 5 + 1), pt (B + 7)] w fun e w' => e = .returned (.bool true) ∧ Law w0 w' B R (M + 1) := by
  go_enter Try.func12, Try.ntmps12
  go_wp2_with (first | (go_at_call 20; refine (check_law _ _ _ _ h).mono ?_; rintro e w1 ⟨rfl, h1⟩) | (go_at_call 21; refine (alike_any _ _ _ _ h1 hM).mono ?_; rintro e w2 ⟨rfl, h2⟩))
  go_ret
  exact ⟨rfl, h2⟩
theorem hung_law {w0 : World} (B : Nat) (R : Nat → BitVec 32) (M : Nat) (s : BitVec 32) (w : World) (h : Law w0 w B R M) :
    Calls Try.prog 25 #[pt (B + 5 + 1), U s] w fun e w' => e = .returned (.bool true) ∧ Law w0 w' B R M := by
  refine (hung_any (B + 5) R s w h.m (hungLaw R h.hR s)).mono ?_
  rintro e w' ⟨rfl, hm, hf⟩
  exact ⟨rfl, h.frm hm hf⟩
theorem sorted_law {w0 : World} (B : Nat) (R : Nat → BitVec 32) (M : Nat) (s : BitVec 32) (w : World) (h : Law w0 w B R M) :
    Calls Try.prog 19 #[pt (B + 5 + 1), U s] w fun e w' => e = .returned (.bool true) ∧ Law w0 w' B R M := by
  refine (sorted_any (B + 5) R s w h.m (sortLaw R s)).mono ?_
  rintro e w' ⟨rfl, hm, hf⟩
  exact ⟨rfl, h.frm hm hf⟩
theorem keeps_law {w0 : World} (B : Nat) (R : Nat → BitVec 32) (M : Nat) (w : World) (h : Law w0 w B R M) :
    Calls Try.prog 11 #[pt (B + 5 + 1)] w fun e w' => e = .returned (.bool true) ∧ Law w0 w' B R M := by
  refine (keeps_any (B + 5) R w h.m (keepLaw R h.hR) (levLaw R h.hR) (sortLaw R All)).mono ?_
  rintro e w' ⟨rfl, hm, hf⟩
  exact ⟨rfl, h.frm hm hf⟩
theorem sameSet_law {w0 : World} (B : Nat) (R : Nat → BitVec 32) (M : Nat) (c : Int) (s : BitVec 32) (w : World) (h : Law w0 w B R M) :
    Calls Try.prog 23 #[pt B, pt (B + 5 + 1), pt (B + 7), .int .i64 c, U s] w fun e w' => e = .returned (.bool true) ∧ ∃ R', Law w0 w' B R' M := by
  by_cases hg : good c s
  · obtain ⟨h1, h2, h3⟩ := hg
    obtain ⟨k, rfl⟩ := Int.eq_ofNat_of_zero_le h1
    refine (sameSet_ok B R M k s w h (by omega) h3).mono ?_
    rintro e w' ⟨rfl, hl⟩
    exact ⟨rfl, _, hl⟩
  · refine (sameSet_bad B R M c s w h hg).mono ?_
    rintro e w' ⟨rfl, hl⟩
    exact ⟨rfl, _, hl⟩
/-- An op, as a value. -/
abbrev opV (kd a b c : Int) (S T : ByteArray) : Value := .agg #[.int .i64 kd, .int .i64 a, .int .i64 b, .int .i64 c, .string S, .string T]
set_option maxRecDepth 100000 in
set_option maxHeartbeats 2000000 in
theorem play_any {w0 : World} (B : Nat) (R : Nat → BitVec 32) (M : Nat) (kd a b c : Int) (S T : ByteArray) (w : World) (h : Law w0 w B R M) (hM : M ≤ 1152921504606846976) (hb : -9223372036854775808 ≤ b ∧ b ≤ 9223372036854775807) :
    Calls Try.prog 13 #[pt B, pt (B + 5 + 1), pt (B + 7), opV kd a b c S T] w fun e w' => e = .returned (.bool true) ∧ ∃ R', Law w0 w' B R' (M + 1) := by
  have hL := h.fr0 ((Fr.refl S0 w).alloc (.cells #[.int .i64 kd, .int .i64 a, .int .i64 b, .int .i64 c, .string S, .string T] 42))
  clear h
  by_cases h1 : kd = 1
  · subst h1
    go_enter Try.func13, Try.ntmps13
    go_wp2_with (first | (go_at_call 22; refine (mask_any _ _ hb).mono ?_; rintro e w' ⟨s, rfl, rfl⟩) | (go_at_call 23; refine (sameSet_law _ _ _ _ _ _ hL).mono ?_; rintro e w1 ⟨rfl, R', h1⟩))
    go_ret
    exact ⟨rfl, _, h1.up (by omega)⟩
  by_cases h2 : kd = 2
  · subst h2
    go_enter Try.func13, Try.ntmps13
    go_wp2_with (first | (go_at_call 22; refine (mask_any _ _ hb).mono ?_; rintro e w' ⟨s, rfl, rfl⟩) | (go_at_call 24; refine (sameReads_any _ _ _ _ _ hL).mono ?_; rintro e w' ⟨rfl, rfl⟩))
    go_ret
    exact ⟨rfl, _, hL.up (by omega)⟩
  by_cases h3 : kd = 3
  · subst h3
    go_enter Try.func13, Try.ntmps13
    go_wp2_with (first | (go_at_call 22; refine (mask_any _ _ hb).mono ?_; rintro e w' ⟨s, rfl, rfl⟩) | (go_at_call 25; refine (hung_law _ _ _ _ _ hL).mono ?_; rintro e w1 ⟨rfl, h1⟩) | (go_at_call 26; refine (sameHang_any _ _ _ _ _ h1).mono ?_; rintro e w2 ⟨rfl, h2⟩))
    go_ret
    exact ⟨rfl, _, h2.up (by omega)⟩
  by_cases h4 : kd = 4
  · subst h4
    go_enter Try.func13, Try.ntmps13
    go_wp2_with (first | (go_at_call 22; refine (mask_any _ _ hb).mono ?_; rintro e w' ⟨s, rfl, rfl⟩) | (go_at_call 27; refine (sameCyclic_any _ _ _ _ hL).mono ?_; rintro e w1 ⟨rfl, h1⟩))
    go_ret
    exact ⟨rfl, _, h1.up (by omega)⟩
  by_cases h5 : kd = 5
  · subst h5
    go_enter Try.func13, Try.ntmps13
    go_wp2_with (first | (go_at_call 22; refine (mask_any _ _ hb).mono ?_; rintro e w' ⟨s, rfl, rfl⟩) | (go_at_call 28; refine (sameLevel_any _ _ _ _ _ hL).mono ?_; rintro e w1 ⟨rfl, h1⟩))
    go_ret
    exact ⟨rfl, _, h1.up (by omega)⟩
  by_cases h6 : kd = 6
  · subst h6
    go_enter Try.func13, Try.ntmps13
    go_wp2_with (first | (go_at_call 22; refine (mask_any _ _ hb).mono ?_; rintro e w' ⟨s, rfl, rfl⟩) | (go_at_call 19; refine (sorted_law _ _ _ _ _ hL).mono ?_; rintro e w1 ⟨rfl, h1⟩) | (go_at_call 29; refine (sameOrder_any _ _ _ _ _ h1 hM).mono ?_; rintro e w2 ⟨rfl, h2⟩))
    go_ret
    exact ⟨rfl, _, h2⟩
  by_cases h7 : kd = 7
  · subst h7
    go_enter Try.func13, Try.ntmps13
    go_wp2_with (first | (go_at_call 22; refine (mask_any _ _ hb).mono ?_; rintro e w' ⟨s, rfl, rfl⟩) | (go_at_call 30; refine (thrift_law _ _ _ _ hL).mono ?_; rintro e w' ⟨rfl, rfl⟩))
    go_ret
    exact ⟨rfl, _, hL.up (by omega)⟩
  by_cases h8 : kd = 8
  · subst h8
    go_enter Try.func13, Try.ntmps13
    go_wp2_with (first | (go_at_call 22; refine (mask_any _ _ hb).mono ?_; rintro e w' ⟨s, rfl, rfl⟩) | (go_at_call 20; refine (check_law _ _ _ _ hL).mono ?_; rintro e w1 ⟨rfl, h1⟩))
    go_ret
    exact ⟨rfl, _, h1.up (by omega)⟩
  have e1 : (kd == 1) = false := by simpa using h1
  have e2 : (kd == 2) = false := by simpa using h2
  have e3 : (kd == 3) = false := by simpa using h3
  have e4 : (kd == 4) = false := by simpa using h4
  have e5 : (kd == 5) = false := by simpa using h5
  have e6 : (kd == 6) = false := by simpa using h6
  have e7 : (kd == 7) = false := by simpa using h7
  have e8 : (kd == 8) = false := by simpa using h8
  clear h1 h2 h3 h4 h5 h6 h7 h8
  go_enter Try.func13, Try.ntmps13
  go_wp2_with (go_at_call 22; refine (mask_any _ _ hb).mono ?_; rintro e w' ⟨s, rfl, rfl⟩)
  go_ret
  exact ⟨rfl, _, hL.up (by omega)⟩
end Go.Proofs.Qxb6500330a
