import Derived.Test.Qxb6500326aGreatGW1
import Derived.Test.Qxb6500326aGreatGSets
namespace Go.Proofs.Qxb6500326aGreat.Gr
set_option maxRecDepth 100000
set_option linter.unusedVariables false
set_option linter.unusedSimpArgs false
open Go.RowKit
attribute [local go_sem] bv_and bv_or bv_andNot bv_and_all bv_andNot_all bv_all_andNot bv_eq_all bv_ne_all bv_pred bv_pred' bv_eq_zero bv_ne_zero bv_eq bv_ne bv_bit

/-! ### graph.first -/
theorem and_mask (x : Int) (k : Nat) (hk : k ≤ 32) : bits .and .u32 x ((2 ^ k - 1 : Nat) : Int) = x % 2 ^ k := by
  have e : BitVec.ofInt 32 ((2 ^ k - 1 : Nat) : Int) = BitVec.ofNat 32 (2 ^ k - 1) := BitVec.ofInt_natCast 32 _
  show IntKind.u32.wrap ((BitVec.ofInt 32 x &&& BitVec.ofInt 32 ((2 ^ k - 1 : Nat) : Int)).toNat : Int) = _
  rw [u32_back, e, BitVec.toNat_and, BitVec.toNat_ofNat]
  have h1 : (2 ^ k - 1) % 2 ^ 32 = 2 ^ k - 1 := Nat.mod_eq_of_lt (by have := Nat.pow_le_pow_right (n := 2) (by omega) hk; have := Nat.two_pow_pos k; omega)
  rw [h1, Nat.and_two_pow_sub_one_eq_mod, BitVec.toNat_ofInt]
  have h2 : (((x % (2 ^ 32 : Nat)).toNat % 2 ^ k : Nat) : Int) = (x % (2 ^ 32 : Nat)) % 2 ^ k := by
    rw [Int.natCast_emod, Int.toNat_of_nonneg (Int.emod_nonneg _ (by decide))]; simp
  rw [h2]
  exact Int.emod_emod_of_dvd _ (by exact_mod_cast Nat.pow_dvd_pow 2 hk)
theorem b16 (x : Int) : bits .and .u32 x 65535 = x % 65536 := and_mask x 16 (by omega)
theorem b8 (x : Int) : bits .and .u32 x 255 = x % 256 := and_mask x 8 (by omega)
theorem b4 (x : Int) : bits .and .u32 x 15 = x % 16 := and_mask x 4 (by omega)
theorem b2 (x : Int) : bits .and .u32 x 3 = x % 4 := and_mask x 2 (by omega)
theorem b1 (x : Int) : bits .and .u32 x 1 = x % 2 := and_mask x 1 (by omega)
theorem lo_of {s : BitVec 32} {x : Int} (hx : uN s = x) (n : Nat) (h1 : x % 2 ^ n = 0) (h2 : x / 2 ^ n % 2 = 1) : (n : Int) = (lo s : Nat) := by
  have hx' : (s.toNat : Int) = x := hx
  subst hx'
  have e1 : s.toNat % 2 ^ n = 0 := by exact_mod_cast h1
  have e2 : s.toNat / 2 ^ n % 2 = 1 := by exact_mod_cast h2
  have : lo s = n := by
    apply lo_unique
    · rw [← BitVec.testBit_toNat, Nat.testBit_eq_decide_div_mod_eq]; simp [e2]
    · intro j hj
      have h3 : (s.toNat % 2 ^ n).testBit j = false := by rw [e1]; simp
      rw [Nat.testBit_mod_two_pow] at h3
      rw [← BitVec.testBit_toNat]
      simpa [hj] using h3
  rw [this]
theorem lo_ret {s : BitVec 32} {x : Int} (hx : uN s = x) (k : Int) (hk : 0 ≤ k) (h1 : x % 2 ^ k.toNat = 0) (h2 : x / 2 ^ k.toNat % 2 = 1) : Ending.returned (.int .i64 k) = Ending.returned (.int .i64 (lo s : Nat)) := by
  rw [← lo_of hx k.toNat h1 h2, Int.toNat_of_nonneg hk]
section
attribute [local go_sem] b16 b8 b4 b2 b1
set_option maxHeartbeats 2000000 in
theorem first_any (s : BitVec 32) (w : World) (h0 : s ≠ 0#32) :
    Calls Tryz.prog 155 #[U s] w fun e w' => e = .returned (.int .i64 (lo s : Nat)) ∧ w = w' := by
  obtain ⟨x, hx⟩ : ∃ x, uN s = x := ⟨_, rfl⟩
  have hb := uN_bd s
  have hn : x ≠ 0 := by
    intro h
    apply h0
    apply uN_inj
    rw [hx, h]
    rfl
  have H : Hid (uN s = x) := hx
  unfold U
  rw [hx] at hb ⊢
  obtain ⟨hb0, hb1⟩ := hb
  clear hx
  have H2 : Hid (x ≠ 0) := hn
  clear hn h0
  go_enter Tryz.func155, Tryz.ntmps155
  go_wp2
  all_goals
    go_ret
    have hn := H2.out
    simp only [beq_iff_eq, beq_eq_false_iff_ne, ne_eq] at *
    exact ⟨lo_ret H.out _ (by decide) (by first | omega | (simp; omega) | simp) (by first | omega | (simp; omega) | simp), trivial⟩
end
/-! ### the observers -/
set_option maxHeartbeats 400000 in
theorem xReads_in (b : Nat) (x : XS) (c : Nat) (w : World) (hx : XG w b x) (h : c < 24) :
    Calls Tryz.prog 157 #[pt b, .int .i64 c] w fun e w' => e = .returned (U (x.reads c)) ∧ w = w' := by
  have h0 := hx.c0
  have h1 := hx.r.cell c h
  clear hx
  go_enter Tryz.func157, Tryz.ntmps157
  go_wp2
  go_ret
  exact ⟨rfl, rfl⟩
set_option maxHeartbeats 400000 in
theorem xReads_out (b : Nat) (c : Int) (w : World) (h : ¬ (0 ≤ c ∧ c < 24)) :
    Calls Tryz.prog 157 #[pt b, .int .i64 c] w fun e w' => e = .returned (U 0#32) ∧ w = w' := by
  by_cases h0 : c < 0
  · go_enter Tryz.func157, Tryz.ntmps157
    go_wp2
    go_ret
    exact ⟨rfl, rfl⟩
  · have hd : decide (c < 0) = false := by simpa using h0
    have h1 : 24 ≤ c := by omega
    go_enter Tryz.func157, Tryz.ntmps157
    go_wp2
    go_ret
    exact ⟨rfl, rfl⟩
set_option maxHeartbeats 400000 in
theorem xCyclic_any (b : Nat) (x : XS) (w : World) (hx : XG w b x) :
    Calls Tryz.prog 126 #[pt b] w fun e w' => e = .returned (U x.cyc) ∧ w = w' := by
  have h0 := hx.c3
  clear hx
  go_enter Tryz.func126, Tryz.ntmps126
  go_wp2
  go_ret
  exact ⟨rfl, rfl⟩
theorem mem_All_and {s : BitVec 32} {i : Nat} (h : (s &&& All).getLsbD i = true) : i < 24 := by
  rw [mem_and, mem_All, Bool.and_eq_true] at h
  simpa using h.2
theorem one_le_uN {x : BitVec 32} (h : x ≠ 0#32) : 1 ≤ uN x := by
  have h1 := (uN_bd x).1
  rcases Int.lt_or_eq_of_le h1 with h2 | h2
  · omega
  · exfalso; apply h; apply uN_inj; rw [← h2]; rfl
set_option maxHeartbeats 400000 in
theorem xHang_any (b : Nat) (x : XS) (s : BitVec 32) (w : World) (hx : XG w b x) (hrb : ∀ d, d < 24 → ∀ c, (x.readBy d).getLsbD c = true → c < 24) :
    Calls Tryz.prog 125 #[pt b, U s] w fun e w' => ∃ h, e = .returned (U h) ∧ HInv x.readBy (s &&& All) h 0#32 ∧ w = w' := by
  have h1 := hx.c1
  have hc := hx.rb.cell
  have HR : Hid (∀ d, d < 24 → ∀ c, (x.readBy d).getLsbD c = true → c < 24) := hrb
  clear hx hrb
  go_enter Tryz.func125, Tryz.ntmps125
  go_wp2
  go_loop [1, 5, 6, 7] (fun st td _ _ => ∃ S T : BitVec 32, st = U S ∧ td = U T ∧ HInv x.readBy (s &&& All) S T) (fun st td _ _ => pc (~~~(bvOf st)) + pc (bvOf td))
  case atStart => exact ⟨_, _, rfl, rfl, HInv.begin _ _ (fun i hi => mem_All_and hi)⟩
  case round =>
    obtain ⟨S, T, rfl, rfl, hi⟩ := hrel
    by_cases hz : T = 0#32
    · subst hz
      go_wp2
      go_ret
      exact ⟨_, rfl, hi, rfl⟩
    · have hz1 : (T != 0#32) = true := by simpa using hz
      have hlo := hi.low hz
      have hcl := hc (lo T) hlo
      have hp := one_le_uN hz
      have HN := hide (hi.next hz HR.out)
      clear hc
      go_wp2_with (go_at_call 155; refine (first_any _ _ (by assumption)).mono ?_; rintro e w' ⟨rfl, rfl⟩)
      go_round
      case rel => exact ⟨_, _, rfl, rfl, HN.out.1⟩
      case measure => simp only [bvOf_U]; exact HN.out.2
theorem topTo_bd {l : Nat → Int} {r : BitVec 32} (h : ∀ d, d < 24 → l d < 24) : ∀ k, k ≤ 24 → 0 ≤ topTo l r k ∧ topTo l r k ≤ 24 := by
  intro k
  induction k with
  | zero => intro _; simp [topTo]
  | succ k ih =>
    intro hk
    have := ih (by omega)
    have := h k (by omega)
    rw [show topTo l r (k + 1) = if r.getLsbD k && decide (topTo l r k ≤ l k) then l k + 1 else topTo l r k from rfl]
    split
    · rename_i hc
      simp at hc
      omega
    · omega
set_option maxHeartbeats 400000 in
theorem xTop_any (b : Nat) (x : XS) (s : BitVec 32) (w : World) (hx : XG w b x) (hs : ∀ i, s.getLsbD i = true → i < 24) (hl : ∀ d, d < 24 → -1 ≤ x.level d ∧ x.level d < 24) :
    Calls Tryz.prog 183 #[pt b, U s] w fun e w' => e = .returned (I (topTo x.level s 24)) ∧ w = w' := by
  have h2 := hx.c2
  have hc := hx.lv.cell
  have HS : Hid (∀ i, s.getLsbD i = true → i < 24) := hs
  have HL : Hid (∀ d, d < 24 → -1 ≤ x.level d ∧ x.level d < 24) := hl
  clear hx hs hl
  go_enter Tryz.func183, Tryz.ntmps183
  go_wp2
  go_loop [5, 6, 7] (fun t st _ => ∃ k : Nat, k ≤ 24 ∧ st = U (above s k) ∧ t = I (topTo x.level s k)) (fun _ st _ => pc (bvOf st))
  case atStart => exact ⟨0, by omega, by rw [above_zero], rfl⟩
  case round =>
    obtain ⟨k, hk, rfl, rfl⟩ := hrel
    by_cases hz : above s k = 0#32
    · have hz1 : (above s k != 0#32) = false := by simpa using hz
      have HE : Hid (topTo x.level s 24 = topTo x.level s k) := topTo_skip hk (fun j h1 _ => above_end hz j h1)
      clear hz hc
      go_wp2
      go_ret
      exact ⟨by rw [HE.out]; rfl, rfl⟩
    · have hz1 : (above s k != 0#32) = true := by simpa using hz
      obtain ⟨ha1, ha2, ha3, ha4, ha5⟩ := above_lo hz
      have hlo : lo (above s k) < 24 := HS.out _ ha3
      have hcl := hc _ hlo
      have hbd := HL.out _ hlo
      have htb := topTo_bd (r := s) (fun d hd => (HL.out d hd).2) k hk
      have hp := one_le_uN hz
      have HM := hide (above_dec hz)
      have H3 := hide ha3
      have HT : Hid (topTo x.level s (lo (above s k)) = topTo x.level s k) := topTo_skip ha1 ha4
      have H5 := hide ha5
      clear hc ha3 ha4 ha5
      by_cases ht : topTo x.level s k ≤ x.level (lo (above s k))
      · go_wp2_with (go_at_call 155; refine (first_any _ _ (by assumption)).mono ?_; rintro e w' ⟨rfl, rfl⟩)
        go_round
        case rel =>
          refine ⟨lo (above s k) + 1, by omega, by rw [H5.out], ?_⟩
          rw [show topTo x.level s (lo (above s k) + 1) = if s.getLsbD (lo (above s k)) && decide (topTo x.level s (lo (above s k)) ≤ x.level (lo (above s k))) then x.level (lo (above s k)) + 1 else topTo x.level s (lo (above s k)) from rfl, HT.out, H3.out]
          simp only [ht, decide_true, Bool.true_and, if_true]
        case measure => simp only [bvOf_U, H5.out]; exact HM.out
      · have htd : decide (topTo x.level s k ≤ x.level (lo (above s k))) = false := by simpa using ht
        go_wp2_with (go_at_call 155; refine (first_any _ _ (by assumption)).mono ?_; rintro e w' ⟨rfl, rfl⟩)
        go_round
        case rel =>
          refine ⟨lo (above s k) + 1, by omega, by rw [H5.out], ?_⟩
          rw [show topTo x.level s (lo (above s k) + 1) = if s.getLsbD (lo (above s k)) && decide (topTo x.level s (lo (above s k)) ≤ x.level (lo (above s k))) then x.level (lo (above s k)) + 1 else topTo x.level s (lo (above s k)) from rfl, HT.out, H3.out]
          simp only [htd, Bool.and_false, Bool.false_eq_true, if_false]
        case measure => simp only [bvOf_U, H5.out]; exact HM.out
end Go.Proofs.Qxb6500326aGreat.Gr
