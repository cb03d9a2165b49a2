import Derived.Test.Qxb6500329aL9
import Derived.Test.Qxb6500329aQ4
namespace Go.Proofs.Qxb6500329a
set_option linter.unusedVariables false
set_option linter.unusedSimpArgs false
open Go.RowKit Go.PlainAid
set_option maxRecDepth 100000 in
set_option maxHeartbeats 2000000 in
theorem str_any (x : Nd) (w : World) : Calls Try.prog 66 #[ndV x] w fun e w' => e = .returned (I (level x)) ∧ Fr S0 w w' := by
  have hl : Bx (level x = if x.kind = 6 then 4 else if x.kind ≠ 7 then 5 else if x.op ≤ 6 then 1 else if x.op ≤ 8 then 2 else 3) := Bx.mk rfl
  by_cases h6 : x.kind = 6
  · have hr : Bx (level x = 4) := Bx.mk (by rw [hl.out, if_pos h6])
    have d6 : (x.kind == 6) = true := by simpa using h6
    clear h6 hl
    go_enter Try.func66, Try.ntmps66
    go_wp2
    go_ret
    rw [hr.out]
    exact ⟨rfl, (Fr.refl _ _).alloc _⟩
  · have d6 : (x.kind == 6) = false := by simpa using h6
    by_cases h7 : x.kind = 7
    · have d7 : (x.kind != 7) = false := by simpa using h7
      by_cases h1 : x.op ≤ 6
      · have hr : Bx (level x = 1) := Bx.mk (by rw [hl.out, if_neg h6, if_neg (by omega), if_pos h1])
        have d1 : decide (x.op ≤ 6) = true := decide_eq_true h1
        clear h6 hl h7 h1
        go_enter Try.func66, Try.ntmps66
        go_wp2
        go_ret
        rw [hr.out]
        exact ⟨rfl, (Fr.refl _ _).alloc _⟩
      · have d1 : decide (x.op ≤ 6) = false := decide_eq_false h1
        by_cases h2 : x.op ≤ 8
        · have hr : Bx (level x = 2) := Bx.mk (by rw [hl.out, if_neg h6, if_neg (by omega), if_neg h1, if_pos h2])
          have d2 : decide (x.op ≤ 8) = true := decide_eq_true h2
          clear h6 hl h7 h1 h2
          go_enter Try.func66, Try.ntmps66
          go_wp2
          go_ret
          rw [hr.out]
          exact ⟨rfl, (Fr.refl _ _).alloc _⟩
        · have hr : Bx (level x = 3) := Bx.mk (by rw [hl.out, if_neg h6, if_neg (by omega), if_neg h1, if_neg h2])
          have d2 : decide (x.op ≤ 8) = false := decide_eq_false h2
          clear h6 hl h7 h1 h2
          go_enter Try.func66, Try.ntmps66
          go_wp2
          go_ret
          rw [hr.out]
          exact ⟨rfl, (Fr.refl _ _).alloc _⟩
    · have hr : Bx (level x = 5) := Bx.mk (by rw [hl.out, if_neg h6, if_pos h7])
      have d7 : (x.kind != 7) = true := by simpa using h7
      clear h6 hl h7
      go_enter Try.func66, Try.ntmps66
      go_wp2
      go_ret
      rw [hr.out]
      exact ⟨rfl, (Fr.refl _ _).alloc _⟩
theorem opens_le : ∀ (w : List Int), opens w ≤ w.length
  | [] => Nat.le_refl _
  | c :: w => by
    have := opens_le w
    show b2n (c == 40) + opens w ≤ w.length + 1
    cases (c == 40)
    · show 0 + opens w ≤ _; omega
    · show 1 + opens w ≤ _; omega
set_option maxRecDepth 100000 in
set_option maxHeartbeats 2000000 in
theorem opens_any (s : ByteArray) (w : World) (hs : s.size ≤ 1000) : Calls Try.prog 53 #[.string s] w fun e w' => e = .returned (I (opens (lst s))) ∧ w' = w := by
  have hb := get_bt s
  have hll : (lst s).length = s.size := lst_len s
  have hop := opens_le (lst s)
  have hz : Bx (∀ k, k < s.size → (lst s).drop k = bt s k :: (lst s).drop (k + 1)) := Bx.mk (fun k hk => by
    have := bt_lst s k hk
    obtain ⟨h1, h2⟩ := List.getElem?_eq_some_iff.1 this
    rw [List.drop_eq_getElem_cons h1, h2])
  go_enter Try.func53, Try.ntmps53
  go_wp2_with fail
  go_loopw [3, 4] (fun kk ii wr => ∃ (k i : Nat), kk = I k ∧ ii = I i ∧ i ≤ s.size ∧ k + opens ((lst s).drop i) = opens (lst s) ∧ wr = w) (fun _ ii _ => s.size - (intOf ii).toNat)
  case atStart => exact ⟨0, 0, rfl, rfl, Nat.zero_le _, by simp, rfl⟩
  case round =>
    obtain ⟨k, i, rfl, rfl, hi, hk, rfl⟩ := hrel
    by_cases hlt : i < s.size
    · have hd : decide ((i : Int) < (s.size : Int)) = true := decide_eq_true (by omega)
      have hcb1 := bt_nonneg s i
      have hcb2 := bt_le s i
      have hk2 := hk
      rw [hz.out i hlt] at hk2
      have hks : k ≤ 1000 := by omega
      by_cases h40 : bt s i = 40
      · have d40 : (bt s i == 40) = true := by simpa using h40
        have hkB : Bx (k + 1 + opens ((lst s).drop (i + 1)) = opens (lst s)) := Bx.mk (by
          have : opens (bt s i :: (lst s).drop (i + 1)) = b2n (bt s i == 40) + opens ((lst s).drop (i + 1)) := rfl
          rw [this, d40] at hk2
          have e1 : b2n true = 1 := rfl
          omega)
        clear hk hk2 h40 hop
        go_wp2_with fail
        go_roundw
        case rel => exact ⟨k + 1, i + 1, by go_num, by go_num, by omega, hkB.out, trivial⟩
        case measure => simp [intOf]; omega
      · have d40 : (bt s i == 40) = false := by simpa using h40
        have hkB : Bx (k + opens ((lst s).drop (i + 1)) = opens (lst s)) := Bx.mk (by
          have : opens (bt s i :: (lst s).drop (i + 1)) = b2n (bt s i == 40) + opens ((lst s).drop (i + 1)) := rfl
          rw [this, d40] at hk2
          have e1 : b2n false = 0 := rfl
          omega)
        clear hk hk2 h40 hop
        go_wp2_with fail
        go_roundw
        case rel => exact ⟨k, i + 1, rfl, by go_num, by omega, hkB.out, trivial⟩
        case measure => simp [intOf]; omega
    · have hd : decide ((i : Int) < (s.size : Int)) = false := decide_eq_false (by omega)
      have hkB : Bx (k = opens (lst s)) := Bx.mk (by
        rw [List.drop_of_length_le (by omega)] at hk
        have e1 : opens [] = 0 := rfl
        omega)
      have hge : s.size ≤ i := by omega
      clear hk hop
      go_wp2_with fail
      go_ret
      rw [hkB.out]
      exact ⟨rfl, rfl⟩
end Go.Proofs.Qxb6500329a
