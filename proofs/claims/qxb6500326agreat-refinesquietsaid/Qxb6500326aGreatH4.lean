import Derived.Test.Qxb6500326aGreatT3
import Derived.Test.Qxb6500326aGreatW1
namespace Go.Proofs.Qxb6500326aGreat
set_option maxRecDepth 100000
set_option linter.unusedVariables false
set_option linter.unusedSimpArgs false
open Go.RowKit Go.PlainAid

/-! ### two digits -/
theorem num_yes {a b : Int} (h1 : 48 ≤ a) (h2 : a ≤ 57) (h3 : 48 ≤ b) (h4 : b ≤ 57) : numP a b = (a - 48) * 10 + (b - 48) := by unfold numP isDg; rw [if_pos (by simp; omega)]
theorem num_no {a b : Int} (h : a < 48 ∨ 57 < a ∨ b < 48 ∨ 57 < b) : numP a b = -1 := by unfold numP isDg; rw [if_neg (by simp; omega)]
set_option maxHeartbeats 2000000 in
theorem pair_any (t : ByteArray) (i : Nat) (w : World) (hi : i + 1 < t.size) (hs : t.size ≤ 100000) : Calls Tryz.prog 119 #[.string t, I i] w fun e w' => e = .returned (I (numP (bt t i) (bt t (i + 1)))) ∧ w = w' := by
  have hi0 : i < t.size := by omega
  have hb0 := get_bt t i hi0
  have hb1 := get_bt t (i + 1) hi
  have a0 := bt_nonneg t i
  have a1 := bt_le t i
  have a2 := bt_nonneg t (i + 1)
  have a3 := bt_le t (i + 1)
  generalize bt t i = a at *
  generalize bt t (i + 1) = b at *
  generalize hR : numP a b = R
  have hR := Bx.mk hR
  have hiI : (i : Int) < 100000 := by omega
  cases d1 : decide (a < 48)
  · cases d2 : decide (57 < a)
    · cases d3 : decide (b < 48)
      · cases d4 : decide (57 < b)
        · have e1 : 48 ≤ a := by simpa using d1
          have e2 : a ≤ 57 := by simpa using d2
          have e3 : 48 ≤ b := by simpa using d3
          have e4 : b ≤ 57 := by simpa using d4
          go_enter Tryz.func119, Tryz.ntmps119
          go_wp2_with fail
          go_ret
          exact ⟨by rw [← hR.out, num_yes e1 e2 e3 e4] <;> rfl, rfl⟩
        · go_enter Tryz.func119, Tryz.ntmps119
          go_wp2_with fail
          go_ret
          exact ⟨by rw [← hR.out, num_no (.inr (.inr (.inr (by simpa using d4))))] <;> rfl, rfl⟩
      · go_enter Tryz.func119, Tryz.ntmps119
        go_wp2_with fail
        go_ret
        exact ⟨by rw [← hR.out, num_no (.inr (.inr (.inl (by simpa using d3))))] <;> rfl, rfl⟩
    · go_enter Tryz.func119, Tryz.ntmps119
      go_wp2_with fail
      go_ret
      exact ⟨by rw [← hR.out, num_no (.inr (.inl (by simpa using d2)))] <;> rfl, rfl⟩
  · go_enter Tryz.func119, Tryz.ntmps119
    go_wp2_with fail
    go_ret
    exact ⟨by rw [← hR.out, num_no (.inl (by simpa using d1))] <;> rfl, rfl⟩
set_option maxHeartbeats 2000000 in
theorem bmNum_any (t : ByteArray) (i : Nat) (w : World) (hi : i + 1 < t.size) (hs : t.size ≤ 100000) : Calls Tryz.prog 44 #[.string t, I i] w fun e w' => e = .returned (I (numP (bt t i) (bt t (i + 1)))) ∧ Fr S0 w w' := by
  have hi0 : i < t.size := by omega
  have hb0 := get_bt t i hi0
  have hb1 := get_bt t (i + 1) hi
  have a0 := bt_nonneg t i
  have a1 := bt_le t i
  have a2 := bt_nonneg t (i + 1)
  have a3 := bt_le t (i + 1)
  generalize bt t i = a at *
  generalize bt t (i + 1) = b at *
  generalize hR : numP a b = R
  have hR := Bx.mk hR
  have hiI : (i : Int) < 100000 := by omega
  cases d1 : decide (a < 48)
  · cases d2 : decide (57 < a)
    · cases d3 : decide (b < 48)
      · cases d4 : decide (57 < b)
        · have e1 : 48 ≤ a := by simpa using d1
          have e2 : a ≤ 57 := by simpa using d2
          have e3 : 48 ≤ b := by simpa using d3
          have e4 : b ≤ 57 := by simpa using d4
          go_enter Tryz.func44, Tryz.ntmps44
          go_wp2_with fail
          go_quiet (fail)
          go_wp2_with fail
          go_ret
          exact ⟨by rw [← hR.out, num_yes e1 e2 e3 e4] <;> rfl, (Fr.refl _ _).drewN _⟩
        · go_enter Tryz.func44, Tryz.ntmps44
          go_wp2_with fail
          go_ret
          exact ⟨by rw [← hR.out, num_no (.inr (.inr (.inr (by simpa using d4))))] <;> rfl, Fr.refl _ _⟩
      · go_enter Tryz.func44, Tryz.ntmps44
        go_wp2_with fail
        go_ret
        exact ⟨by rw [← hR.out, num_no (.inr (.inr (.inl (by simpa using d3))))] <;> rfl, Fr.refl _ _⟩
    · go_enter Tryz.func44, Tryz.ntmps44
      go_wp2_with fail
      go_ret
      exact ⟨by rw [← hR.out, num_no (.inr (.inl (by simpa using d2)))] <;> rfl, Fr.refl _ _⟩
  · go_enter Tryz.func44, Tryz.ntmps44
    go_wp2_with fail
    go_ret
    exact ⟨by rw [← hR.out, num_no (.inl (by simpa using d1))] <;> rfl, Fr.refl _ _⟩
set_option maxHeartbeats 8000000 in
theorem judge_yes (t : ByteArray) (S : Tx) (w : World) (hs : t.size ≤ 1056) (hS : SvT t 0 (-1) S) : Calls Tryz.prog 118 #[.string t] w fun e w' => e = .returned (.bool true) ∧ w = w' := by
  have hPr : Bx (∀ (i : Nat) wx, i + 1 < t.size → Calls Tryz.prog 119 #[.string t, I i] wx fun e w' => e = .returned (I (numP (bt t i) (bt t (i + 1)))) ∧ wx = w') := ⟨fun i wx hi => pair_any t i wx hi (by omega)⟩
  have hS := Bx.mk hS
  go_enter Tryz.func118, Tryz.ntmps118
  go_wp2_with fail
  go_loopw [3, 4] (fun l c wr => ∃ (last : Int) (i : Nat) (S' : Tx), i ≤ t.size ∧ -1 ≤ last ∧ last < 24 ∧ l = I last ∧ c = I (i : Int) ∧ Bx (SvT t i last S') ∧ w = wr) (fun _ c _ => t.size - (intOf c).toNat)
  case atStart => exact ⟨-1, 0, S, by omega, by omega, by omega, rfl, rfl, hS, rfl⟩
  case round =>
    clear hS
    obtain ⟨last, i, S', hi, hl0, hl1, rfl, rfl, hS, rfl⟩ := hrel
    by_cases hlt : i < t.size
    · have hltd : decide ((i : Int) < (t.size : Int)) = true := by simp; omega
      obtain ⟨c, m, S2, p, hS2, -⟩ := svt_inv hS.out hlt
      have hf := p.fit
      have p1 := Bx.mk (fun wx => hPr.out i wx (by omega))
      have p2 := Bx.mk (fun wx => hPr.out (i + 2) wx (by omega))
      have e1 := p.e1
      have e2 := p.e2
      rw [e1] at p1
      rw [show i + 2 + 1 = i + 3 from rfl, e2] at p2
      have hc24 := p.c24
      have hm1 := p.m1
      have hm40 := p.m40
      have hlc := p.l
      have hS2 := Bx.mk hS2
      have q1 : decide ((t.size : Int) - (i : Int) < 4) = false := decide_eq_false (by omega)
      have q2 : decide ((c : Int) ≤ last) = false := decide_eq_false (by omega)
      have q3 : decide (24 ≤ (c : Int)) = false := decide_eq_false (by omega)
      have q4 : decide ((m : Int) < 1) = false := decide_eq_false (by omega)
      have q5 : decide (40 < (m : Int)) = false := decide_eq_false (by omega)
      have q6 : decide ((t.size : Int) - (i : Int) - 4 < (m : Int)) = false := decide_eq_false (by omega)
      have hiI : (i : Int) ≤ 1056 := by omega
      have htI : (t.size : Int) ≤ 1056 := by omega
      have hmI : (m : Int) ≤ 40 := by omega
      clear p e1 e2 hS
      go_wp2_with (first
        | (go_at_call 119; refine (p1.out _).mono ?_; clear p1; rintro e _ ⟨rfl, rfl⟩)
        | (go_at_call 119; refine (p2.out _).mono ?_; clear p2; rintro e _ ⟨rfl, rfl⟩))
      go_roundw
      case rel => exact ⟨c, i + 4 + m, S2, by omega, by omega, by omega, rfl, by go_num, hS2, trivial⟩
      case measure => simp [intOf]; omega
    · have hltd : decide ((i : Int) < (t.size : Int)) = false := by simp; omega
      go_wp2_with fail
      go_ret
      exact ⟨rfl, rfl⟩
end Go.Proofs.Qxb6500326aGreat
