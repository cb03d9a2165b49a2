import Derived.Test.Qxb6500326aGreatB2
import Derived.Test.Qxb6500326aGreatB9
namespace Go.Proofs.Qxb6500326aGreat
set_option maxRecDepth 100000
set_option linter.unusedVariables false
set_option linter.unusedSimpArgs false
open Go.RowKit Go.PlainAid

/-! ### A text that is no formula -/
def plLoop (s : ByteArray) : Nat → Nat → Int → Option Int
  | 0, _, n => some n
  | m + 1, k, n => if (decide (bt s k < 48) || decide (57 < bt s k)) = true then none else plLoop s m (k + 1) (n * 10 + (bt s k - 48))
def plSgn (s : ByteArray) : Nat := if (bt s 0 == 45) = true then 1 else 0
def plainP (s : ByteArray) : Vl :=
  if s.size = 0 then v0
  else if s.size < plSgn s + 1 ∨ plSgn s + 9 < s.size then ⟨2, 0, s⟩
  else match plLoop s (s.size - plSgn s) (plSgn s) 0 with
    | none => ⟨2, 0, s⟩
    | some n => vInt (if (bt s 0 == 45) = true then -n else n)
theorem plLoop_bd (s : ByteArray) : ∀ (m k : Nat) (n : Int) (d : Nat), d + m ≤ 9 → 0 ≤ n → n < 10 ^ d → ∀ r, plLoop s m k n = some r → 0 ≤ r ∧ r ≤ 999999999
  | 0, k, n, d, hd, h0, h1, r, h => by
    cases h
    have : (10 : Int) ^ d ≤ 10 ^ 9 := by
      have := Nat.pow_le_pow_right (n := 10) (by omega) (show d ≤ 9 by omega)
      exact_mod_cast this
    omega
  | m + 1, k, n, d, hd, h0, h1, r, h => by
    unfold plLoop at h
    split at h
    · cases h
    · rename_i hc
      simp at hc
      refine plLoop_bd s m (k + 1) _ (d + 1) (by omega) (by omega) ?_ r h
      rw [Int.pow_succ]; omega
theorem lw_plain {s : ByteArray} (hs : s.size ≤ 40) : Lw (plainP s) := by
  unfold plainP
  split
  · exact .none
  split
  · exact .text s hs
  rename_i h0 h1
  split
  · exact .text s hs
  · rename_i n hn
    obtain ⟨a, b⟩ := plLoop_bd s _ _ _ 0 (by omega) (by omega) (by decide) n hn
    split
    · exact .int _ (by omega) (by omega)
    · exact .int _ (by omega) (by omega)
theorem size_empty {s : ByteArray} : s.toList.isEmpty = decide (s.size = 0) := by
  rw [Bool.eq_iff_iff, empty_es]
  constructor
  · rintro rfl; rfl
  · intro h
    have h : s.size = 0 := by simpa using h
    obtain ⟨⟨l⟩⟩ := s
    cases l with
    | nil => rfl
    | cons a t => simp [ByteArray.size] at h
set_option maxHeartbeats 1000000 in
theorem plain_any (s : ByteArray) (w : World) (hs : s.size ≤ 40) : Calls Tryz.prog 169 #[.string s] w (VR w (plainP s)) := by
  have hz := Bx.mk (v_zero w 92 rfl)
  have hfr := Bx.mk (fr_zero w 92)
  cases he : (s.toList == [])
  · have hpos : 0 < s.size := by
      rcases Nat.eq_zero_or_pos s.size with e | e
      · exfalso
        have h := size_empty (s := s)
        rw [e] at h
        have : s.toList = [] := by simpa using h
        rw [this] at he; cases he
      · exact e
    have hb := get_bt s
    cases h45 : (bt s 0 == 45)
    · have hd : plSgn s = 0 := by simp [plSgn, h45]
      by_cases hsh : s.size < 0 + 1
      · have hs1 : decide ((s.size : Int) < 1) = true := by simp; omega
        have hP : Bx (plainP s = ⟨2, 0, s⟩) := ⟨by unfold plainP; rw [if_neg (by omega), if_pos (by rw [hd]; omega)]⟩
        clear hd hsh
        go_enter Tryz.func169, Tryz.ntmps169
        go_wp2
        go_returns
        exact ⟨by rw [hP.out], (Fr.refl _ _).alloc _⟩
      · by_cases hlo : 0 + 9 < s.size
        · have hs1 : decide ((s.size : Int) < 1) = false := by simp; omega
          have hs2 : decide (9 < (s.size : Int)) = true := by simp; omega
          have hP : Bx (plainP s = ⟨2, 0, s⟩) := ⟨by unfold plainP; rw [if_neg (by omega), if_pos (by rw [hd]; omega)]⟩
          clear hd hsh hlo
          go_enter Tryz.func169, Tryz.ntmps169
          go_wp2
          go_returns
          exact ⟨by rw [hP.out], (Fr.refl _ _).alloc _⟩
        · have hs1 : decide ((s.size : Int) < 1) = false := by simp; omega
          have hs2 : decide (9 < (s.size : Int)) = false := by simp; omega
          have hP : Bx (plainP s = match plLoop s (s.size - 0) 0 0 with | none => ⟨2, 0, s⟩ | some n => vInt (if (bt s 0 == 45) = true then -n else n)) := ⟨by unfold plainP; rw [if_neg (by omega), if_neg (by rw [hd]; omega), hd]⟩
          clear hd
          go_enter Tryz.func169, Tryz.ntmps169
          go_wp2_with fail
          go_loopw [4, 5] (fun n k wr => ∃ (n1 : Int) (k1 : Nat), n = I n1 ∧ k = I (k1 : Int) ∧ 0 ≤ k1 ∧ k1 ≤ s.size ∧ 0 ≤ n1 ∧ Bx (n1 < 10 ^ (k1 - 0)) ∧ Bx (plLoop s (s.size - k1) k1 n1 = plLoop s (s.size - 0) 0 0) ∧ w.alloc (.cells #[I 0, I 0, .string es] 92) = wr) (fun _ k _ => s.size - (intOf k).toNat)
          case atStart => exact ⟨0, 0, rfl, rfl, by omega, by omega, by omega, ⟨by decide⟩, ⟨rfl⟩, rfl⟩
          case round =>
            obtain ⟨n, k, rfl, rfl, g1, g2, g3, g4, g5, rfl⟩ := hrel
            by_cases hk : k < s.size
            · have hkd : decide ((k : Int) < s.size) = true := by simp; omega
              have hpw : Bx (n < 10 ^ 8) := ⟨Int.lt_of_lt_of_le g4.out (by have := Nat.pow_le_pow_right (n := 10) (by omega) (show k - 0 ≤ 8 by omega); exact_mod_cast this)⟩
              have hnb : n < 100000000 := hpw.out
              clear hpw
              have e0 := bt_nonneg s k
              have e1 := bt_le s k
              obtain ⟨m, hm⟩ : ∃ m, s.size - k = m + 1 := ⟨s.size - k - 1, by omega⟩
              have hm := Bx.mk hm
              have hb := hb k hk
              cases h48 : decide (bt s k < 48)
              · cases h57 : decide (57 < bt s k)
                · have q1 : 48 ≤ bt s k := by simpa using h48
                  have q2 : bt s k ≤ 57 := by simpa using h57
                  go_wp2
                  go_roundw
                  case rel => exact ⟨n * 10 + (bt s k - 48), k + 1, rfl, rfl, by omega, by omega, by omega, ⟨by rw [show k + 1 - 0 = (k - 0) + 1 from by omega, Int.pow_succ]; have := g4.out; omega⟩, ⟨by rw [← g5.out, hm.out, show s.size - (k + 1) = m from by have := hm.out; omega]; simp [plLoop, h48, h57, -decide_eq_true_eq, -decide_eq_false_iff_not]⟩, trivial⟩
                  case measure => simp [intOf]; omega
                · have hN : Bx (plainP s = ⟨2, 0, s⟩) := ⟨by rw [hP.out, ← g5.out, hm.out]; simp [plLoop, h48, h57, -decide_eq_true_eq, -decide_eq_false_iff_not]⟩
                  go_wp2
                  go_returns
                  exact ⟨by rw [hN.out], (Fr.refl _ _).alloc _⟩
              · have hN : Bx (plainP s = ⟨2, 0, s⟩) := ⟨by rw [hP.out, ← g5.out, hm.out]; simp [plLoop, h48, -decide_eq_true_eq, -decide_eq_false_iff_not]⟩
                go_wp2
                go_returns
                exact ⟨by rw [hN.out], (Fr.refl _ _).alloc _⟩
            · have hkd : decide ((k : Int) < s.size) = false := by simp; omega
              have hke : Bx (s.size - k = 0) := ⟨by omega⟩
              have hpw : Bx (n < 10 ^ 9) := ⟨Int.lt_of_lt_of_le g4.out (by have := Nat.pow_le_pow_right (n := 10) (by omega) (show k - 0 ≤ 9 by omega); exact_mod_cast this)⟩
              have hnb : n < 1000000000 := hpw.out
              clear hpw
              have hN : Bx (plainP s = vInt (if (bt s 0 == 45) = true then -n else n)) := ⟨by rw [hP.out, ← g5.out, hke.out]; rfl⟩
              go_wp2_with (first | (go_at_call 208; refine (int_any _ _).mono (VR.letter ?_); rintro r hx e w1 ⟨rfl, hf⟩; have hz1 := Bx.mk (hf.row0 hz.out); obtain ⟨c0, c1, c2, y0, y1, y2⟩ := hz1.out.v3))
              exact ret_vs (x := r) (p := 2) rfl rfl rfl hz1.out (hfr.out.trans hf) (Nat.le_refl _) (by rw [← hx.out, hN.out, h45]; rfl)
    · have hd : plSgn s = 1 := by simp [plSgn, h45]
      by_cases hsh : s.size < 1 + 1
      · have hs1 : decide (((s.size : Int) - 1) < 1) = true := by simp; omega
        have hP : Bx (plainP s = ⟨2, 0, s⟩) := ⟨by unfold plainP; rw [if_neg (by omega), if_pos (by rw [hd]; omega)]⟩
        clear hd hsh
        go_enter Tryz.func169, Tryz.ntmps169
        go_wp2
        go_returns
        exact ⟨by rw [hP.out], (Fr.refl _ _).alloc _⟩
      · by_cases hlo : 1 + 9 < s.size
        · have hs1 : decide (((s.size : Int) - 1) < 1) = false := by simp; omega
          have hs2 : decide (9 < ((s.size : Int) - 1)) = true := by simp; omega
          have hP : Bx (plainP s = ⟨2, 0, s⟩) := ⟨by unfold plainP; rw [if_neg (by omega), if_pos (by rw [hd]; omega)]⟩
          clear hd hsh hlo
          go_enter Tryz.func169, Tryz.ntmps169
          go_wp2
          go_returns
          exact ⟨by rw [hP.out], (Fr.refl _ _).alloc _⟩
        · have hs1 : decide (((s.size : Int) - 1) < 1) = false := by simp; omega
          have hs2 : decide (9 < ((s.size : Int) - 1)) = false := by simp; omega
          have hP : Bx (plainP s = match plLoop s (s.size - 1) 1 0 with | none => ⟨2, 0, s⟩ | some n => vInt (if (bt s 0 == 45) = true then -n else n)) := ⟨by unfold plainP; rw [if_neg (by omega), if_neg (by rw [hd]; omega), hd]⟩
          clear hd
          go_enter Tryz.func169, Tryz.ntmps169
          go_wp2_with fail
          go_loopw [4, 5] (fun n k wr => ∃ (n1 : Int) (k1 : Nat), n = I n1 ∧ k = I (k1 : Int) ∧ 1 ≤ k1 ∧ k1 ≤ s.size ∧ 0 ≤ n1 ∧ Bx (n1 < 10 ^ (k1 - 1)) ∧ Bx (plLoop s (s.size - k1) k1 n1 = plLoop s (s.size - 1) 1 0) ∧ w.alloc (.cells #[I 0, I 0, .string es] 92) = wr) (fun _ k _ => s.size - (intOf k).toNat)
          case atStart => exact ⟨0, 1, rfl, rfl, by omega, by omega, by omega, ⟨by decide⟩, ⟨rfl⟩, rfl⟩
          case round =>
            obtain ⟨n, k, rfl, rfl, g1, g2, g3, g4, g5, rfl⟩ := hrel
            by_cases hk : k < s.size
            · have hkd : decide ((k : Int) < s.size) = true := by simp; omega
              have hpw : Bx (n < 10 ^ 8) := ⟨Int.lt_of_lt_of_le g4.out (by have := Nat.pow_le_pow_right (n := 10) (by omega) (show k - 1 ≤ 8 by omega); exact_mod_cast this)⟩
              have hnb : n < 100000000 := hpw.out
              clear hpw
              have e0 := bt_nonneg s k
              have e1 := bt_le s k
              obtain ⟨m, hm⟩ : ∃ m, s.size - k = m + 1 := ⟨s.size - k - 1, by omega⟩
              have hm := Bx.mk hm
              have hb := hb k hk
              cases h48 : decide (bt s k < 48)
              · cases h57 : decide (57 < bt s k)
                · have q1 : 48 ≤ bt s k := by simpa using h48
                  have q2 : bt s k ≤ 57 := by simpa using h57
                  go_wp2
                  go_roundw
                  case rel => exact ⟨n * 10 + (bt s k - 48), k + 1, rfl, rfl, by omega, by omega, by omega, ⟨by rw [show k + 1 - 1 = (k - 1) + 1 from by omega, Int.pow_succ]; have := g4.out; omega⟩, ⟨by rw [← g5.out, hm.out, show s.size - (k + 1) = m from by have := hm.out; omega]; simp [plLoop, h48, h57, -decide_eq_true_eq, -decide_eq_false_iff_not]⟩, trivial⟩
                  case measure => simp [intOf]; omega
                · have hN : Bx (plainP s = ⟨2, 0, s⟩) := ⟨by rw [hP.out, ← g5.out, hm.out]; simp [plLoop, h48, h57, -decide_eq_true_eq, -decide_eq_false_iff_not]⟩
                  go_wp2
                  go_returns
                  exact ⟨by rw [hN.out], (Fr.refl _ _).alloc _⟩
              · have hN : Bx (plainP s = ⟨2, 0, s⟩) := ⟨by rw [hP.out, ← g5.out, hm.out]; simp [plLoop, h48, -decide_eq_true_eq, -decide_eq_false_iff_not]⟩
                go_wp2
                go_returns
                exact ⟨by rw [hN.out], (Fr.refl _ _).alloc _⟩
            · have hkd : decide ((k : Int) < s.size) = false := by simp; omega
              have hke : Bx (s.size - k = 0) := ⟨by omega⟩
              have hpw : Bx (n < 10 ^ 9) := ⟨Int.lt_of_lt_of_le g4.out (by have := Nat.pow_le_pow_right (n := 10) (by omega) (show k - 1 ≤ 9 by omega); exact_mod_cast this)⟩
              have hnb : n < 1000000000 := hpw.out
              clear hpw
              have hN : Bx (plainP s = vInt (if (bt s 0 == 45) = true then -n else n)) := ⟨by rw [hP.out, ← g5.out, hke.out]; rfl⟩
              go_wp2_with (first | (go_at_call 208; refine (int_any _ _).mono (VR.letter ?_); rintro r hx e w1 ⟨rfl, hf⟩; have hz1 := Bx.mk (hf.row0 hz.out); obtain ⟨c0, c1, c2, y0, y1, y2⟩ := hz1.out.v3))
              exact ret_vs (x := r) (p := 2) rfl rfl rfl hz1.out (hfr.out.trans hf) (Nat.le_refl _) (by rw [← hx.out, hN.out, h45]; rfl)
  · obtain rfl : s = es := empty_es.1 (by simpa using he)
    clear he
    go_enter Tryz.func169, Tryz.ntmps169
    go_wp2
    go_returns
    exact ⟨rfl, (Fr.refl _ _).alloc _⟩
end Go.Proofs.Qxb6500326aGreat
