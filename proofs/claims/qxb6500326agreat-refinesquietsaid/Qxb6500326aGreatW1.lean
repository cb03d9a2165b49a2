import Derived.Test.Qxb6500326aGreatProg
import Derived.Test.Qxb6500326aGreatMem
import Derived.WalkKit
import Derived.WalkSpells
import Derived.WalkLawsBesides
namespace Go.Proofs.Qxb6500326aGreat
set_option maxRecDepth 100000
set_option linter.unusedVariables false
set_option linter.unusedSimpArgs false
open Go.RowKit
abbrev Y (c : Int) : Value := .int .u8 c
set_option maxHeartbeats 400000 in
theorem digit_any (c : Int) (w : World) (h0 : 0 ≤ c) (h1 : c ≤ 255) :
    Calls Tryz.prog 185 #[Y c] w fun e w' => e = .returned (.bool (isDig c)) ∧ w = w' := by
  unfold isDig
  cases h : decide (48 ≤ c)
  · go_enter Tryz.func185, Tryz.ntmps185
    go_wp2
    go_ret
    exact ⟨rfl, rfl⟩
  · go_enter Tryz.func185, Tryz.ntmps185
    go_wp2
    go_ret
    exact ⟨rfl, rfl⟩
set_option maxHeartbeats 400000 in
theorem rangeOK_any (f : Int) (w : World) :
    Calls Tryz.prog 213 #[I f] w fun e w' => e = .returned (.bool (rangeOK f)) ∧ w = w' := by
  unfold rangeOK
  cases h1 : (f == 1)
  · cases h2 : (f == 2)
    · cases h3 : (f == 3)
      · go_enter Tryz.func213, Tryz.ntmps213
        go_wp2
        go_ret
        exact ⟨by simp, rfl⟩
      · go_enter Tryz.func213, Tryz.ntmps213
        go_wp2
        go_ret
        exact ⟨rfl, rfl⟩
    · go_enter Tryz.func213, Tryz.ntmps213
      go_wp2
      go_ret
      exact ⟨rfl, rfl⟩
  · go_enter Tryz.func213, Tryz.ntmps213
    go_wp2
    go_ret
    exact ⟨rfl, rfl⟩
set_option maxHeartbeats 400000 in
theorem strength_any (op : Int) (w : World) :
    Calls Tryz.prog 191 #[I op] w fun e w' => e = .returned (I (strength op)) ∧ w = w' := by
  rcases strength_iff op with ⟨h, h1⟩ | ⟨h, h1, h2⟩ | ⟨h, h1⟩ <;> rw [h]
  · go_enter Tryz.func191, Tryz.ntmps191
    go_wp2
    go_ret
    exact ⟨rfl, rfl⟩
  · go_enter Tryz.func191, Tryz.ntmps191
    go_wp2
    go_ret
    exact ⟨rfl, rfl⟩
  · have h0 : 6 < op := by omega
    go_enter Tryz.func191, Tryz.ntmps191
    go_wp2
    go_ret
    exact ⟨rfl, rfl⟩
set_option maxHeartbeats 400000 in
theorem wordy_any (c : Int) (w : World) (h0 : 0 ≤ c) (h1 : c ≤ 255) :
    Calls Tryz.prog 187 #[Y c] w fun e w' => e = .returned (.bool (wordy c)) ∧ w = w' := by
  go_enter Tryz.func187, Tryz.ntmps187
  go_wp2
  all_goals go_ret
  all_goals (refine ⟨?_, rfl⟩; refine congrArg Ending.returned (congrArg Value.bool ?_); rw [Bool.eq_iff_iff, wordy_iff]; simp; omega)
set_option maxHeartbeats 800000 in
theorem known_any (c : Int) (w : World) (h0 : 0 ≤ c) (h1 : c ≤ 255) :
    Calls Tryz.prog 174 #[Y c] w fun e w' => e = .returned (.bool (known c)) ∧ w = w' := by
  cases hk : known c
  · rw [Bool.eq_false_iff, ne_eq, known_iff, wordy_iff, isSgn_iff] at hk
    have g : (c == 36) = false ∧ (c == 35) = false ∧ (c == 40) = false ∧ (c == 41) = false ∧ (c == 44) = false ∧ (c == 58) = false ∧ (c == 43) = false ∧ (c == 45) = false ∧ (c == 42) = false ∧ (c == 47) = false ∧ (c == 61) = false ∧ (c == 60) = false ∧ (c == 62) = false := by simp; omega
    obtain ⟨g1, g2, g3, g4, g5, g6, g7, g8, g9, g10, g11, g12, g13⟩ := g
    by_cases c1 : 48 ≤ c
    · have c2 : 57 < c := by omega
      by_cases c3 : 65 ≤ c
      · have c4 : 90 < c := by omega
        clear hk
        go_enter Tryz.func174, Tryz.ntmps174
        go_wp2
        all_goals go_ret
        all_goals exact ⟨rfl, rfl⟩
      · have c4 : c < 65 := by omega
        clear hk
        go_enter Tryz.func174, Tryz.ntmps174
        go_wp2
        all_goals go_ret
        all_goals exact ⟨rfl, rfl⟩
    · have c4 : c < 65 := by omega
      clear hk
      go_enter Tryz.func174, Tryz.ntmps174
      go_wp2
      all_goals go_ret
      all_goals exact ⟨rfl, rfl⟩
  · rw [known_iff, wordy_iff, isSgn_iff] at hk
    rcases hk with (⟨k1, k2⟩ | ⟨k1, k2⟩ | hk) | hk | hk | hk | hk | hk | hk | hk | hk | hk | hk | hk | hk
    · have k3 : 57 < c := by omega
      go_enter Tryz.func174, Tryz.ntmps174
      go_wp2
      go_ret
      exact ⟨rfl, rfl⟩
    · go_enter Tryz.func174, Tryz.ntmps174
      go_wp2
      go_ret
      exact ⟨rfl, rfl⟩
    all_goals (subst hk; go_enter Tryz.func174, Tryz.ntmps174; go_wp2; go_ret; exact ⟨rfl, rfl⟩)
set_option maxHeartbeats 400000 in
theorem arity_any (f n : Int) (w : World) :
    Calls Tryz.prog 212 #[I f, I n] w fun e w' => e = .returned (.bool (arity f n)) ∧ w = w' := by
  by_cases h : f = 1 ∨ f = 2 ∨ f = 3 ∨ f = 4 ∨ f = 5 ∨ f = 6 ∨ f = 7 ∨ f = 8 ∨ f = 9 ∨ f = 10
  · rcases h with h | h | h | h | h | h | h | h | h | h <;> subst h <;> (go_enter Tryz.func212, Tryz.ntmps212; go_wp2; go_ret; exact ⟨by simp [arity], rfl⟩)
  · have g : (f == 1) = false ∧ (f == 2) = false ∧ (f == 3) = false ∧ (f == 4) = false ∧ (f == 5) = false ∧ (f == 6) = false ∧ (f == 7) = false ∧ (f == 8) = false ∧ (f == 9) = false ∧ (f == 10) = false := by simp; omega
    obtain ⟨g1, g2, g3, g4, g5, g6, g7, g8, g9, g10⟩ := g
    have ha : arity f n = false := by
      unfold arity; rw [if_neg (by omega), if_neg (by omega), if_neg (by omega)]
    rw [ha]
    clear h ha
    go_enter Tryz.func212, Tryz.ntmps212
    go_wp2
    go_ret
    exact ⟨rfl, rfl⟩
end Go.Proofs.Qxb6500326aGreat
