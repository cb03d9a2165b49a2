import Derived.Test.Qxb6500326aGreatW18
import Derived.RegionTactic
import Derived.Handy
namespace Go.Proofs.Qxb6500326aGreat
set_option maxRecDepth 100000
set_option linter.unusedVariables false
set_option linter.unusedSimpArgs false
open Go.RowKit Go.PlainAid
set_option maxRecDepth 100000 in
set_option maxHeartbeats 1000000 in
theorem level_any (x : Nd) (w : World) : Calls Tryz.prog 176 #[ndV x] w fun e w' => e = .returned (I (level x)) ∧ Fr S0 w w' := by
  by_cases h6 : x.kind = 6
  · have g6 : (x.kind == 6) = true := by simp [h6]
    have hl : Bx (level x = 4) := Bx.mk (by unfold level; rw [if_pos h6])
    clear h6
    go_enter Tryz.func176, Tryz.ntmps176
    go_wp2
    go_ret
    rw [hl.out]
    exact ⟨rfl, (Fr.refl _ _).alloc _⟩
  · have g6 : (x.kind == 6) = false := by simpa using h6
    by_cases h7 : x.kind = 7
    · have g7 : (x.kind != 7) = false := by simp [h7]
      by_cases h1 : x.op ≤ 6
      · have d1 : decide (x.op ≤ 6) = true := decide_eq_true h1
        have hl : Bx (level x = 1) := Bx.mk (by unfold level; rw [if_neg h6, if_neg (by omega)]; rw [if_pos h1])
        clear h6 h7
        go_enter Tryz.func176, Tryz.ntmps176
        go_wp2
        go_ret
        rw [hl.out]
        exact ⟨rfl, (Fr.refl _ _).alloc _⟩
      · have d1 : decide (x.op ≤ 6) = false := decide_eq_false h1
        by_cases h2 : x.op ≤ 8
        · have d2 : decide (x.op ≤ 8) = true := decide_eq_true h2
          have hl : Bx (level x = 2) := Bx.mk (by unfold level; rw [if_neg h6, if_neg (by omega)]; rw [if_neg h1, if_pos h2])
          clear h6 h7 h1
          go_enter Tryz.func176, Tryz.ntmps176
          go_wp2
          go_ret
          rw [hl.out]
          exact ⟨rfl, (Fr.refl _ _).alloc _⟩
        · have d2 : decide (x.op ≤ 8) = false := decide_eq_false h2
          have hl : Bx (level x = 3) := Bx.mk (by unfold level; rw [if_neg h6, if_neg (by omega)]; rw [if_neg h1, if_neg h2])
          clear h6 h7 h1 h2
          go_enter Tryz.func176, Tryz.ntmps176
          go_wp2
          go_ret
          rw [hl.out]
          exact ⟨rfl, (Fr.refl _ _).alloc _⟩
    · have g7 : (x.kind != 7) = true := by simpa using h7
      have hl : Bx (level x = 5) := Bx.mk (by unfold level; rw [if_neg h6, if_pos h7])
      clear h6 h7
      go_enter Tryz.func176, Tryz.ntmps176
      go_wp2
      go_ret
      rw [hl.out]
      exact ⟨rfl, (Fr.refl _ _).alloc _⟩
end Go.Proofs.Qxb6500326aGreat
