import Derived.Test.Qxb6500326aGreatW18
import Derived.BigRegion
import Derived.Handy
namespace Go.Proofs.Qxb6500326aGreat
set_option linter.unusedVariables false
set_option linter.unusedSimpArgs false
open Go.RowKit Go.PlainAid
set_option maxRecDepth 100000 in
set_option maxHeartbeats 4000000 in
theorem named_1 (op a b n c1 r1 : Int) (p1 q1 : Bool) (c2 r2 : Int) (p2 q2 : Bool) (w : World) :
    Calls Tryz.prog 211 #[ndV ⟨1, op, a, b, n, ⟨c1, r1, p1, q1⟩, ⟨c2, r2, p2, q2⟩⟩] w fun e w' => e = .returned (ndV (named ⟨1, op, a, b, n, ⟨c1, r1, p1, q1⟩, ⟨c2, r2, p2, q2⟩⟩)) ∧ Fr S0 w w' := by
  go_enter Tryz.func211, Tryz.ntmps211
  go_wp2
  all_goals go_returns
  all_goals first | exact ⟨rfl, (((Fr.refl _ _).alloc _).alloc _).alloc _⟩ | exact ⟨rfl, ((((Fr.refl _ _).alloc _).alloc _).alloc _).drew⟩
set_option maxRecDepth 100000 in
set_option maxHeartbeats 4000000 in
theorem named_2 (op a b n c1 r1 : Int) (p1 q1 : Bool) (c2 r2 : Int) (p2 q2 : Bool) (w : World) :
    Calls Tryz.prog 211 #[ndV ⟨2, op, a, b, n, ⟨c1, r1, p1, q1⟩, ⟨c2, r2, p2, q2⟩⟩] w fun e w' => e = .returned (ndV (named ⟨2, op, a, b, n, ⟨c1, r1, p1, q1⟩, ⟨c2, r2, p2, q2⟩⟩)) ∧ Fr S0 w w' := by
  go_enter Tryz.func211, Tryz.ntmps211
  go_wp2
  all_goals go_returns
  all_goals first | exact ⟨rfl, (((Fr.refl _ _).alloc _).alloc _).alloc _⟩ | exact ⟨rfl, ((((Fr.refl _ _).alloc _).alloc _).alloc _).drew⟩
set_option maxRecDepth 100000 in
set_option maxHeartbeats 4000000 in
theorem named_3 (op a b n c1 r1 : Int) (p1 q1 : Bool) (c2 r2 : Int) (p2 q2 : Bool) (w : World) :
    Calls Tryz.prog 211 #[ndV ⟨3, op, a, b, n, ⟨c1, r1, p1, q1⟩, ⟨c2, r2, p2, q2⟩⟩] w fun e w' => e = .returned (ndV (named ⟨3, op, a, b, n, ⟨c1, r1, p1, q1⟩, ⟨c2, r2, p2, q2⟩⟩)) ∧ Fr S0 w w' := by
  go_enter Tryz.func211, Tryz.ntmps211
  go_wp2
  all_goals go_returns
  all_goals first | exact ⟨rfl, (((Fr.refl _ _).alloc _).alloc _).alloc _⟩ | exact ⟨rfl, ((((Fr.refl _ _).alloc _).alloc _).alloc _).drew⟩
set_option maxRecDepth 100000 in
set_option maxHeartbeats 4000000 in
theorem named_4 (op a b n c1 r1 : Int) (p1 q1 : Bool) (c2 r2 : Int) (p2 q2 : Bool) (w : World) :
    Calls Tryz.prog 211 #[ndV ⟨4, op, a, b, n, ⟨c1, r1, p1, q1⟩, ⟨c2, r2, p2, q2⟩⟩] w fun e w' => e = .returned (ndV (named ⟨4, op, a, b, n, ⟨c1, r1, p1, q1⟩, ⟨c2, r2, p2, q2⟩⟩)) ∧ Fr S0 w w' := by
  go_enter Tryz.func211, Tryz.ntmps211
  go_wp2
  go_region
  all_goals go_wp2
  all_goals go_returns
  all_goals first | exact ⟨rfl, (((Fr.refl _ _).alloc _).alloc _).alloc _⟩ | exact ⟨rfl, ((((Fr.refl _ _).alloc _).alloc _).alloc _).drew⟩
set_option maxRecDepth 100000 in
set_option maxHeartbeats 4000000 in
theorem named_6 (op a b n c1 r1 : Int) (p1 q1 : Bool) (c2 r2 : Int) (p2 q2 : Bool) (w : World) :
    Calls Tryz.prog 211 #[ndV ⟨6, op, a, b, n, ⟨c1, r1, p1, q1⟩, ⟨c2, r2, p2, q2⟩⟩] w fun e w' => e = .returned (ndV (named ⟨6, op, a, b, n, ⟨c1, r1, p1, q1⟩, ⟨c2, r2, p2, q2⟩⟩)) ∧ Fr S0 w w' := by
  go_enter Tryz.func211, Tryz.ntmps211
  go_wp2
  all_goals go_returns
  all_goals first | exact ⟨rfl, (((Fr.refl _ _).alloc _).alloc _).alloc _⟩ | exact ⟨rfl, ((((Fr.refl _ _).alloc _).alloc _).alloc _).drew⟩
set_option maxRecDepth 100000 in
set_option maxHeartbeats 4000000 in
theorem named_7 (op a b n c1 r1 : Int) (p1 q1 : Bool) (c2 r2 : Int) (p2 q2 : Bool) (w : World) :
    Calls Tryz.prog 211 #[ndV ⟨7, op, a, b, n, ⟨c1, r1, p1, q1⟩, ⟨c2, r2, p2, q2⟩⟩] w fun e w' => e = .returned (ndV (named ⟨7, op, a, b, n, ⟨c1, r1, p1, q1⟩, ⟨c2, r2, p2, q2⟩⟩)) ∧ Fr S0 w w' := by
  go_enter Tryz.func211, Tryz.ntmps211
  go_wp2
  go_region
  all_goals go_wp2
  all_goals go_returns
  all_goals first | exact ⟨rfl, (((Fr.refl _ _).alloc _).alloc _).alloc _⟩ | exact ⟨rfl, ((((Fr.refl _ _).alloc _).alloc _).alloc _).drew⟩
set_option maxRecDepth 100000 in
set_option maxHeartbeats 4000000 in
theorem named_8 (op a b n c1 r1 : Int) (p1 q1 : Bool) (c2 r2 : Int) (p2 q2 : Bool) (w : World) :
    Calls Tryz.prog 211 #[ndV ⟨8, op, a, b, n, ⟨c1, r1, p1, q1⟩, ⟨c2, r2, p2, q2⟩⟩] w fun e w' => e = .returned (ndV (named ⟨8, op, a, b, n, ⟨c1, r1, p1, q1⟩, ⟨c2, r2, p2, q2⟩⟩)) ∧ Fr S0 w w' := by
  go_enter Tryz.func211, Tryz.ntmps211
  go_wp2
  go_region
  all_goals go_wp2
  all_goals go_returns
  all_goals first | exact ⟨rfl, (((Fr.refl _ _).alloc _).alloc _).alloc _⟩ | exact ⟨rfl, ((((Fr.refl _ _).alloc _).alloc _).alloc _).drew⟩
set_option maxRecDepth 100000 in
set_option maxHeartbeats 4000000 in
theorem named_9 (op a b n c1 r1 : Int) (p1 q1 : Bool) (c2 r2 : Int) (p2 q2 : Bool) (w : World) :
    Calls Tryz.prog 211 #[ndV ⟨9, op, a, b, n, ⟨c1, r1, p1, q1⟩, ⟨c2, r2, p2, q2⟩⟩] w fun e w' => e = .returned (ndV (named ⟨9, op, a, b, n, ⟨c1, r1, p1, q1⟩, ⟨c2, r2, p2, q2⟩⟩)) ∧ Fr S0 w w' := by
  go_enter Tryz.func211, Tryz.ntmps211
  go_wp2
  go_region
  all_goals go_wp2
  all_goals go_returns
  all_goals first | exact ⟨rfl, (((Fr.refl _ _).alloc _).alloc _).alloc _⟩ | exact ⟨rfl, ((((Fr.refl _ _).alloc _).alloc _).alloc _).drew⟩
set_option maxRecDepth 100000 in
set_option maxHeartbeats 4000000 in
theorem named_any (x : Nd) (w : World) : Calls Tryz.prog 211 #[ndV x] w fun e w' => e = .returned (ndV (named x)) ∧ Fr S0 w w' := by
  obtain ⟨kind, op, a, b, n, ⟨c1, r1, p1, q1⟩, ⟨c2, r2, p2, q2⟩⟩ := x
  by_cases h : kind = 1 ∨ kind = 2 ∨ kind = 3 ∨ kind = 4 ∨ kind = 6 ∨ kind = 7 ∨ kind = 8 ∨ kind = 9
  · rcases h with h | h | h | h | h | h | h | h <;> subst h
    · exact named_1 op a b n c1 r1 p1 q1 c2 r2 p2 q2 w
    · exact named_2 op a b n c1 r1 p1 q1 c2 r2 p2 q2 w
    · exact named_3 op a b n c1 r1 p1 q1 c2 r2 p2 q2 w
    · exact named_4 op a b n c1 r1 p1 q1 c2 r2 p2 q2 w
    · exact named_6 op a b n c1 r1 p1 q1 c2 r2 p2 q2 w
    · exact named_7 op a b n c1 r1 p1 q1 c2 r2 p2 q2 w
    · exact named_8 op a b n c1 r1 p1 q1 c2 r2 p2 q2 w
    · exact named_9 op a b n c1 r1 p1 q1 c2 r2 p2 q2 w
  · have g : (kind == 1) = false ∧ (kind == 2) = false ∧ (kind == 3) = false ∧ (kind == 4) = false ∧ (kind == 6) = false ∧ (kind == 7) = false ∧ (kind == 8) = false ∧ (kind == 9) = false := by simp; omega
    obtain ⟨g1, g2, g3, g4, g6, g7, g8, g9⟩ := g
    have hn : Bx (named ⟨kind, op, a, b, n, ⟨c1, r1, p1, q1⟩, ⟨c2, r2, p2, q2⟩⟩ = ⟨kind, 0, -1, -1, 0, rz, rz⟩) := Bx.mk (by
      unfold named; simp only; rw [if_neg (by omega), if_neg (by omega), if_neg (by omega), if_neg (by omega), if_neg (by omega), if_neg (by omega), if_neg (by omega)])
    clear h
    go_enter Tryz.func211, Tryz.ntmps211
    go_wp2
    go_returns
    rw [hn.out]
    exact ⟨rfl, (((Fr.refl _ _).alloc _).alloc _).alloc _⟩
end Go.Proofs.Qxb6500326aGreat
