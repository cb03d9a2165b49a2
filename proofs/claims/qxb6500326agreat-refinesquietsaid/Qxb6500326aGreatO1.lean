import Derived.Test.Qxb6500326aGreatGW1
import Derived.Test.Qxb6500326aGreatS6
import Derived.Handy
namespace Go.Proofs.Qxb6500326aGreat
set_option maxRecDepth 100000
set_option linter.unusedVariables false
set_option linter.unusedSimpArgs false
open Go.RowKit Go.PlainAid

/-! ### the structural edits -/
def kd (rows ins : Bool) : Int := if rows = true then (if ins = true then 1 else 2) else (if ins = true then 3 else 4)
def edOK (k at_ : Int) : Bool := if k = 1 ∨ k = 2 then decide (0 ≤ at_) && decide (at_ < 6) else if k = 3 ∨ k = 4 then decide (0 ≤ at_) && decide (at_ < 4) else false
theorem edOK_kd {k at_ : Int} (h : edOK k at_ = true) : ∃ rows ins, k = kd rows ins ∧ 0 ≤ at_ ∧ at_ < nAx rows := by
  unfold edOK at h
  split at h
  · rename_i h1
    simp at h
    rcases h1 with rfl | rfl
    · exact ⟨true, true, rfl, h.1, h.2⟩
    · exact ⟨true, false, rfl, h.1, h.2⟩
  · split at h
    · rename_i h1
      simp at h
      rcases h1 with rfl | rfl
      · exact ⟨false, true, rfl, h.1, h.2⟩
      · exact ⟨false, false, rfl, h.1, h.2⟩
    · cases h
theorem edOK_of {rows ins : Bool} {at_ : Int} (h0 : 0 ≤ at_) (h1 : at_ < nAx rows) : edOK (kd rows ins) at_ = true := by
  unfold edOK kd
  cases rows <;> cases ins <;> simp [nAx] at h1 ⊢ <;> omega
set_option maxHeartbeats 1000000 in
theorem editOK_any (k at_ : Int) (w : World) : Calls Tryz.prog 73 #[I k, I at_] w fun e w' => e = .returned (.bool (edOK k at_)) ∧ w = w' := by
  go_enter Tryz.func73, Tryz.ntmps73
  go_wp2
  all_goals go_ret
  all_goals refine ⟨congrArg Ending.returned (congrArg Value.bool ?_), rfl⟩
  all_goals (unfold edOK; simp_all; try omega)
set_option maxHeartbeats 1000000 in
theorem point_any (x n at_ : Int) (ins : Bool) (w : World) (h0 : 0 ≤ x) (h1 : x ≤ 1000) : Calls Tryz.prog 145 #[I x, I n, I at_, .bool ins] w fun e w' => e = .returned (I (pointP x n at_ ins)) ∧ w = w' := by
  go_enter Tryz.func145, Tryz.ntmps145
  cases ins <;> go_wp2
  all_goals go_ret
  all_goals refine ⟨congrArg (fun i => Ending.returned (I i)) ?_, rfl⟩
  all_goals ((try simp only [beq_iff_eq, beq_eq_false_iff_ne, ne_eq] at *); unfold pointP; simp only [if_true, if_false, Bool.false_eq_true]; (repeat' split) <;> omega)
set_option maxHeartbeats 1000000 in
theorem stretch_any (lo hi n at_ : Int) (ins : Bool) (w : World) (h0 : 0 ≤ lo) (h1 : lo ≤ 1000) (h2 : 0 ≤ hi) (h3 : hi ≤ 1000) (h4 : 0 ≤ n) (h5 : n ≤ 1000) : Calls Tryz.prog 148 #[I lo, I hi, I n, I at_, .bool ins] w fun e w' => e = .returned (.tuple #[I (stretchP lo hi n at_ ins).1, I (stretchP lo hi n at_ ins).2]) ∧ w = w' := by
  go_enter Tryz.func148, Tryz.ntmps148
  cases ins <;> go_wp2
  all_goals go_ret2
  all_goals refine ⟨congrArg (fun i : Int × Int => Ending.returned (.tuple #[I i.1, I i.2])) (a₁ := (_, _)) ?_, rfl⟩
  all_goals ((try simp only [beq_iff_eq, beq_eq_false_iff_ne, ne_eq] at *); unfold stretchP; simp only [if_true, if_false, Bool.false_eq_true]; (repeat' split) <;> first | omega | rfl | (refine Prod.ext ?_ ?_ <;> simp only [] <;> omega))
set_option maxHeartbeats 2000000 in
theorem from_any (rows ins : Bool) (at_ : Int) (c : Nat) (w : World) (hc : c < 24) (h0 : 0 ≤ at_) (h1 : at_ < nAx rows) : Calls Tryz.prog 74 #[I c, I (kd rows ins), I at_] w fun e w' => e = .returned (I (fromP rows ins at_ c)) ∧ w = w' := by
  go_enter Tryz.func74, Tryz.ntmps74
  cases rows <;> cases ins <;> simp only [kd, nAx, if_true, Bool.false_eq_true, if_false] at h1 ⊢ <;> go_wp2
  all_goals go_ret
  all_goals refine ⟨congrArg (fun i => Ending.returned (I i)) ?_, rfl⟩
  all_goals ((try simp only [beq_iff_eq, beq_eq_false_iff_ne, ne_eq] at *); simp only [fromP, fromL, nAx, if_true, if_false, Bool.false_eq_true]; (repeat' split) <;> omega)
end Go.Proofs.Qxb6500326aGreat
