import Derived.Test.Qxb6500326aGreatO1
namespace Go.Proofs.Qxb6500326aGreat
set_option maxRecDepth 100000
set_option linter.unusedVariables false
set_option linter.unusedSimpArgs false
open Go.RowKit Go.PlainAid

/-! ### the gap -/
abbrev gpA (rows ins : Bool) (at_ : Int) : Array Value := #[.bool rows, I (nAx rows), I at_, I (stepOf ins)]
abbrev gpV (rows ins : Bool) (at_ : Int) : Value := .agg #[.bool rows, I (nAx rows), I at_, I (stepOf ins)]
def gpC (rows ins : Bool) (at_ : Int) : Nat → Value
  | 0 => .bool rows
  | 1 => I (nAx rows)
  | 2 => I at_
  | _ => I (stepOf ins)
theorem gp_new (w : World) (rows ins : Bool) (at_ : Int) (T : TypeId) {H : Nat} (e : w.heap.size = H) : Row (w.alloc (.cells (gpA rows ins at_) T)) H 4 (gpC rows ins at_) := by
  subst e
  exact Row.new w _ T 4 _ rfl (by intro i hi; rcases i with _ | _ | _ | _ | i <;> first | rfl | omega)
theorem Row.gp4 {w : World} {B : Nat} {rows ins : Bool} {at_ : Int} (h : Row w B 4 (gpC rows ins at_)) :
    w.cell? ⟨B, 0, none⟩ = some (.bool rows) ∧ w.cell? ⟨B, 1, none⟩ = some (I (nAx rows)) ∧ w.cell? ⟨B, 2, none⟩ = some (I at_) ∧ w.cell? ⟨B, 3, none⟩ = some (I (stepOf ins)) :=
  ⟨h.cell 0 (by omega), h.cell 1 (by omega), h.cell 2 (by omega), h.cell 3 (by omega)⟩
set_option maxHeartbeats 1000000 in
theorem low_any (rows ins : Bool) (at_ x : Int) (w : World) (h0 : -1000 ≤ x) (h1 : x ≤ 1000) : Calls Tryz.prog 201 #[gpV rows ins at_, I x] w fun e w' => e = .returned (I (lowP (stepOf ins) at_ x)) ∧ Fr S0 w w' := by
  go_enter Tryz.func201, Tryz.ntmps201
  cases ins <;> simp only [gpV, stepOf, if_true, if_false, Bool.false_eq_true] <;> go_wp2
  all_goals go_ret
  all_goals refine ⟨congrArg (fun i => Ending.returned (I i)) ?_, (Fr.refl _ _).alloc _⟩
  all_goals (unfold lowP; (repeat' split) <;> omega)
set_option maxHeartbeats 1000000 in
theorem high_any (rows ins : Bool) (at_ x : Int) (w : World) (h0 : -1000 ≤ x) (h1 : x ≤ 1000) : Calls Tryz.prog 202 #[gpV rows ins at_, I x] w fun e w' => e = .returned (I (highP (stepOf ins) at_ x)) ∧ Fr S0 w w' := by
  go_enter Tryz.func202, Tryz.ntmps202
  cases ins <;> simp only [gpV, stepOf, if_true, if_false, Bool.false_eq_true] <;> go_wp2
  all_goals go_ret
  all_goals refine ⟨congrArg (fun i => Ending.returned (I i)) ?_, (Fr.refl _ _).alloc _⟩
  all_goals (unfold highP; (repeat' split) <;> omega)
theorem nAx_bd (rows : Bool) : 4 ≤ nAx rows ∧ nAx rows ≤ 6 := by cases rows <;> decide
def sgB (rows ins : Bool) (at_ lo hi : Int) : Int × Int := spanG (nAx rows) (stepOf ins) at_ lo hi
set_option maxHeartbeats 1000000 in
theorem spanG_any (rows ins : Bool) (at_ lo hi : Int) (w : World) (h0 : 0 ≤ lo) (h1 : lo ≤ 1000) (h2 : 0 ≤ hi) (h3 : hi ≤ 1000) :
    Calls Tryz.prog 162 #[gpV rows ins at_, I lo, I hi] w fun e w' => e = .returned (.tuple #[I (sgB rows ins at_ lo hi).1, I (sgB rows ins at_ lo hi).2, .bool (decide ((sgB rows ins at_ lo hi).1 ≤ (sgB rows ins at_ lo hi).2))]) ∧ Fr S0 w w' := by
  have hL : Bx (∀ w, Calls Tryz.prog 201 #[gpV rows ins at_, I lo] w fun e w' => e = .returned (I (lowP (stepOf ins) at_ lo)) ∧ Fr S0 w w') := ⟨fun w => low_any rows ins at_ lo w (by omega) h1⟩
  have hH : Bx (∀ w, Calls Tryz.prog 202 #[gpV rows ins at_, I hi] w fun e w' => e = .returned (I (highP (stepOf ins) at_ hi)) ∧ Fr S0 w w') := ⟨fun w => high_any rows ins at_ hi w (by omega) h3⟩
  have hg := Bx.mk (gp_new w rows ins at_ 133 rfl)
  have hfr := Bx.mk ((Fr.refl S0 w).alloc (.cells (gpA rows ins at_) 133))
  have e : sgB rows ins at_ lo hi = (lowP (stepOf ins) at_ lo, if nAx rows ≤ highP (stepOf ins) at_ hi then nAx rows - 1 else highP (stepOf ins) at_ hi) := rfl
  rw [e]
  obtain ⟨n0, n1⟩ := nAx_bd rows
  simp only []
  generalize lowP (stepOf ins) at_ lo = a at *
  generalize highP (stepOf ins) at_ hi = b at *
  clear e
  go_enter Tryz.func162, Tryz.ntmps162
  go_wp2_with (first
    | (go_at_call 201; refine (hL.out _).mono ?_; clear hL; rintro e w1 ⟨rfl, hf⟩; have hg := Bx.mk (hf.row0 hg.out); have hfr := Bx.mk (hfr.out.trans hf); obtain ⟨b0, b1, b2, b3⟩ := hg.out.gp4; clear hf)
    | (go_at_call 202; refine (hH.out _).mono ?_; clear hH; rintro e w1 ⟨rfl, hf⟩; have hg := Bx.mk (hf.row0 hg.out); have hfr := Bx.mk (hfr.out.trans hf); obtain ⟨b0, b1, b2, b3⟩ := hg.out.gp4; clear hf))
  all_goals go_returns
  all_goals exact ⟨by (repeat' split) <;> first | rfl | omega, hfr.out⟩
set_option maxHeartbeats 1000000 in
theorem gapOf_any (rows ins : Bool) (at_ : Int) (w : World) : Calls Tryz.prog 100 #[I (kd rows ins), I at_] w fun e w' => e = .returned (gpV rows ins at_) ∧ Fr S0 w w' := by
  go_enter Tryz.func100, Tryz.ntmps100
  cases rows <;> cases ins <;> simp only [kd, nAx, stepOf, if_true, Bool.false_eq_true, if_false] <;> go_wp2
  all_goals go_returns
  all_goals exact ⟨rfl, ((Fr.refl _ _).alloc _).alloc _⟩
theorem fromL_src {n at_ x : Int} {ins : Bool} (h0 : 0 ≤ x) (h1 : x < n) (ha : 0 ≤ at_) (han : at_ < n) :
    fromL n at_ ins x = if at_ ≤ x then (if 0 < stepOf ins ∧ x = at_ then -1 else if n ≤ x - stepOf ins then -1 else x - stepOf ins) else x := by
  unfold fromL stepOf
  cases ins <;> simp <;> (repeat' split) <;> omega
set_option maxHeartbeats 2000000 in
theorem source_any (rows ins : Bool) (at_ : Int) (c : Nat) (w : World) (hc : c < 24) (h0 : 0 ≤ at_) (h1 : at_ < nAx rows) : Calls Tryz.prog 101 #[gpV rows ins at_, I c] w fun e w' => e = .returned (I (fromP rows ins at_ c)) ∧ Fr S0 w w' := by
  go_enter Tryz.func101, Tryz.ntmps101
  cases rows <;> cases ins <;> simp only [gpV, nAx, stepOf, if_true, Bool.false_eq_true, if_false] at h1 ⊢ <;> go_wp2
  all_goals go_ret
  all_goals refine ⟨congrArg (fun i => Ending.returned (I i)) ?_, (Fr.refl _ _).alloc _⟩
  all_goals ((try simp only [beq_iff_eq, beq_eq_false_iff_ne, ne_eq] at *); simp only [fromP, fromL, nAx, if_true, if_false, Bool.false_eq_true]; (repeat' split) <;> omega)
end Go.Proofs.Qxb6500326aGreat
