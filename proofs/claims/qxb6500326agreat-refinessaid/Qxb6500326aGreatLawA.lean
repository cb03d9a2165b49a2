import Derived.Test.Qxb6500326aGreatRows
import Derived.Test.Qxb6500326aGreatLawA0
import Derived.Test.Qxb6500326aGreatLawA1
namespace Go.Proofs.Qxb6500326aGreat
set_option linter.unusedVariables false
set_option linter.unusedSimpArgs false
open Go.ChangeShapes Go.WideShapes Go.ChangeAt Go.RowKit

theorem refines_named : Tryz.pinned.checked.prog.funcNamed Rows.refinesRow.func = some 3 := by kernel_rfl
theorem refines_instance : Tryz.f3.isInstance Tryz.pinned.checked.prog Rows.refinesRow.origin Rows.refinesRow.targs := of_decide_eq_true (by kernel_rfl)
theorem refines_wrapper : Tryz.f3.isWrapper Tryz.pinned.checked.prog Rows.refinesRow.wrapper Rows.refinesRow.mainSum := by
  unfold Func.isWrapper; first | (rw [if_pos (by decide +kernel)]; kernel_rfl) | (rw [if_neg (by decide +kernel)]; exact ⟨rfl, rfl⟩)
/-- THE STATEMENT. -/
theorem refines_proved : Rows.RefinesSaid :=
  OpenClaim.holds_of_wide 3 Tryz.f3 rfl rfl rfl rfl rfl rfl rfl ⟨rfl, rfl, rfl, rfl, rfl⟩ rfl rfl rfl rfl rfl refines_named Tryz.func3 refines_closed
    refines_instance refines_wrapper (fun os started H enc _ => refines_lifted os started H enc)
#print axioms refines_proved
end Go.Proofs.Qxb6500326aGreat
