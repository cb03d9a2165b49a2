import Derived.Test.Qxb6500326aGreatRows
import Derived.Test.Qxb6500326aGreatLawB0
import Derived.Test.Qxb6500326aGreatLawB1
namespace Go.Proofs.Qxb6500326aGreat
set_option linter.unusedVariables false
set_option linter.unusedSimpArgs false
open Go.ChangeShapes Go.WideShapes Go.ChangeAt Go.RowKit

theorem refinesQuiet_named : Tryz.pinned.checked.prog.funcNamed Rows.refinesQuietRow.func = some 4 := by kernel_rfl
theorem refinesQuiet_instance : Tryz.f4.isInstance Tryz.pinned.checked.prog Rows.refinesQuietRow.origin Rows.refinesQuietRow.targs := of_decide_eq_true (by kernel_rfl)
theorem refinesQuiet_wrapper : Tryz.f4.isWrapper Tryz.pinned.checked.prog Rows.refinesQuietRow.wrapper Rows.refinesQuietRow.mainSum := by
  unfold Func.isWrapper; first | (rw [if_pos (by decide +kernel)]; kernel_rfl) | (rw [if_neg (by decide +kernel)]; exact ⟨rfl, rfl⟩)
/-- THE STATEMENT. -/
theorem refinesQuiet_proved : Rows.RefinesQuietSaid :=
  OpenClaim.holds_of_wide 4 Tryz.f4 rfl rfl rfl rfl rfl rfl rfl ⟨rfl, rfl, rfl, rfl, rfl⟩ rfl rfl rfl rfl rfl refinesQuiet_named Tryz.func4 refinesQuiet_closed
    refinesQuiet_instance refinesQuiet_wrapper (fun os started H enc _ => refinesQuiet_lifted os started H enc)
#print axioms refinesQuiet_proved
end Go.Proofs.Qxb6500326aGreat
