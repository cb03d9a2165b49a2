import Derived.Test.Qxb6500326aGreatRows
import Derived.Test.Qxb6500326aGreatRead
namespace Go.Proofs.Qxb6500326aGreat
set_option linter.unusedVariables false
set_option linter.unusedSimpArgs false
open Go.ChangeShapes Go.WideShapes Go.ChangeAt Go.RowKit

set_option maxHeartbeats 8000000 in
/-- The closed facts of the row, each a lemma of its own. -/
theorem refinesQuiet_closed : joinedFacts Tryz.pinned.checked.prog 4 Tryz.f4 Rows.refinesQuietSpec Rows.refinesQuietRow = true := by
  simp only [joinedFacts, Bool.and_eq_true]
  repeat' apply And.intro
  all_goals as_aux_lemma => kernel_rfl
end Go.Proofs.Qxb6500326aGreat
