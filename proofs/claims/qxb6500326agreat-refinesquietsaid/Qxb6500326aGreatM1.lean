import Derived.Test.Qxb6500326aGreatL10
namespace Go.Proofs.Qxb6500326aGreat
set_option maxRecDepth 100000
set_option linter.unusedVariables false
set_option linter.unusedSimpArgs false
open Go.RowKit
set_option maxHeartbeats 400000 in
theorem refines_any (ad : Option Addr) (len cap : Nat) (w : World) (hlen : len ≤ 140737488355328) (hs : Script w ad len) :
    Calls Tryz.prog 3 #[.slice ad len cap] w fun e w' => e = .returned (.bool true) ∧ Fr S0 w w' := by
  have H5 : Calls Tryz.prog 6 #[.slice ad len cap] w fun e w' => e = .returned (.int .i64 (-1)) ∧ Fr S0 w w' := by
    have HW := Bx.mk (walk_any false ad len cap w hlen hs)
    clear hs
    go_enter Tryz.func6, Tryz.ntmps6
    go_wp2_with (go_at_call 9; refine HW.out.mono ?_; rintro e w1 ⟨v, rfl, hf⟩)
    go_ret
    exact ⟨rfl, hf⟩
  have HW := Bx.mk H5
  clear hs H5
  go_enter Tryz.func3, Tryz.ntmps3
  go_wp2_with (go_at_call 6; refine HW.out.mono ?_; rintro e w1 ⟨rfl, hf⟩)
  go_ret
  exact ⟨rfl, hf⟩
set_option maxHeartbeats 400000 in
theorem refinesQuiet_any (ad : Option Addr) (len cap : Nat) (w : World) (hlen : len ≤ 140737488355328) (hs : Script w ad len) :
    Calls Tryz.prog 4 #[.slice ad len cap] w fun e w' => e = .returned (.bool true) ∧ Fr S0 w w' := by
  have H5 : Calls Tryz.prog 7 #[.slice ad len cap] w fun e w' => e = .returned (.int .i64 (-1)) ∧ Fr S0 w w' := by
    have HW := Bx.mk (walk_any true ad len cap w hlen hs)
    clear hs
    go_enter Tryz.func7, Tryz.ntmps7
    go_wp2_with (go_at_call 9; refine HW.out.mono ?_; rintro e w1 ⟨v, rfl, hf⟩)
    go_ret
    exact ⟨rfl, hf⟩
  have HW := Bx.mk H5
  clear hs H5
  go_enter Tryz.func4, Tryz.ntmps4
  go_wp2_with (go_at_call 7; refine HW.out.mono ?_; rintro e w1 ⟨rfl, hf⟩)
  go_ret
  exact ⟨rfl, hf⟩
end Go.Proofs.Qxb6500326aGreat
