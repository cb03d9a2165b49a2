import Derived.Test.Qxb6500329aN8
namespace Go.Proofs.Qxb6500329a
set_option linter.unusedVariables false
set_option linter.unusedSimpArgs false
open Go.RowKit
set_option maxHeartbeats 400000 in
theorem refines_any (ad : Option Addr) (len cap : Nat) (w : World) (hlen : len ≤ 140737488355328) (hs : Script w ad len) :
    Calls Try.prog 4 #[.slice ad len cap] w fun e w' => e = .returned (.bool true) ∧ Fr S0 w w' := by
  have H5 : Calls Try.prog 7 #[.slice ad len cap] w fun e w' => e = .returned (.int .i64 (-1)) ∧ Fr S0 w w' := by
    have HW := Bx.mk (walk_any false ad len cap w hlen hs)
    clear hs
    go_enter Try.func7, Try.ntmps7
    go_wp2_with (go_at_call 15; refine HW.out.mono ?_; rintro e w1 ⟨v, rfl, hf⟩)
    go_ret
    exact ⟨rfl, hf⟩
  have HW := Bx.mk H5
  clear hs H5
  go_enter Try.func4, Try.ntmps4
  go_wp2_with (go_at_call 7; refine HW.out.mono ?_; rintro e w1 ⟨rfl, hf⟩)
  go_ret
  exact ⟨rfl, hf⟩
set_option maxHeartbeats 400000 in
theorem refinesQuiet_any (ad : Option Addr) (len cap : Nat) (w : World) (hlen : len ≤ 140737488355328) (hs : Script w ad len) :
    Calls Try.prog 5 #[.slice ad len cap] w fun e w' => e = .returned (.bool true) ∧ Fr S0 w w' := by
  have H5 : Calls Try.prog 8 #[.slice ad len cap] w fun e w' => e = .returned (.int .i64 (-1)) ∧ Fr S0 w w' := by
    have HW := Bx.mk (walk_any true ad len cap w hlen hs)
    clear hs
    go_enter Try.func8, Try.ntmps8
    go_wp2_with (go_at_call 15; refine HW.out.mono ?_; rintro e w1 ⟨v, rfl, hf⟩)
    go_ret
    exact ⟨rfl, hf⟩
  have HW := Bx.mk H5
  clear hs H5
  go_enter Try.func5, Try.ntmps5
  go_wp2_with (go_at_call 8; refine HW.out.mono ?_; rintro e w1 ⟨rfl, hf⟩)
  go_ret
  exact ⟨rfl, hf⟩
end Go.Proofs.Qxb6500329a
