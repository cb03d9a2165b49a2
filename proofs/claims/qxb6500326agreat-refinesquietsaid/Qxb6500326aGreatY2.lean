import Derived.Test.Qxb6500326aGreatX2
import Derived.Test.Qxb6500326aGreatY1
import Derived.Test.Qxb6500326aGreatW15
namespace Go.Proofs.Qxb6500326aGreat
set_option maxRecDepth 100000
set_option linter.unusedVariables false
set_option linter.unusedSimpArgs false
open Go.RowKit Go.PlainAid
set_option maxRecDepth 100000 in
set_option maxHeartbeats 4000000 in
theorem step_any (q c : Int) (w : World) (hq : 0 ≤ q) (hq6 : q ≤ 6) (h0 : 0 ≤ c) (h1 : c ≤ 255) :
    Calls Tryz.prog 221 #[I q, Y c] w fun e w' => e = .returned (I (stepP q c)) ∧ w = w' := by
  have h : q = 0 ∨ q = 1 ∨ q = 2 ∨ q = 3 ∨ q = 4 ∨ q = 5 ∨ q = 6 := by omega
  rcases h with h | h | h | h | h | h | h <;> subst h <;> clear hq hq6
  all_goals go_enter Tryz.func221, Tryz.ntmps221
  all_goals go_wp2
  all_goals go_ret
  all_goals (refine ⟨?_, rfl⟩; refine congrArg Ending.returned (congrArg (Value.int .i64) ?_); unfold stepP; simp only [isCap_iff, isDig_iff]; (try simp at *); repeat' split)
  all_goals first | rfl | omega
theorem Row.tkSet {w : World} {b : Nat} {t : Tok} (h : Row w b 9 (tkC t)) (k : Nat) (x : Value) (t' : Tok) (hx : ∀ i, i < 9 → upd (tkC t) k x i = tkC t' i) : Row (w.setCell ⟨b, k, none⟩ x) b 9 (tkC t') := (h.set k x).congr hx
end Go.Proofs.Qxb6500326aGreat
