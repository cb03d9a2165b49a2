import Derived.Test.Qxb6500326aGreatW9
namespace Go.Proofs.Qxb6500326aGreat
set_option maxRecDepth 100000
set_option linter.unusedVariables false
set_option linter.unusedSimpArgs false
open Go.RowKit Go.PlainAid
theorem exprM_eq (b : Nat → Int) (n : Nat) (ex : Bool → PS → PS × Int) (F : Nat) (ranges : Bool) (st : PS) (u : PS × Int) (l : PS × Int) (hu : chain2 b n ex F ranges st = u) (hl : u.1.look b n = l) :
    exprM b n ex F ranges st = if isCmp l.2 = true then (if isRange l.1.n u.2 = true then (l.1.fail 3 l.1.i, -1) else
      (chain2 b n ex F false (l.1.go (l.1.i + (cmpOp l.2 (nextB b n l.1.i)).2))).1.add (nBin (cmpOp l.2 (nextB b n l.1.i)).1 u.2 (chain2 b n ex F false (l.1.go (l.1.i + (cmpOp l.2 (nextB b n l.1.i)).2))).2)) else (l.1, u.2) := by
  subst hu; subst hl; rfl
end Go.Proofs.Qxb6500326aGreat
