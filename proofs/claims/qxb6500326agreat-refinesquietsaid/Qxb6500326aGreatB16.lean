import Derived.Test.Qxb6500326aGreatB7
import Derived.Test.Qxb6500326aGreatB8
import Derived.Test.Qxb6500326aGreatB12
import Derived.Test.Qxb6500326aGreatB13
import Derived.Test.Qxb6500326aGreatB14
import Derived.Test.Qxb6500326aGreatB15
namespace Go.Proofs.Qxb6500326aGreat
set_option maxRecDepth 100000
set_option linter.unusedVariables false
set_option linter.unusedSimpArgs false
open Go.RowKit Go.PlainAid

theorem worth_all {g eb : Nat} {L : List Nd} {env : Nat → Vl} (he : LwE env) {i : Nat} {x : Vl} (h : Wo L env i x) : WOK g eb L env i x := by
  refine Wo.rec (L := L) (env := env) (motive_1 := fun i x _ => WOK g eb L env i x) (motive_2 := fun op m b s _ => m ≤ 600 → FOK g eb L env op b s) ?_ ?_ ?_ ?_ ?_ ?_ ?_ ?_ ?_ ?_ ?_ ?_ ?_ ?_ h
  · intro i v hi h; exact worth_num hi h
  · intro i v hi h; exact worth_bool hi h
  · intro i hi h; exact worth_bad hi h
  · intro i r hi h hg; exact worth_refOut hi h hg
  · intro i r hi h hg; exact worth_ref hi h hg
  · intro i v hi h hv lv ih; exact worth_neg hi h lv ih
  · intro i m op x y hi ho h hm hx hy lx ly ihx ihy; exact worth_bin hi h lx ly ihx ihy
  · intro i j1 j2 j3 k c x y hi h h3 h2 h1 l1 l2 l3 hc hx hy lc lx ly ihc ihx ihy
    exact worth_cond (a1 := j1 + 1) (a2 := j2 + 1) (a3 := j3 + 1) hi (by omega) (by omega) (by omega) h h3 h2 h1 ihc ihx ihy
  · intro i j op k v hi ho h h1 l1 hv lv ih
    exact worth_one (a := j + 1) hi (by omega) ho h h1 lv ih
  · intro i op k m s hi ho h hs hm ih
    exact worth_fold hi (m := m) ho h (ih hm)
  · intro op _; exact fold_nil
  · intro op m i b s v hi h hb hs fs hk hv lv ih ihv hm
    exact fold_arg hi (by omega) h rfl (by simpa using hk) fs (by omega) lv (ih (by omega)) ihv
  · intro op m i b s p q hi h hb hs fs hk ho ih hm
    exact fold_lost hi (by omega) h hk ho fs (by omega) (ih (by omega))
  · intro op m i b s p q hi h hb hs fs hk ho ih hm
    exact fold_range hi (by omega) h hk ho he fs (by omega) (ih (by omega))
end Go.Proofs.Qxb6500326aGreat
