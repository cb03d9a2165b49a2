import Derived.Test.Qxb6500326aGreatC2
namespace Go.Proofs.Qxb6500326aGreat
set_option maxRecDepth 100000
set_option linter.unusedVariables false
set_option linter.unusedSimpArgs false
open Go.RowKit Go.PlainAid
set_option maxHeartbeats 4000000 in
theorem binR_any (op : Int) (x y : Vl) (w : World) (hx : Lw x) (hy : Lw y) : Calls Tryz.prog 238 #[I op, vV x, vV y] w (VR w (binP op x y)) := by
  cases h4 : (x.kind == 4)
  · cases g4 : (y.kind == 4)
    · exact binR_all op x y w hx hy h4 g4
    · clear hx hy
      go_enter Tryz.func238, Tryz.ntmps238
      go_wp2
      go_returns
      exact ⟨by simp [binP, h4, g4], (((Fr.refl S0 w).alloc _).alloc _).alloc _⟩
  · clear hx hy
    go_enter Tryz.func238, Tryz.ntmps238
    go_wp2
    go_returns
    exact ⟨by simp [binP, h4], (((Fr.refl S0 w).alloc _).alloc _).alloc _⟩
end Go.Proofs.Qxb6500326aGreat
