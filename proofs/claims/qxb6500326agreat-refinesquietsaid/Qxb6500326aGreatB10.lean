import Derived.Test.Qxb6500326aGreatB3
namespace Go.Proofs.Qxb6500326aGreat
set_option maxRecDepth 100000
set_option linter.unusedVariables false
set_option linter.unusedSimpArgs false
open Go.RowKit Go.PlainAid
set_option maxHeartbeats 4000000 in
theorem binM_any (op : Int) (x y : Vl) (w : World) (hx : Lw x) (hy : Lw y) : Calls Tryz.prog 230 #[I op, vV x, vV y] w (VR w (binP op x y)) := by
  cases h4 : (x.kind == 4)
  · cases g4 : (y.kind == 4)
    · cases h7 : decide (7 ≤ op)
      · exact binM_cmp op x y w hx hy h4 g4 h7
      · exact binM_ar op x y w hx hy h4 g4 h7
    · clear hx hy
      go_enter Tryz.func230, Tryz.ntmps230
      go_wp2
      go_returns
      exact ⟨by simp [binP, h4, g4], (((Fr.refl S0 w).alloc _).alloc _).alloc _⟩
  · clear hx hy
    go_enter Tryz.func230, Tryz.ntmps230
    go_wp2
    go_returns
    exact ⟨by simp [binP, h4], (((Fr.refl S0 w).alloc _).alloc _).alloc _⟩
end Go.Proofs.Qxb6500326aGreat
