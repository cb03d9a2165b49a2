import Derived.Test.Qxb6500326aGreatR18
import Derived.Test.Qxb6500326aGreatR19
import Derived.Test.Qxb6500326aGreatD6
import Derived.Test.Qxb6500326aGreatN6
namespace Go.Proofs.Qxb6500326aGreat
set_option maxRecDepth 100000
set_option linter.unusedVariables false
set_option linter.unusedSimpArgs false
open Go.RowKit Go.PlainAid
theorem Tryz.info92 : (Tryz.prog.info? 92).map (fun i => (i.zero, i.size, i.bytes)) = some (some (vV v0), 3, 32) := by kernel_rfl
abbrev EL (w : World) (g n : Nat) (env : Nat → Vl) : Prop := Grid w g n 3 (fun c => vC (env c))
def M47 (n : Nat) : Array Value := madeCells (vV v0).cells (n * 3)
theorem M47_made (n : Nat) : Made (M47 n) n 3 (vC v0) := made_of rfl (by intro k hk; rcases k with _ | _ | _ | k <;> first | rfl | omega) (by omega)
theorem mk47 (n : Nat) (hn : n ≤ 100) : ∀ u : World, (Instr.makeSlice 118 (.int .i64 (n : Int)) (.int .i64 (n : Int))).run Tryz.prog u = .ok (sl u.heap.size n n) (u.alloc (.cells (M47 n) 92)) := mkOf Tryz.underlying118 Tryz.info92 n (by omega) (by omega)
theorem add0 (g j : Nat) : (⟨g, 0, none⟩ : Addr).add j = ⟨g, j, none⟩ := by unfold Addr.add; split <;> simp_all
end Go.Proofs.Qxb6500326aGreat
