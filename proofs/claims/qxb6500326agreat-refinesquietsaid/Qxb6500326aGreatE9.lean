import Derived.Test.Qxb6500326aGreatE4
import Derived.Test.Qxb6500326aGreatN1
namespace Go.Proofs.Qxb6500326aGreat
set_option maxRecDepth 100000
set_option linter.unusedVariables false
set_option linter.unusedSimpArgs false
open Go.RowKit Go.PlainAid
theorem mnew_any (w : World) : Calls Tryz.prog 70 #[] w fun e w' => e = .returned (pt w.heap.size) ∧ MF w' w.heap.size ∧ Fr S0 w w' ∧ w'.heap.size = w.heap.size + 1 := by
  go_enter Tryz.func70, Tryz.ntmps70
  go_wp2
  go_ret
  refine ⟨rfl, ⟨0, 0, ⟨#[]⟩, ?_⟩, (Fr.refl _ _).alloc _, by simp⟩
  exact Row.new _ _ _ _ _ rfl (by intro i hi; rcases i with _ | _ | _ | i <;> first | rfl | omega)
theorem meNew_any (w : World) : Calls Tryz.prog 107 #[] w fun e w' => ∃ mb fb, e = .returned (pt mb) ∧ MEv w' mb fb ∧ Fr S0 w w' ∧ (∀ k, MeS mb fb k → w.heap.size ≤ k ∧ k < w'.heap.size) := by
  go_enter Tryz.func107, Tryz.ntmps107
  go_wp2_with (first | (go_at_call 70; refine (mnew_any _).mono ?_; rintro e w1 ⟨rfl, hm0, hf0, hs0⟩; have hm := Bx.mk hm0; have hf := Bx.mk hf0; have hsz := Bx.mk hs0; clear hm0 hf0 hs0))
  go_ret
  have hsz := hsz.out
  refine ⟨w1.heap.size, w.heap.size, rfl, ⟨⟨0, 0, Row.new _ _ _ _ _ rfl (by intro i hi; rcases i with _ | _ | _ | i <;> first | rfl | omega)⟩, hm.out.fr (S := S0) ((Fr.refl S0 _).alloc _) (by simp), by omega⟩, hf.out.alloc _, ?_⟩
  rintro k (rfl | rfl)
  · exact ⟨by omega, by simp⟩
  · exact ⟨Nat.le_refl _, by simp; omega⟩
theorem Tryz.info235 : (Tryz.prog.info? 235).map (fun i => (i.zero, i.size, i.bytes)) = some (some (.agg #[I 0, I 0, I 0, I 0, .string es, .int .u32 0]), 6, 56) := by kernel_rfl
theorem Tryz.info249 : (Tryz.prog.info? 249).map (fun i => (i.zero, i.size, i.bytes)) = some (some (.agg #[I 0, I 0, .string es, I 0, I 0]), 5, 48) := by kernel_rfl

def iz : Ins := ⟨0, 0, v0, 0#32⟩
theorem mk54 : ∀ u : World, (Instr.makeSlice 116 (.int .i64 48) (.int .i64 48)).run Tryz.prog u = .ok (sl u.heap.size 48 48) (u.alloc (.cells (madeCells (Value.agg #[I 0, I 0, I 0, I 0, .string es, .int .u32 0]).cells (48 * 6)) 235)) := mkOf Tryz.underlying116 Tryz.info235 48 (by omega) (by omega)
theorem mk55 : ∀ u : World, (Instr.makeSlice 111 (.int .i64 24) (.int .i64 24)).run Tryz.prog u = .ok (sl u.heap.size 24 24) (u.alloc (.cells (madeCells (I 0).cells (24 * 1)) 3)) := mkOf Tryz.underlying111 Tryz.info3 24 (by omega) (by omega)
theorem mk56 : ∀ u : World, (Instr.makeSlice 119 (.int .i64 24) (.int .i64 24)).run Tryz.prog u = .ok (sl u.heap.size 24 24) (u.alloc (.cells (madeCells (Value.agg #[I 0, I 0, .string es, I 0, I 0]).cells (24 * 5)) 249)) := mkOf Tryz.underlying119 Tryz.info249 24 (by omega) (by omega)
theorem mk35 : ∀ u : World, (Instr.makeSlice 118 (.int .i64 24) (.int .i64 24)).run Tryz.prog u = .ok (sl u.heap.size 24 24) (u.alloc (.cells (M47 24) 92)) := mk47 24 (by omega)
theorem Made.gridAt {M : Array Value} {n m : Nat} {c : Nat → Value} (h : Made M n m c) (w : World) (T : TypeId) {H : Nat} (e : w.heap.size = H) : Grid (w.alloc (.cells M T)) H n m (fun _ => c) := e ▸ h.grid w T
theorem Grid.alloc {w : World} {b n m : Nat} {c : Nat → Nat → Value} (h : Grid w b n m c) (o : Obj) : Grid (w.alloc o) b n m c := Row.alloc h o
theorem newV_any (B : FB) (w : World) (hz : FZ w B) : Calls Tryz.prog 48 #[pt B.f] w fun e w' => ∃ V : VB, e = .returned (pt V.e) ∧ EZ w' V B ∧ Fr S0 w w' ∧ (∀ k, VS V k → w.heap.size ≤ k ∧ k < w'.heap.size) := by
  have k1 := mk54
  have k2 := mk55
  have k3 := mk35
  have k4 := mk56
  have hz := Bx.mk hz
  generalize hA : madeCells (Value.agg #[I 0, I 0, I 0, I 0, .string es, .int .u32 0]).cells (48 * 6) = A1 at k1
  generalize hB1 : madeCells (I 0).cells (24 * 1) = A2 at k2
  generalize hC : M47 24 = A3 at k3
  generalize hD : madeCells (Value.agg #[I 0, I 0, .string es, I 0, I 0]).cells (24 * 5) = A4 at k4
  have hA := Bx.mk hA
  have hB1 := Bx.mk hB1
  have hC := Bx.mk hC
  have hD := Bx.mk hD
  go_enter Tryz.func48, Tryz.ntmps48
  go_wp2
  go_ret
  have g1 : Made A1 48 6 (inC iz) := hA.out ▸ made_of rfl (by intro k hk; rcases k with _ | _ | _ | _ | _ | _ | k <;> first | rfl | omega) (by omega)
  have g2 : Made A2 24 1 (fun _ => I 0) := hB1.out ▸ made_of rfl (by intro k hk; rcases k with _ | k <;> first | rfl | omega) (by omega)
  have g3 : Made A3 24 3 (vC v0) := hC.out ▸ M47_made 24
  have g4 : Made A4 24 5 (tlC tl0) := hD.out ▸ made_of rfl (by intro k hk; rcases k with _ | _ | _ | _ | _ | k <;> first | rfl | omega) (by omega)
  refine ⟨⟨w.heap.size, w.heap.size + 1, w.heap.size + 1 + 1, w.heap.size + 1 + 1 + 1, w.heap.size + 1 + 1 + 1 + 1⟩, rfl, ⟨⟨⟨48, 0#32, 0, 0, fun _ => iz, fun _ => 0, fun _ => v0, fun _ => tl0⟩, ⟨?_, ?_, ?_, ?_, ?_, ?_⟩, rfl, rfl, rfl⟩, ?_, ?_⟩, ?_, ?_⟩
  · exact (((((Row.new w _ 121 9 _ rfl (by intro i hi; rcases i with _ | _ | _ | _ | _ | _ | _ | _ | _ | i <;> first | rfl | omega)).alloc _).alloc _).alloc _).alloc _)
  · exact (((g1.gridAt _ 235 (by simp)).alloc _).alloc _).alloc _
  · exact ((g2.gridAt _ 3 (by simp)).alloc _).alloc _
  · exact (g3.gridAt _ 92 (by simp)).alloc _
  · exact g4.gridAt _ 249 (by simp)
  · constructor <;> simp only [] <;> omega
  · exact hz.out.fr0 (((((Fr.refl S0 w).alloc _).alloc _).alloc _).alloc _ |>.alloc _)
  · intro k hk hF
    obtain ⟨F, hFm, -⟩ := hz.out
    refine not_fm hFm ?_ hF
    rcases hk with e | e | e | e | e <;> simp only [] at e <;> omega
  · exact ((((Fr.refl S0 w).alloc _).alloc _).alloc _).alloc _ |>.alloc _
  · intro k hk
    rcases hk with e | e | e | e | e <;> simp only [] at e <;> simp <;> omega
end Go.Proofs.Qxb6500326aGreat
