import Derived.Test.Qxb6500331aGreatE8
import Derived.Test.Qxb6500331aGreatN1
namespace Go.Proofs.Qxb6500331aGreat
set_option maxRecDepth 100000
set_option linter.unusedVariables false
set_option linter.unusedSimpArgs false
open Go.RowKit Go.PlainAid

theorem mnew_any (w : World) : Calls Tryz.prog 20 #[] w fun e w' => e = .returned (pt w.heap.size) ∧ MF w' w.heap.size ∧ Fr S0 w w' ∧ w'.heap.size = w.heap.size + 1 := by
  go_enter Tryz.func20, Tryz.ntmps20
  go_wp2
  go_ret
  refine ⟨rfl, ⟨0, 0, ⟨#[]⟩, ?_⟩, (Fr.refl _ _).alloc _, by simp⟩
  exact Row.new _ _ _ _ _ rfl (by intro i hi; rcases i with _ | _ | _ | i <;> first | rfl | omega)
set_option maxHeartbeats 1000000 in
theorem meNew_any (w : World) : Calls Tryz.prog 10 #[] w fun e w' => ∃ mb fb, e = .returned (pt mb) ∧ MEv w' mb fb ∧ Fr S0 w w' ∧ (∀ k, MeS mb fb k → w.heap.size ≤ k ∧ k < w'.heap.size) := by
  go_enter Tryz.func10, Tryz.ntmps10
  go_wp2_with (first | (go_at_call 20; refine (mnew_any _).mono ?_; rintro e w1 ⟨rfl, hm0, hf0, hs0⟩; have hm := Bx.mk hm0; have hf := Bx.mk hf0; have hsz := Bx.mk hs0; clear hm0 hf0 hs0))
  go_ret
  have hsz := hsz.out
  refine ⟨w1.heap.size, w.heap.size, rfl, ⟨⟨0, 0, Row.new _ _ _ _ _ rfl (by intro i hi; rcases i with _ | _ | _ | i <;> first | rfl | omega)⟩, hm.out.fr (S := S0) ((Fr.refl S0 _).alloc _) (by simp), by omega⟩, hf.out.alloc _, ?_⟩
  rintro k (rfl | rfl)
  · exact ⟨by omega, by simp⟩
  · exact ⟨Nat.le_refl _, by simp; omega⟩
theorem Tryz.size29 : (Tryz.prog.info? 29).map (·.size) = some 1 := by kernel_rfl
theorem one_heap {w : World} {b : Nat} {v : Value} {f : Nat → Value} (h : Row w b 1 f) (hf : f 0 = v) : ∃ T, w.heap[b]? = some (.cells #[v] T (0, 0)) := by
  obtain ⟨arr, T, h1, h2, h3⟩ := h
  refine ⟨T, ?_⟩
  rw [h1]
  have : arr = #[v] := by
    apply Array.ext_getElem?
    intro i
    rcases Nat.lt_or_ge i 1 with hi | hi
    · rw [h3 i hi, show i = 0 from by omega, hf]; rfl
    · rw [Array.getElem?_eq_none (by omega), Array.getElem?_eq_none (by simpa using hi)]
  rw [this]
theorem ret_bl {fn : Func} {R : Ending → World → Prop} {a : Act} {w : World} {p : Tmp} {g b : Nat} {f : Nat → Value} (hr : fn.results = #[.cell p 29]) (hp : a.tmps.getD p undef = pt g) (hrow : Row w g 1 f) (hf : f 0 = pt b) (hd : a.defers = [])
    (hR : R (.returned (blV b)) w) : bodyPost Tryz.prog fn R .ret a w := by
  obtain ⟨T, hh⟩ := one_heap hrow hf
  exact bodyPost_ret (results_cell_row hr a.tmps w g T _ (0, 0) _ hp hh Tryz.underlying29 rfl (by rw [Tryz.size29]; rfl)) hd hR
set_option maxHeartbeats 1000000 in
theorem ground_any (w : World) : Calls Tryz.prog 8 #[] w fun e w' => ∃ B : FB, e = .returned (blV B.f) ∧ FZ w' B ∧ Fr S0 w w' ∧ (∀ k, FmS B k → w.heap.size ≤ k ∧ k < w'.heap.size) := by
  have hb := Bx.mk (Row.new w #[.pointer none] 29 1 (fun _ => .pointer none) rfl (by intro i hi; rcases i with _ | i <;> first | rfl | omega))
  go_enter Tryz.func8, Tryz.ntmps8
  go_wp2_with (first | (go_at_call 19; refine (new_any _).mono ?_; rintro e w1 ⟨B, rfl, hz, hf, hB⟩; have hb := Bx.mk (hf.row0 hb.out); have b0 := hb.out.cell 0 (by omega); have y0 := hb.out.frozen 0; have hz := Bx.mk hz; have hf := Bx.mk hf; have hB := Bx.mk hB))
  have hlt : ∀ k, FmS B k → w.heap.size + 1 ≤ k ∧ k < w1.heap.size := fun k hk => by have := hB.out k hk; simpa using this
  have hS := Fr.one w1 ⟨w.heap.size, 0, none⟩ (pt B.f)
  refine ret_bl (p := 0) (g := w.heap.size) (b := B.f) rfl rfl (hb.out.set 0 (pt B.f)) (upd_same _ _ _) rfl ⟨B, rfl, hz.out.fr hS (fun k hk e => by have := hlt k hk; have e : k = w.heap.size := e; omega), (((Fr.refl S0 w).alloc _).trans hf.out).setCell (p := ⟨w.heap.size, 0, none⟩) (.inr (Nat.le_refl _)) _, fun k hk => ?_⟩
  have := hlt k hk
  refine ⟨by omega, ?_⟩
  simpa [World.setCell] using this.2
theorem Tryz.info131 : (Tryz.prog.info? 131).map (fun i => (i.zero, i.size, i.bytes)) = some (some (.agg #[I 0, I 0, I 0, I 0, .string es, .int .u32 0]), 6, 56) := by kernel_rfl
theorem Tryz.info145 : (Tryz.prog.info? 145).map (fun i => (i.zero, i.size, i.bytes)) = some (some (.agg #[I 0, I 0, .string es, I 0, I 0]), 5, 48) := by kernel_rfl

def iz : Ins := ⟨0, 0, v0, 0#32⟩
theorem mk54 : ∀ u : World, (Instr.makeSlice 54 (.int .i64 48) (.int .i64 48)).run Tryz.prog u = .ok (sl u.heap.size 48 48) (u.alloc (.cells (madeCells (Value.agg #[I 0, I 0, I 0, I 0, .string es, .int .u32 0]).cells (48 * 6)) 131)) := mkOf Tryz.underlying54 Tryz.info131 48 (by omega) (by omega)
theorem mk55 : ∀ u : World, (Instr.makeSlice 55 (.int .i64 24) (.int .i64 24)).run Tryz.prog u = .ok (sl u.heap.size 24 24) (u.alloc (.cells (madeCells (I 0).cells (24 * 1)) 3)) := mkOf Tryz.underlying55 Tryz.info3 24 (by omega) (by omega)
theorem mk56 : ∀ u : World, (Instr.makeSlice 56 (.int .i64 24) (.int .i64 24)).run Tryz.prog u = .ok (sl u.heap.size 24 24) (u.alloc (.cells (madeCells (Value.agg #[I 0, I 0, .string es, I 0, I 0]).cells (24 * 5)) 145)) := mkOf Tryz.underlying56 Tryz.info145 24 (by omega) (by omega)
theorem mk35 : ∀ u : World, (Instr.makeSlice 35 (.int .i64 24) (.int .i64 24)).run Tryz.prog u = .ok (sl u.heap.size 24 24) (u.alloc (.cells (M47 24) 47)) := mk47 24 (by omega)
theorem Made.gridAt {M : Array Value} {n m : Nat} {c : Nat → Value} (h : Made M n m c) (w : World) (T : TypeId) {H : Nat} (e : w.heap.size = H) : Grid (w.alloc (.cells M T)) H n m (fun _ => c) := e ▸ h.grid w T
theorem Grid.alloc {w : World} {b n m : Nat} {c : Nat → Nat → Value} (h : Grid w b n m c) (o : Obj) : Grid (w.alloc o) b n m c := Row.alloc h o
set_option maxHeartbeats 2000000 in
theorem newV_any (B : FB) (w : World) (hz : FZ w B) : Calls Tryz.prog 9 #[pt B.f] w fun e w' => ∃ V : VB, e = .returned (pt V.e) ∧ EZ w' V B ∧ Fr S0 w w' ∧ (∀ k, VS V k → w.heap.size ≤ k ∧ k < w'.heap.size) := by
  have k1 := mk54
  have k2 := mk55
  have k3 := mk35
  have k4 := mk56
  have hz := Bx.mk hz
  generalize hA : madeCells (Value.agg #[I 0, I 0, I 0, I 0, .string es, .int .u32 0]).cells (48 * 6) = A1 at k1
  generalize hB1 : madeCells (I 0).cells (24 * 1) = A2 at k2
  generalize hC : M47 24 = A3 at k3
  generalize hD : madeCells (Value.agg #[I 0, I 0, .string es, I 0, I 0]).cells (24 * 5) = A4 at k4
  have hA := Bx.mk hA
  have hB1 := Bx.mk hB1
  have hC := Bx.mk hC
  have hD := Bx.mk hD
  go_enter Tryz.func9, Tryz.ntmps9
  go_wp2
  go_ret
  have g1 : Made A1 48 6 (inC iz) := hA.out ▸ made_of rfl (by intro k hk; rcases k with _ | _ | _ | _ | _ | _ | k <;> first | rfl | omega) (by omega)
  have g2 : Made A2 24 1 (fun _ => I 0) := hB1.out ▸ made_of rfl (by intro k hk; rcases k with _ | k <;> first | rfl | omega) (by omega)
  have g3 : Made A3 24 3 (vC v0) := hC.out ▸ M47_made 24
  have g4 : Made A4 24 5 (tlC tl0) := hD.out ▸ made_of rfl (by intro k hk; rcases k with _ | _ | _ | _ | _ | k <;> first | rfl | omega) (by omega)
  refine ⟨⟨w.heap.size, w.heap.size + 1, w.heap.size + 1 + 1, w.heap.size + 1 + 1 + 1, w.heap.size + 1 + 1 + 1 + 1⟩, rfl, ⟨⟨⟨48, 0#32, 0, 0, fun _ => iz, fun _ => 0, fun _ => v0, fun _ => tl0⟩, ⟨?_, ?_, ?_, ?_, ?_, ?_⟩, rfl, rfl, rfl⟩, ?_, ?_⟩, ?_, ?_⟩
  · exact (((((Row.new w _ 58 9 _ rfl (by intro i hi; rcases i with _ | _ | _ | _ | _ | _ | _ | _ | _ | i <;> first | rfl | omega)).alloc _).alloc _).alloc _).alloc _)
  · exact (((g1.gridAt _ 131 (by simp)).alloc _).alloc _).alloc _
  · exact ((g2.gridAt _ 3 (by simp)).alloc _).alloc _
  · exact (g3.gridAt _ 47 (by simp)).alloc _
  · exact g4.gridAt _ 145 (by simp)
  · constructor <;> simp only [] <;> omega
  · exact hz.out.fr0 (((((Fr.refl S0 w).alloc _).alloc _).alloc _).alloc _ |>.alloc _)
  · intro k hk hF
    obtain ⟨F, hFm, -⟩ := hz.out
    refine not_fm hFm ?_ hF
    rcases hk with e | e | e | e | e <;> simp only [] at e <;> omega
  · exact ((((Fr.refl S0 w).alloc _).alloc _).alloc _).alloc _ |>.alloc _
  · intro k hk
    rcases hk with e | e | e | e | e <;> simp only [] at e <;> simp <;> omega
end Go.Proofs.Qxb6500331aGreat
