import Derived.Test.Qxb6500326aGreatR1
namespace Go.Proofs.Qxb6500326aGreat
set_option maxRecDepth 100000
set_option linter.unusedVariables false
set_option linter.unusedSimpArgs false
open Go.RowKit Go.PlainAid

theorem EM.stk3 {w : World} {V : VB} {fb : Nat} {E : Evr} (h : EM w V fb E) {i : Nat} (hi : i < 24) :
    w.cell? ⟨V.s, i * 3, none⟩ = some (I (E.stk i).kind) ∧ w.cell? ⟨V.s, i * 3 + 1, none⟩ = some (I (E.stk i).n) ∧ w.cell? ⟨V.s, i * 3 + 2, none⟩ = some (.string (E.stk i).s) ∧ w.frozen? ⟨V.s, i * 3, none⟩ = false ∧ w.frozen? ⟨V.s, i * 3 + 1, none⟩ = false ∧ w.frozen? ⟨V.s, i * 3 + 2, none⟩ = false :=
  ⟨h.stk.cell0 i hi (by omega), h.stk.cell i 1 hi (by omega), h.stk.cell i 2 hi (by omega), h.stk.frozen _, h.stk.frozen _, h.stk.frozen _⟩
theorem EM.fol5 {w : World} {V : VB} {fb : Nat} {E : Evr} (h : EM w V fb E) {i : Nat} (hi : i < 24) {x : Tl} (hx : E.fol i = x) :
    w.cell? ⟨V.t, i * 5, none⟩ = some (I x.bad.kind) ∧ w.cell? ⟨V.t, i * 5 + 1, none⟩ = some (I x.bad.n) ∧ w.cell? ⟨V.t, i * 5 + 2, none⟩ = some (.string x.bad.s) ∧ w.cell? ⟨V.t, i * 5 + 3, none⟩ = some (I x.acc) ∧ w.cell? ⟨V.t, i * 5 + 4, none⟩ = some (I x.cnt) := by
  subst hx
  exact ⟨h.fol.cell0 i hi (by omega), h.fol.cell i 1 hi (by omega), h.fol.cell i 2 hi (by omega), h.fol.cell i 3 hi (by omega), h.fol.cell i 4 hi (by omega)⟩
theorem EM.fol5z {w : World} {V : VB} {fb : Nat} {E : Evr} (h : EM w V fb E) (i : Nat) :
    w.frozen? ⟨V.t, i * 5, none⟩ = false ∧ w.frozen? ⟨V.t, i * 5 + 1, none⟩ = false ∧ w.frozen? ⟨V.t, i * 5 + 2, none⟩ = false ∧ w.frozen? ⟨V.t, i * 5 + 3, none⟩ = false ∧ w.frozen? ⟨V.t, i * 5 + 4, none⟩ = false :=
  ⟨h.fol.frozen _, h.fol.frozen _, h.fol.frozen _, h.fol.frozen _, h.fol.frozen _⟩
theorem EM.ev9 {w : World} {V : VB} {fb : Nat} {E : Evr} (h : EM w V fb E) :
    w.cell? ⟨V.e, 0, none⟩ = some (pt fb) ∧ w.cell? ⟨V.e, 1, none⟩ = some (sl V.c 48 48) ∧ w.cell? ⟨V.e, 2, none⟩ = some (I E.start) ∧ w.cell? ⟨V.e, 3, none⟩ = some (U E.cells) ∧ w.cell? ⟨V.e, 4, none⟩ = some (sl V.o 24 24) ∧ w.cell? ⟨V.e, 5, none⟩ = some (sl V.s 24 24) ∧ w.cell? ⟨V.e, 6, none⟩ = some (I E.top) ∧ w.cell? ⟨V.e, 7, none⟩ = some (sl V.t 24 24) ∧ w.cell? ⟨V.e, 8, none⟩ = some (I E.deep) :=
  ⟨h.row.cell 0 (by omega), h.row.cell 1 (by omega), h.row.cell 2 (by omega), h.row.cell 3 (by omega), h.row.cell 4 (by omega), h.row.cell 5 (by omega), h.row.cell 6 (by omega), h.row.cell 7 (by omega), h.row.cell 8 (by omega)⟩
theorem EM.ne {w : World} {V : VB} {fb : Nat} {E : Evr} (h : EM w V fb E) {k : Nat} (hk : w.heap.size ≤ k) : ¬ VS V k := by
  obtain ⟨l1, l2, l3, l4, l5⟩ := h.lts
  rintro (e | e | e | e | e) <;> omega
set_option maxHeartbeats 2000000 in
theorem pushV (V : VB) (fb : Nat) (E : Evr) (x : Vl) (w : World) (h : EM w V fb E) (ht : E.top < 24) :
    Calls Tryz.prog 236 #[pt V.e, vV x] w (Lv w V fb (.tuple #[]) { E with stk := upd E.stk E.top x, top := E.top + 1 }) := by
  obtain ⟨-, -, -, -, -, c5, c6, -, -⟩ := h.ev9
  have y6 := h.row.frozen 6
  obtain ⟨l1, l2, l3, l4, l5⟩ := h.lts
  obtain ⟨s0, s1, s2, z0, z1, z2⟩ := h.stk3 ht
  have hes := h.ok.es
  have h2 := Bx.mk ((h.putStk E.top x).set (E' := { E with stk := upd E.stk E.top x, top := E.top + 1 }) 6 (I ((E.top : Int) + 1)) (by intro i hi; rcases i with _ | _ | _ | _ | _ | _ | _ | _ | _ | i <;> first | rfl | omega) rfl rfl rfl rfl)
  have hf : Bx (Fr (VS V) w ((sets w V.s (E.top * 3) (vA x).toList).setCell ⟨V.e, 6, none⟩ (I ((E.top : Int) + 1)))) := ⟨(fr_put w VS.s _ _).trans (fr_set _ VS.e _ _)⟩
  clear h
  go_enter Tryz.func236, Tryz.ntmps236
  go_wp2_with fail
  go_region
  go_wp2
  go_end0
  exact ⟨rfl, (h2.out.alloc _).drew, (hf.out.alloc _).drew⟩
set_option maxHeartbeats 2000000 in
theorem popV (V : VB) (fb : Nat) (E : Evr) (n : Nat) (w : World) (h : EM w V fb E) (ht : E.top = n + 1) (hn : n < 24) :
    Calls Tryz.prog 220 #[pt V.e] w (Lv w V fb (vV (E.stk n)) { E with top := n }) := by
  obtain ⟨-, -, -, -, -, c5, c6, -, -⟩ := h.ev9
  have y6 := h.row.frozen 6
  rw [ht] at c6
  obtain ⟨l1, l2, l3, l4, l5⟩ := h.lts
  obtain ⟨s0, s1, s2, z0, z1, z2⟩ := h.stk3 hn
  have hes := h.ok.es
  have hw1 : IntKind.i64.wrap (((n + 1 : Nat) : Int) - 1) = (n : Int) := by simp [IntKind.wrap, IntKind.bits, IntKind.signed]; omega
  have h2 := Bx.mk (h.set (E' := { E with top := n }) 6 (I (n : Int)) (by intro i hi; rcases i with _ | _ | _ | _ | _ | _ | _ | _ | _ | i <;> first | rfl | omega) rfl rfl rfl rfl)
  have hf : Bx (Fr (VS V) w (w.setCell ⟨V.e, 6, none⟩ (I (n : Int)))) := ⟨fr_set _ VS.e _ _⟩
  clear h
  have ht := Bx.mk ht
  go_enter Tryz.func220, Tryz.ntmps220
  go_wp2_with fail
  go_region
  go_wp2
  exact ret_v (p := 2) (g := w.heap.size) (x := E.stk n) rfl rfl ((v_new (w.setCell ⟨V.e, 6, none⟩ (I (n : Int))) (E.stk n) 92 (H := w.heap.size) (by simp)).drew) rfl ⟨rfl, (h2.out.alloc _).drew, (hf.out.alloc _).drew⟩
end Go.Proofs.Qxb6500326aGreat
