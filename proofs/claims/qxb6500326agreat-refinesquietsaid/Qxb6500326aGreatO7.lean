import Derived.Test.Qxb6500326aGreatO6
namespace Go.Proofs.Qxb6500326aGreat
set_option maxRecDepth 100000
set_option linter.unusedVariables false
set_option linter.unusedSimpArgs false
open Go.RowKit Go.PlainAid

/-! ### functions that answer a node -/
theorem Tryz.size144o : (Tryz.prog.info? 149).map (·.size) = some 13 := by kernel_rfl
abbrev ndZ : Nd := ⟨0, 0, 0, 0, 0, rz, rz⟩
theorem nd_rowT (w : World) (x : Nd) (T : TypeId) {H : Nat} (e : w.heap.size = H) : Row (w.alloc (.cells (ndA x) T)) H 13 (ndC x) := by
  subst e
  exact Row.new _ _ _ _ _ rfl (by intro i hi; rcases i with _ | _ | _ | _ | _ | _ | _ | _ | _ | _ | _ | _ | _ | i <;> first | rfl | omega)
theorem nd_heap {w : World} {b : Nat} {x : Nd} (h : Row w b 13 (ndC x)) : ∃ T, w.heap[b]? = some (.cells (ndA x) T (0, 0)) := by
  obtain ⟨arr, T, h1, h2, h3⟩ := h
  refine ⟨T, ?_⟩
  rw [h1]
  have : arr = ndA x := by
    apply Array.ext_getElem?
    intro i
    rcases Nat.lt_or_ge i 13 with hi | hi
    · rw [h3 i hi]
      rcases i with _ | _ | _ | _ | _ | _ | _ | _ | _ | _ | _ | _ | _ | i <;> first | rfl | omega
    · rw [Array.getElem?_eq_none (by omega), Array.getElem?_eq_none (by simpa using hi)]
  rw [this]
theorem ret_nd {fn : Func} {R : Ending → World → Prop} {a : Act} {w : World} {p : Tmp} {g : Nat} {x : Nd} (hr : fn.results = #[.cell p 149]) (hp : a.tmps.getD p undef = pt g) (hrow : Row w g 13 (ndC x)) (hd : a.defers = [])
    (hR : R (.returned (ndV x)) w) : bodyPost Tryz.prog fn R .ret a w := by
  obtain ⟨T, hh⟩ := nd_heap hrow
  exact bodyPost_ret (results_cell_row hr a.tmps w g T _ (0, 0) _ hp hh Tryz.underlying149 rfl (by rw [Tryz.size144o]; rfl)) hd hR
theorem nd_sets {w : World} {b : Nat} {f : Nat → Value} (h : Row w b 13 f) (x : Nd) : Row (sets w b 0 (ndA x).toList) b 13 (ndC x) :=
  (sets_row (ndA x).toList w 0 f h).congr (by intro i hi; rcases i with _ | _ | _ | _ | _ | _ | _ | _ | _ | _ | _ | _ | _ | i <;> first | rfl | omega)
def NR (w : World) (x : Nd) : Ending → World → Prop := fun e w' => e = .returned (ndV x) ∧ Fr S0 w w'
theorem ret_nds {fn : Func} {a : Act} {w w1 : World} {p : Tmp} {g : Nat} {f : Nat → Value} {x y : Nd} (hr : fn.results = #[.cell p 149]) (hp : a.tmps.getD p undef = pt g) (hd : a.defers = [])
    (hrow : Row w1 g 13 f) (hf : Fr S0 w w1) (hg : w.heap.size ≤ g) (hx : x = y) : bodyPost Tryz.prog fn (NR w y) .ret a (sets w1 g 0 (ndA x).toList) :=
  hx ▸ ret_nd hr hp (nd_sets hrow x) hd ⟨rfl, sets_fr (S := S0) (a := w) (b := g) (.inr hg) (ndA x).toList w1 0 hf⟩
theorem Row.nd13 {w : World} {B : Nat} {x : Nd} (h : Row w B 13 (ndC x)) :
    w.cell? ⟨B, 0, none⟩ = some (I x.kind) ∧ w.cell? ⟨B, 1, none⟩ = some (I x.op) ∧ w.cell? ⟨B, 2, none⟩ = some (I x.a) ∧ w.cell? ⟨B, 3, none⟩ = some (I x.b) ∧ w.cell? ⟨B, 4, none⟩ = some (I x.n) ∧ w.cell? ⟨B, 5, none⟩ = some (I x.r1.col) ∧ w.cell? ⟨B, 6, none⟩ = some (I x.r1.row) ∧ w.cell? ⟨B, 7, none⟩ = some (.bool x.r1.absC) ∧ w.cell? ⟨B, 8, none⟩ = some (.bool x.r1.absR) ∧ w.cell? ⟨B, 9, none⟩ = some (I x.r2.col) ∧ w.cell? ⟨B, 10, none⟩ = some (I x.r2.row) ∧ w.cell? ⟨B, 11, none⟩ = some (.bool x.r2.absC) ∧ w.cell? ⟨B, 12, none⟩ = some (.bool x.r2.absR) :=
  ⟨h.cell 0 (by omega), h.cell 1 (by omega), h.cell 2 (by omega), h.cell 3 (by omega), h.cell 4 (by omega), h.cell 5 (by omega), h.cell 6 (by omega), h.cell 7 (by omega), h.cell 8 (by omega), h.cell 9 (by omega), h.cell 10 (by omega), h.cell 11 (by omega), h.cell 12 (by omega)⟩
theorem Row.fz13 {w : World} {B n : Nat} {f : Nat → Value} (h : Row w B n f) :
    w.frozen? ⟨B, 0, none⟩ = false ∧ w.frozen? ⟨B, 1, none⟩ = false ∧ w.frozen? ⟨B, 2, none⟩ = false ∧ w.frozen? ⟨B, 3, none⟩ = false ∧ w.frozen? ⟨B, 4, none⟩ = false ∧ w.frozen? ⟨B, 5, none⟩ = false ∧ w.frozen? ⟨B, 6, none⟩ = false ∧ w.frozen? ⟨B, 7, none⟩ = false ∧ w.frozen? ⟨B, 8, none⟩ = false ∧ w.frozen? ⟨B, 9, none⟩ = false ∧ w.frozen? ⟨B, 10, none⟩ = false ∧ w.frozen? ⟨B, 11, none⟩ = false ∧ w.frozen? ⟨B, 12, none⟩ = false :=
  ⟨h.frozen 0, h.frozen 1, h.frozen 2, h.frozen 3, h.frozen 4, h.frozen 5, h.frozen 6, h.frozen 7, h.frozen 8, h.frozen 9, h.frozen 10, h.frozen 11, h.frozen 12⟩
theorem fr_new {w w1 : World} {g k : Nat} {v : Value} (h : Fr S0 w w1) (hg : w.heap.size ≤ g) : Fr S0 w (w1.setCell ⟨g, k, none⟩ v) := Fr.setCell (S := S0) h (p := ⟨g, k, none⟩) (.inr hg) v
set_option maxHeartbeats 1000000 in
theorem bad_any (w : World) : Calls Tryz.prog 146 #[] w (NR w nBad) := by
  go_enter Tryz.func146, Tryz.ntmps146
  go_wp2
  go_returns
  exact ⟨rfl, (Fr.refl _ _).alloc _⟩

set_option maxHeartbeats 4000000 in
/-- Neither a reference nor a range. -/
theorem moveNode_o (rows ins : Bool) (at_ : Int) (x : Nd) (w : World) (h3 : (x.kind == 3) = false) (h4 : (x.kind == 4) = false) : Calls Tryz.prog 111 #[ndV x, I (kd rows ins), I at_] w (NR w x) := by
  cases rows <;> cases ins <;> simp only [kd, if_true, if_false, Bool.false_eq_true]
  all_goals go_enter Tryz.func111, Tryz.ntmps111
  all_goals go_wp2
  all_goals exact ret_nd (x := x) (p := 6) (g := w.heap.size + 1) rfl rfl (nd_rowT (w.alloc (.cells (ndA x) 149)) x 149 (by simp)) rfl ⟨rfl, ((Fr.refl _ _).alloc _).alloc _⟩
set_option maxHeartbeats 4000000 in
/-- A reference beyond the grid. -/
theorem moveNode_3o (rows ins : Bool) (at_ : Int) (x : Nd) (w : World) (h3 : (x.kind == 3) = true) (hg1 : inGrid x.r1 = false) : Calls Tryz.prog 111 #[ndV x, I (kd rows ins), I at_] w (NR w x) := by
  have h4 : (x.kind == 4) = false := by have : x.kind = 3 := (by simpa using h3); rw [this]; rfl
  have hX0 := Bx.mk ((nd_rowT w x 149 rfl).alloc (.cells (ndA ndZ) 149))
  have hZ0 := Bx.mk (nd_rowT (w.alloc (.cells (ndA x) 149)) ndZ 149 (H := w.heap.size + 1) (by simp))
  have hfr0 := Bx.mk (((Fr.refl S0 w).alloc (.cells (ndA x) 149)).alloc (.cells (ndA ndZ) 149))
  have hc := Bx.mk (Fr.refl S0 (((w.alloc (.cells (ndA x) 149)).alloc (.cells (ndA ndZ) 149))))
  have hG : Bx (∀ (r : Ref) (b : Bool) wx, inGrid r = b → Calls Tryz.prog 131 #[refV r] wx fun e w' => e = .returned (.bool b) ∧ Fr S0 wx w') := ⟨fun r b wx e => e ▸ inGrid_any r wx⟩
  cases rows <;> cases ins <;> simp only [kd, if_true, if_false, Bool.false_eq_true]
  all_goals go_enter Tryz.func111, Tryz.ntmps111
  all_goals go_wp2_with (first
    | (go_at_call 131; refine (hG.out x.r1 false _ hg1).mono ?_; clear hG; rintro e w1 ⟨rfl, hf1⟩; have hf1 : Fr S0 (((w.alloc (.cells (ndA x) 149)).alloc (.cells (ndA ndZ) 149))) w1 := hc.out.trans hf1; have hc := Bx.mk hf1; have hX := Bx.mk (hf1.row0 hX0.out); have hZ := Bx.mk (hf1.row0 hZ0.out); have hfr := Bx.mk (hfr0.out.trans hf1); obtain ⟨k0, k1, k2, k3, k4, k5, k6, k7, k8, k9, k10, k11, k12⟩ := hX.out.nd13; obtain ⟨m0, m1, m2, m3, m4, m5, m6, m7, m8, m9, m10, m11, m12⟩ := hZ.out.nd13; obtain ⟨z0, z1, z2, z3, z4, z5, z6, z7, z8, z9, z10, z11, z12⟩ := hZ.out.fz13; obtain ⟨y0, y1, y2, y3, y4, y5, y6, y7, y8, y9, y10, y11, y12⟩ := hX.out.fz13; have hl1 := hX.out.lt; have hl2 := hZ.out.lt; clear hf1))
  all_goals exact ret_nds (x := x) (p := 6) (g := w.heap.size + 1) rfl rfl rfl hZ.out hfr.out (by omega) rfl

set_option maxHeartbeats 8000000 in
theorem moveNode_3r (ins : Bool) (at_ : Int) (x : Nd) (w : World) (h3 : (x.kind == 3) = true) (hg1 : inGrid x.r1 = true) : Calls Tryz.prog 111 #[ndV x, I (kd true ins), I at_] w (NR w (moveRf true ins at_ x)) := by
  obtain ⟨q1, q2, q3, q4⟩ := inGrid_iff.1 hg1
  have h4 : (x.kind == 4) = false := by have : x.kind = 3 := (by simpa using h3); rw [this]; rfl
  have hX0 := Bx.mk ((nd_rowT w x 149 rfl).alloc (.cells (ndA ndZ) 149))
  have hZ0 := Bx.mk (nd_rowT (w.alloc (.cells (ndA x) 149)) ndZ 149 (H := w.heap.size + 1) (by simp))
  have hfr0 := Bx.mk (((Fr.refl S0 w).alloc (.cells (ndA x) 149)).alloc (.cells (ndA ndZ) 149))
  have hc := Bx.mk (Fr.refl S0 (((w.alloc (.cells (ndA x) 149)).alloc (.cells (ndA ndZ) 149))))
  have hG : Bx (∀ (r : Ref) (b : Bool) wx, inGrid r = b → Calls Tryz.prog 131 #[refV r] wx fun e w' => e = .returned (.bool b) ∧ Fr S0 wx w') := ⟨fun r b wx e => e ▸ inGrid_any r wx⟩
  have hP : Bx (∀ wx, Calls Tryz.prog 145 #[I x.r1.row, I 6, I at_, .bool ins] wx fun e w' => e = .returned (I (pointP x.r1.row 6 at_ ins)) ∧ wx = w') := ⟨fun wx => point_any _ _ _ _ _ (by omega) (by omega)⟩
  have hB : Bx (∀ wx, Calls Tryz.prog 146 #[] wx (NR wx nBad)) := ⟨bad_any⟩
  have eM : moveRf true ins at_ x = if pointP x.r1.row 6 at_ ins < 0 then nBad else ⟨x.kind, x.op, x.a, x.b, x.n, setAx true x.r1 (pointP x.r1.row 6 at_ ins), x.r2⟩ := rfl
  rw [eM]
  clear eM
  generalize pointP x.r1.row 6 at_ ins = pp at *
  generalize hR : (if pp < 0 then nBad else (⟨x.kind, x.op, x.a, x.b, x.n, setAx true x.r1 pp, x.r2⟩ : Nd)) = R
  have hR := Bx.mk hR
  have dr : decide (x.r1.row < 0) = false := decide_eq_false (by omega)
  have dc : decide (x.r1.col < 0) = false := decide_eq_false (by omega)
  cases hpp : decide (pp < 0) <;> cases ins <;> simp only [kd, if_true, if_false, Bool.false_eq_true]
  all_goals go_enter Tryz.func111, Tryz.ntmps111
  all_goals go_wp2_with (first
    | (go_at_call 131; refine (hG.out x.r1 true _ hg1).mono ?_; clear hG; rintro e w1 ⟨rfl, hf1⟩; have hf1 : Fr S0 (((w.alloc (.cells (ndA x) 149)).alloc (.cells (ndA ndZ) 149))) w1 := hc.out.trans hf1; have hc := Bx.mk hf1; have hX := Bx.mk (hf1.row0 hX0.out); have hZ := Bx.mk (hf1.row0 hZ0.out); have hfr := Bx.mk (hfr0.out.trans hf1); obtain ⟨k0, k1, k2, k3, k4, k5, k6, k7, k8, k9, k10, k11, k12⟩ := hX.out.nd13; obtain ⟨m0, m1, m2, m3, m4, m5, m6, m7, m8, m9, m10, m11, m12⟩ := hZ.out.nd13; obtain ⟨z0, z1, z2, z3, z4, z5, z6, z7, z8, z9, z10, z11, z12⟩ := hZ.out.fz13; obtain ⟨y0, y1, y2, y3, y4, y5, y6, y7, y8, y9, y10, y11, y12⟩ := hX.out.fz13; have hl1 := hX.out.lt; have hl2 := hZ.out.lt; clear hf1)
    | (go_at_call 145; refine (hP.out _).mono ?_; clear hP; rintro e _ ⟨rfl, rfl⟩)
    | (go_at_call 146; refine (hB.out _).mono ?_; clear hB; generalize hxb : nBad = xb; have hxb := Bx.mk hxb; rintro e w2 ⟨rfl, hf2⟩; have hZ2 := Bx.mk (hf2.row0 (hZ.out.set_other (p := ⟨w.heap.size, 6, none⟩) (by simp) (I pp))); have hfr2 := Bx.mk ((fr_new (g := w.heap.size) (k := 6) (v := I pp) hfr.out (Nat.le_refl _)).trans hf2); obtain ⟨m0, m1, m2, m3, m4, m5, m6, m7, m8, m9, m10, m11, m12⟩ := hZ2.out.nd13; obtain ⟨z0, z1, z2, z3, z4, z5, z6, z7, z8, z9, z10, z11, z12⟩ := hZ2.out.fz13; have hl2 := hZ2.out.lt))
  · exact ret_nds (x := ⟨x.kind, x.op, x.a, x.b, x.n, setAx true x.r1 pp, x.r2⟩) (p := 6) (g := w.heap.size + 1) rfl rfl rfl (hZ.out.set_other (p := ⟨w.heap.size, 6, none⟩) (by simp) (I pp)) (fr_new hfr.out (Nat.le_refl _)) (by omega) (by rw [← hR.out, if_neg (by simpa using hpp)])
  · exact ret_nds (x := ⟨x.kind, x.op, x.a, x.b, x.n, setAx true x.r1 pp, x.r2⟩) (p := 6) (g := w.heap.size + 1) rfl rfl rfl (hZ.out.set_other (p := ⟨w.heap.size, 6, none⟩) (by simp) (I pp)) (fr_new hfr.out (Nat.le_refl _)) (by omega) (by rw [← hR.out, if_neg (by simpa using hpp)])
  · exact ret_nds (x := xb) (p := 6) (g := w.heap.size + 1) rfl rfl rfl hZ2.out hfr2.out (by omega) (by rw [← hR.out, if_pos (by simpa using hpp), hxb.out])
  · exact ret_nds (x := xb) (p := 6) (g := w.heap.size + 1) rfl rfl rfl hZ2.out hfr2.out (by omega) (by rw [← hR.out, if_pos (by simpa using hpp), hxb.out])

set_option maxHeartbeats 8000000 in
theorem moveNode_3c (ins : Bool) (at_ : Int) (x : Nd) (w : World) (h3 : (x.kind == 3) = true) (hg1 : inGrid x.r1 = true) : Calls Tryz.prog 111 #[ndV x, I (kd false ins), I at_] w (NR w (moveRf false ins at_ x)) := by
  obtain ⟨q1, q2, q3, q4⟩ := inGrid_iff.1 hg1
  have h4 : (x.kind == 4) = false := by have : x.kind = 3 := (by simpa using h3); rw [this]; rfl
  have hX0 := Bx.mk ((nd_rowT w x 149 rfl).alloc (.cells (ndA ndZ) 149))
  have hZ0 := Bx.mk (nd_rowT (w.alloc (.cells (ndA x) 149)) ndZ 149 (H := w.heap.size + 1) (by simp))
  have hfr0 := Bx.mk (((Fr.refl S0 w).alloc (.cells (ndA x) 149)).alloc (.cells (ndA ndZ) 149))
  have hc := Bx.mk (Fr.refl S0 (((w.alloc (.cells (ndA x) 149)).alloc (.cells (ndA ndZ) 149))))
  have hG : Bx (∀ (r : Ref) (b : Bool) wx, inGrid r = b → Calls Tryz.prog 131 #[refV r] wx fun e w' => e = .returned (.bool b) ∧ Fr S0 wx w') := ⟨fun r b wx e => e ▸ inGrid_any r wx⟩
  have hP : Bx (∀ wx, Calls Tryz.prog 145 #[I x.r1.col, I 4, I at_, .bool ins] wx fun e w' => e = .returned (I (pointP x.r1.col 4 at_ ins)) ∧ wx = w') := ⟨fun wx => point_any _ _ _ _ _ (by omega) (by omega)⟩
  have hB : Bx (∀ wx, Calls Tryz.prog 146 #[] wx (NR wx nBad)) := ⟨bad_any⟩
  have eM : moveRf false ins at_ x = if pointP x.r1.col 4 at_ ins < 0 then nBad else ⟨x.kind, x.op, x.a, x.b, x.n, setAx false x.r1 (pointP x.r1.col 4 at_ ins), x.r2⟩ := rfl
  rw [eM]
  clear eM
  generalize pointP x.r1.col 4 at_ ins = pp at *
  generalize hR : (if pp < 0 then nBad else (⟨x.kind, x.op, x.a, x.b, x.n, setAx false x.r1 pp, x.r2⟩ : Nd)) = R
  have hR := Bx.mk hR
  have dr : decide (x.r1.row < 0) = false := decide_eq_false (by omega)
  have dc : decide (x.r1.col < 0) = false := decide_eq_false (by omega)
  cases hpp : decide (pp < 0) <;> cases ins <;> simp only [kd, if_true, if_false, Bool.false_eq_true]
  all_goals go_enter Tryz.func111, Tryz.ntmps111
  all_goals go_wp2_with (first
    | (go_at_call 131; refine (hG.out x.r1 true _ hg1).mono ?_; clear hG; rintro e w1 ⟨rfl, hf1⟩; have hf1 : Fr S0 (((w.alloc (.cells (ndA x) 149)).alloc (.cells (ndA ndZ) 149))) w1 := hc.out.trans hf1; have hc := Bx.mk hf1; have hX := Bx.mk (hf1.row0 hX0.out); have hZ := Bx.mk (hf1.row0 hZ0.out); have hfr := Bx.mk (hfr0.out.trans hf1); obtain ⟨k0, k1, k2, k3, k4, k5, k6, k7, k8, k9, k10, k11, k12⟩ := hX.out.nd13; obtain ⟨m0, m1, m2, m3, m4, m5, m6, m7, m8, m9, m10, m11, m12⟩ := hZ.out.nd13; obtain ⟨z0, z1, z2, z3, z4, z5, z6, z7, z8, z9, z10, z11, z12⟩ := hZ.out.fz13; obtain ⟨y0, y1, y2, y3, y4, y5, y6, y7, y8, y9, y10, y11, y12⟩ := hX.out.fz13; have hl1 := hX.out.lt; have hl2 := hZ.out.lt; clear hf1)
    | (go_at_call 145; refine (hP.out _).mono ?_; clear hP; rintro e _ ⟨rfl, rfl⟩)
    | (go_at_call 146; refine (hB.out _).mono ?_; clear hB; generalize hxb : nBad = xb; have hxb := Bx.mk hxb; rintro e w2 ⟨rfl, hf2⟩; have hZ2 := Bx.mk (hf2.row0 (hZ.out.set_other (p := ⟨w.heap.size, 5, none⟩) (by simp) (I pp))); have hfr2 := Bx.mk ((fr_new (g := w.heap.size) (k := 5) (v := I pp) hfr.out (Nat.le_refl _)).trans hf2); obtain ⟨m0, m1, m2, m3, m4, m5, m6, m7, m8, m9, m10, m11, m12⟩ := hZ2.out.nd13; obtain ⟨z0, z1, z2, z3, z4, z5, z6, z7, z8, z9, z10, z11, z12⟩ := hZ2.out.fz13; have hl2 := hZ2.out.lt))
  · exact ret_nds (x := ⟨x.kind, x.op, x.a, x.b, x.n, setAx false x.r1 pp, x.r2⟩) (p := 6) (g := w.heap.size + 1) rfl rfl rfl (hZ.out.set_other (p := ⟨w.heap.size, 5, none⟩) (by simp) (I pp)) (fr_new hfr.out (Nat.le_refl _)) (by omega) (by rw [← hR.out, if_neg (by simpa using hpp)])
  · exact ret_nds (x := ⟨x.kind, x.op, x.a, x.b, x.n, setAx false x.r1 pp, x.r2⟩) (p := 6) (g := w.heap.size + 1) rfl rfl rfl (hZ.out.set_other (p := ⟨w.heap.size, 5, none⟩) (by simp) (I pp)) (fr_new hfr.out (Nat.le_refl _)) (by omega) (by rw [← hR.out, if_neg (by simpa using hpp)])
  · exact ret_nds (x := xb) (p := 6) (g := w.heap.size + 1) rfl rfl rfl hZ2.out hfr2.out (by omega) (by rw [← hR.out, if_pos (by simpa using hpp), hxb.out])
  · exact ret_nds (x := xb) (p := 6) (g := w.heap.size + 1) rfl rfl rfl hZ2.out hfr2.out (by omega) (by rw [← hR.out, if_pos (by simpa using hpp), hxb.out])
end Go.Proofs.Qxb6500326aGreat
