import Derived.Test.Qxb6500326aGreatO7
namespace Go.Proofs.Qxb6500326aGreat
set_option maxRecDepth 100000
set_option linter.unusedVariables false
set_option linter.unusedSimpArgs false
open Go.RowKit Go.PlainAid

theorem Row.drN {w : World} {b n : Nat} {vs : Nat → Value} (h : Row w b n vs) (k : Nat) : Row (w.drewN k) b n vs := h

set_option maxHeartbeats 4000000 in
theorem moveNode_4o (rows ins : Bool) (at_ : Int) (x : Nd) (w : World) (h4 : (x.kind == 4) = true) (hb : blockOK x.r1 x.r2 = false) : Calls Tryz.prog 111 #[ndV x, I (kd rows ins), I at_] w (NR w x) := by
  have h3 : (x.kind == 3) = false := by have : x.kind = 4 := (by simpa using h4); rw [this]; rfl
  have hX0 := Bx.mk ((nd_rowT w x 149 rfl).alloc (.cells (ndA ndZ) 149))
  have hZ0 := Bx.mk (nd_rowT (w.alloc (.cells (ndA x) 149)) ndZ 149 (H := w.heap.size + 1) (by simp))
  have hfr0 := Bx.mk (((Fr.refl S0 w).alloc (.cells (ndA x) 149)).alloc (.cells (ndA ndZ) 149))
  have hc := Bx.mk (Fr.refl S0 (((w.alloc (.cells (ndA x) 149)).alloc (.cells (ndA ndZ) 149))))
  have hG : Bx (∀ wx, Calls Tryz.prog 147 #[refV x.r1, refV x.r2] wx fun e w' => e = .returned (.tuple #[U (blockS x.r1 x.r2), .bool false]) ∧ Fr S0 wx w') := ⟨fun wx => hb ▸ block_any x.r1 x.r2 wx⟩
  cases rows <;> cases ins <;> simp only [kd, if_true, if_false, Bool.false_eq_true]
  all_goals go_enter Tryz.func111, Tryz.ntmps111
  all_goals go_wp2_with (first
    | (go_at_call 147; refine (hG.out _).mono ?_; clear hG; rintro e w1 ⟨rfl, hf1⟩; have hf1 : Fr S0 (((w.alloc (.cells (ndA x) 149)).alloc (.cells (ndA ndZ) 149))) w1 := hc.out.trans hf1; have hc := Bx.mk hf1; have hX := Bx.mk (hf1.row0 hX0.out); have hZ := Bx.mk (hf1.row0 hZ0.out); have hfr := Bx.mk (hfr0.out.trans hf1); obtain ⟨k0, k1, k2, k3, k4, k5, k6, k7, k8, k9, k10, k11, k12⟩ := hX.out.nd13; obtain ⟨m0, m1, m2, m3, m4, m5, m6, m7, m8, m9, m10, m11, m12⟩ := hZ.out.nd13; obtain ⟨z0, z1, z2, z3, z4, z5, z6, z7, z8, z9, z10, z11, z12⟩ := hZ.out.fz13; obtain ⟨y0, y1, y2, y3, y4, y5, y6, y7, y8, y9, y10, y11, y12⟩ := hX.out.fz13; have hl1 := hX.out.lt; have hl2 := hZ.out.lt; clear hf1))
  all_goals exact ret_nds (x := x) (p := 6) (g := w.heap.size + 1) rfl rfl rfl hZ.out hfr.out (by omega) rfl

set_option maxHeartbeats 8000000 in
theorem moveNode_4rt (ins : Bool) (at_ : Int) (x : Nd) (w : World) (h4 : (x.kind == 4) = true) (hb : blockOK x.r1 x.r2 = true) (ht : decide (x.r2.row < x.r1.row) = true) : Calls Tryz.prog 111 #[ndV x, I (kd true ins), I at_] w (NR w (moveRg true ins at_ x)) := by
  have hg2 : inGrid x.r1 = true ∧ inGrid x.r2 = true := by simpa [blockOK] using hb
  obtain ⟨q1, q2, q3, q4⟩ := inGrid_iff.1 hg2.1
  obtain ⟨q5, q6, q7, q8⟩ := inGrid_iff.1 hg2.2
  clear hg2
  have h3 : (x.kind == 3) = false := by have : x.kind = 4 := (by simpa using h4); rw [this]; rfl
  have hX0 := Bx.mk ((nd_rowT w x 149 rfl).alloc (.cells (ndA ndZ) 149))
  have hZ0 := Bx.mk (nd_rowT (w.alloc (.cells (ndA x) 149)) ndZ 149 (H := w.heap.size + 1) (by simp))
  have hfr0 := Bx.mk (((Fr.refl S0 w).alloc (.cells (ndA x) 149)).alloc (.cells (ndA ndZ) 149))
  have hc := Bx.mk (Fr.refl S0 (((w.alloc (.cells (ndA x) 149)).alloc (.cells (ndA ndZ) 149))))
  have hG : Bx (∀ wx, Calls Tryz.prog 147 #[refV x.r1, refV x.r2] wx fun e w' => e = .returned (.tuple #[U (blockS x.r1 x.r2), .bool true]) ∧ Fr S0 wx w') := ⟨fun wx => hb ▸ block_any x.r1 x.r2 wx⟩
  have hP : Bx (∀ wx, Calls Tryz.prog 148 #[I x.r2.row, I x.r1.row, I 6, I at_, .bool ins] wx fun e w' => e = .returned (.tuple #[I (stretchP x.r2.row x.r1.row 6 at_ ins).1, I (stretchP x.r2.row x.r1.row 6 at_ ins).2]) ∧ wx = w') := ⟨fun wx => stretch_any _ _ _ _ _ _ (by omega) (by omega) (by omega) (by omega) (by omega) (by omega)⟩
  have hB : Bx (∀ wx, Calls Tryz.prog 146 #[] wx (NR wx nBad)) := ⟨bad_any⟩
  have eM : moveRg true ins at_ x = if (stretchP x.r2.row x.r1.row 6 at_ ins).1 < 0 then nBad else ⟨x.kind, x.op, x.a, x.b, x.n, setAx true x.r1 (stretchP x.r2.row x.r1.row 6 at_ ins).2, setAx true x.r2 (stretchP x.r2.row x.r1.row 6 at_ ins).1⟩ := by
    unfold moveRg
    rw [if_pos (by simpa [ax] using ht)]
    rfl
  rw [eM]
  clear eM
  generalize stretchP x.r2.row x.r1.row 6 at_ ins = ss at *
  obtain ⟨s1, s2⟩ := ss
  simp only at *
  generalize hR : (if s1 < 0 then nBad else (⟨x.kind, x.op, x.a, x.b, x.n, setAx true x.r1 s2, setAx true x.r2 s1⟩ : Nd)) = R
  have hR := Bx.mk hR
  cases hpp : decide (s1 < 0) <;> cases ins <;> simp only [kd, if_true, if_false, Bool.false_eq_true]
  all_goals go_enter Tryz.func111, Tryz.ntmps111
  all_goals go_wp2_with (first
    | (go_at_call 147; refine (hG.out _).mono ?_; clear hG; rintro e w1 ⟨rfl, hf1⟩; have hf1 : Fr S0 (((w.alloc (.cells (ndA x) 149)).alloc (.cells (ndA ndZ) 149))) w1 := hc.out.trans hf1; have hc := Bx.mk hf1; have hX := Bx.mk (hf1.row0 hX0.out); have hZ := Bx.mk (hf1.row0 hZ0.out); have hfr := Bx.mk (hfr0.out.trans hf1); obtain ⟨k0, k1, k2, k3, k4, k5, k6, k7, k8, k9, k10, k11, k12⟩ := hX.out.nd13; obtain ⟨m0, m1, m2, m3, m4, m5, m6, m7, m8, m9, m10, m11, m12⟩ := hZ.out.nd13; obtain ⟨z0, z1, z2, z3, z4, z5, z6, z7, z8, z9, z10, z11, z12⟩ := hZ.out.fz13; obtain ⟨y0, y1, y2, y3, y4, y5, y6, y7, y8, y9, y10, y11, y12⟩ := hX.out.fz13; have hl1 := hX.out.lt; have hl2 := hZ.out.lt; clear hf1))
  all_goals go_quiet (fail)
  all_goals go_wp2_with fail
  all_goals go_quiet (fail)
  all_goals go_wp2_with (first
    | (go_at_call 148; refine (hP.out _).mono ?_; clear hP; rintro e _ ⟨rfl, rfl⟩)
    | (go_at_call 146; refine (hB.out _).mono ?_; clear hB; generalize hxb : nBad = xb; have hxb := Bx.mk hxb; rintro e w2 ⟨rfl, hf2⟩; have hf2 : Fr S0 w1 w2 := ⟨hf2.os, hf2.tape, hf2.output, hf2.size, hf2.block⟩; have hZ2 := Bx.mk (hf2.row0 hZ.out); have hfr2 := Bx.mk (hfr.out.trans hf2); obtain ⟨m0, m1, m2, m3, m4, m5, m6, m7, m8, m9, m10, m11, m12⟩ := hZ2.out.nd13; obtain ⟨z0, z1, z2, z3, z4, z5, z6, z7, z8, z9, z10, z11, z12⟩ := hZ2.out.fz13; have hl2 := hZ2.out.lt))
  · exact ret_nds (x := ⟨x.kind, x.op, x.a, x.b, x.n, setAx true x.r1 s2, setAx true x.r2 s1⟩) (p := 6) (g := w.heap.size + 1) rfl rfl rfl (((hZ.out.drN _).set_other (p := ⟨w.heap.size, 6, none⟩) (by simp) (I s2)).set_other (p := ⟨w.heap.size, 10, none⟩) (by simp) (I s1)) (fr_new (fr_new (hfr.out.drewN _) (Nat.le_refl _)) (Nat.le_refl _)) (by omega) (by rw [← hR.out, if_neg (by simpa using hpp)])
  · exact ret_nds (x := ⟨x.kind, x.op, x.a, x.b, x.n, setAx true x.r1 s2, setAx true x.r2 s1⟩) (p := 6) (g := w.heap.size + 1) rfl rfl rfl (((hZ.out.drN _).set_other (p := ⟨w.heap.size, 6, none⟩) (by simp) (I s2)).set_other (p := ⟨w.heap.size, 10, none⟩) (by simp) (I s1)) (fr_new (fr_new (hfr.out.drewN _) (Nat.le_refl _)) (Nat.le_refl _)) (by omega) (by rw [← hR.out, if_neg (by simpa using hpp)])
  · exact ret_nds (x := xb) (p := 6) (g := w.heap.size + 1) rfl rfl rfl hZ2.out hfr2.out (by omega) (by rw [← hR.out, if_pos (by simpa using hpp), hxb.out])
  · exact ret_nds (x := xb) (p := 6) (g := w.heap.size + 1) rfl rfl rfl hZ2.out hfr2.out (by omega) (by rw [← hR.out, if_pos (by simpa using hpp), hxb.out])

set_option maxHeartbeats 8000000 in
theorem moveNode_4r (ins : Bool) (at_ : Int) (x : Nd) (w : World) (h4 : (x.kind == 4) = true) (hb : blockOK x.r1 x.r2 = true) (ht : decide (x.r2.row < x.r1.row) = false) : Calls Tryz.prog 111 #[ndV x, I (kd true ins), I at_] w (NR w (moveRg true ins at_ x)) := by
  have hg2 : inGrid x.r1 = true ∧ inGrid x.r2 = true := by simpa [blockOK] using hb
  obtain ⟨q1, q2, q3, q4⟩ := inGrid_iff.1 hg2.1
  obtain ⟨q5, q6, q7, q8⟩ := inGrid_iff.1 hg2.2
  clear hg2
  have h3 : (x.kind == 3) = false := by have : x.kind = 4 := (by simpa using h4); rw [this]; rfl
  have hX0 := Bx.mk ((nd_rowT w x 149 rfl).alloc (.cells (ndA ndZ) 149))
  have hZ0 := Bx.mk (nd_rowT (w.alloc (.cells (ndA x) 149)) ndZ 149 (H := w.heap.size + 1) (by simp))
  have hfr0 := Bx.mk (((Fr.refl S0 w).alloc (.cells (ndA x) 149)).alloc (.cells (ndA ndZ) 149))
  have hc := Bx.mk (Fr.refl S0 (((w.alloc (.cells (ndA x) 149)).alloc (.cells (ndA ndZ) 149))))
  have hG : Bx (∀ wx, Calls Tryz.prog 147 #[refV x.r1, refV x.r2] wx fun e w' => e = .returned (.tuple #[U (blockS x.r1 x.r2), .bool true]) ∧ Fr S0 wx w') := ⟨fun wx => hb ▸ block_any x.r1 x.r2 wx⟩
  have hP : Bx (∀ wx, Calls Tryz.prog 148 #[I x.r1.row, I x.r2.row, I 6, I at_, .bool ins] wx fun e w' => e = .returned (.tuple #[I (stretchP x.r1.row x.r2.row 6 at_ ins).1, I (stretchP x.r1.row x.r2.row 6 at_ ins).2]) ∧ wx = w') := ⟨fun wx => stretch_any _ _ _ _ _ _ (by omega) (by omega) (by omega) (by omega) (by omega) (by omega)⟩
  have hB : Bx (∀ wx, Calls Tryz.prog 146 #[] wx (NR wx nBad)) := ⟨bad_any⟩
  have eM : moveRg true ins at_ x = if (stretchP x.r1.row x.r2.row 6 at_ ins).1 < 0 then nBad else ⟨x.kind, x.op, x.a, x.b, x.n, setAx true x.r1 (stretchP x.r1.row x.r2.row 6 at_ ins).1, setAx true x.r2 (stretchP x.r1.row x.r2.row 6 at_ ins).2⟩ := by
    unfold moveRg
    rw [if_neg (by simpa [ax] using ht)]
    rfl
  rw [eM]
  clear eM
  generalize stretchP x.r1.row x.r2.row 6 at_ ins = ss at *
  obtain ⟨s1, s2⟩ := ss
  simp only at *
  generalize hR : (if s1 < 0 then nBad else (⟨x.kind, x.op, x.a, x.b, x.n, setAx true x.r1 s1, setAx true x.r2 s2⟩ : Nd)) = R
  have hR := Bx.mk hR
  cases hpp : decide (s1 < 0) <;> cases ins <;> simp only [kd, if_true, if_false, Bool.false_eq_true]
  all_goals go_enter Tryz.func111, Tryz.ntmps111
  all_goals go_wp2_with (first
    | (go_at_call 147; refine (hG.out _).mono ?_; clear hG; rintro e w1 ⟨rfl, hf1⟩; have hf1 : Fr S0 (((w.alloc (.cells (ndA x) 149)).alloc (.cells (ndA ndZ) 149))) w1 := hc.out.trans hf1; have hc := Bx.mk hf1; have hX := Bx.mk (hf1.row0 hX0.out); have hZ := Bx.mk (hf1.row0 hZ0.out); have hfr := Bx.mk (hfr0.out.trans hf1); obtain ⟨k0, k1, k2, k3, k4, k5, k6, k7, k8, k9, k10, k11, k12⟩ := hX.out.nd13; obtain ⟨m0, m1, m2, m3, m4, m5, m6, m7, m8, m9, m10, m11, m12⟩ := hZ.out.nd13; obtain ⟨z0, z1, z2, z3, z4, z5, z6, z7, z8, z9, z10, z11, z12⟩ := hZ.out.fz13; obtain ⟨y0, y1, y2, y3, y4, y5, y6, y7, y8, y9, y10, y11, y12⟩ := hX.out.fz13; have hl1 := hX.out.lt; have hl2 := hZ.out.lt; clear hf1))
  all_goals go_quiet (fail)
  all_goals go_wp2_with fail
  all_goals go_quiet (fail)
  all_goals go_wp2_with (first
    | (go_at_call 148; refine (hP.out _).mono ?_; clear hP; rintro e _ ⟨rfl, rfl⟩)
    | (go_at_call 146; refine (hB.out _).mono ?_; clear hB; generalize hxb : nBad = xb; have hxb := Bx.mk hxb; rintro e w2 ⟨rfl, hf2⟩; have hf2 : Fr S0 w1 w2 := ⟨hf2.os, hf2.tape, hf2.output, hf2.size, hf2.block⟩; have hZ2 := Bx.mk (hf2.row0 hZ.out); have hfr2 := Bx.mk (hfr.out.trans hf2); obtain ⟨m0, m1, m2, m3, m4, m5, m6, m7, m8, m9, m10, m11, m12⟩ := hZ2.out.nd13; obtain ⟨z0, z1, z2, z3, z4, z5, z6, z7, z8, z9, z10, z11, z12⟩ := hZ2.out.fz13; have hl2 := hZ2.out.lt))
  · exact ret_nds (x := ⟨x.kind, x.op, x.a, x.b, x.n, setAx true x.r1 s1, setAx true x.r2 s2⟩) (p := 6) (g := w.heap.size + 1) rfl rfl rfl (((hZ.out.drN _).set_other (p := ⟨w.heap.size, 6, none⟩) (by simp) (I s1)).set_other (p := ⟨w.heap.size, 10, none⟩) (by simp) (I s2)) (fr_new (fr_new (hfr.out.drewN _) (Nat.le_refl _)) (Nat.le_refl _)) (by omega) (by rw [← hR.out, if_neg (by simpa using hpp)])
  · exact ret_nds (x := ⟨x.kind, x.op, x.a, x.b, x.n, setAx true x.r1 s1, setAx true x.r2 s2⟩) (p := 6) (g := w.heap.size + 1) rfl rfl rfl (((hZ.out.drN _).set_other (p := ⟨w.heap.size, 6, none⟩) (by simp) (I s1)).set_other (p := ⟨w.heap.size, 10, none⟩) (by simp) (I s2)) (fr_new (fr_new (hfr.out.drewN _) (Nat.le_refl _)) (Nat.le_refl _)) (by omega) (by rw [← hR.out, if_neg (by simpa using hpp)])
  · exact ret_nds (x := xb) (p := 6) (g := w.heap.size + 1) rfl rfl rfl hZ2.out hfr2.out (by omega) (by rw [← hR.out, if_pos (by simpa using hpp), hxb.out])
  · exact ret_nds (x := xb) (p := 6) (g := w.heap.size + 1) rfl rfl rfl hZ2.out hfr2.out (by omega) (by rw [← hR.out, if_pos (by simpa using hpp), hxb.out])

set_option maxHeartbeats 8000000 in
theorem moveNode_4ct (ins : Bool) (at_ : Int) (x : Nd) (w : World) (h4 : (x.kind == 4) = true) (hb : blockOK x.r1 x.r2 = true) (ht : decide (x.r2.col < x.r1.col) = true) : Calls Tryz.prog 111 #[ndV x, I (kd false ins), I at_] w (NR w (moveRg false ins at_ x)) := by
  have hg2 : inGrid x.r1 = true ∧ inGrid x.r2 = true := by simpa [blockOK] using hb
  obtain ⟨q1, q2, q3, q4⟩ := inGrid_iff.1 hg2.1
  obtain ⟨q5, q6, q7, q8⟩ := inGrid_iff.1 hg2.2
  clear hg2
  have h3 : (x.kind == 3) = false := by have : x.kind = 4 := (by simpa using h4); rw [this]; rfl
  have hX0 := Bx.mk ((nd_rowT w x 149 rfl).alloc (.cells (ndA ndZ) 149))
  have hZ0 := Bx.mk (nd_rowT (w.alloc (.cells (ndA x) 149)) ndZ 149 (H := w.heap.size + 1) (by simp))
  have hfr0 := Bx.mk (((Fr.refl S0 w).alloc (.cells (ndA x) 149)).alloc (.cells (ndA ndZ) 149))
  have hc := Bx.mk (Fr.refl S0 (((w.alloc (.cells (ndA x) 149)).alloc (.cells (ndA ndZ) 149))))
  have hG : Bx (∀ wx, Calls Tryz.prog 147 #[refV x.r1, refV x.r2] wx fun e w' => e = .returned (.tuple #[U (blockS x.r1 x.r2), .bool true]) ∧ Fr S0 wx w') := ⟨fun wx => hb ▸ block_any x.r1 x.r2 wx⟩
  have hP : Bx (∀ wx, Calls Tryz.prog 148 #[I x.r2.col, I x.r1.col, I 4, I at_, .bool ins] wx fun e w' => e = .returned (.tuple #[I (stretchP x.r2.col x.r1.col 4 at_ ins).1, I (stretchP x.r2.col x.r1.col 4 at_ ins).2]) ∧ wx = w') := ⟨fun wx => stretch_any _ _ _ _ _ _ (by omega) (by omega) (by omega) (by omega) (by omega) (by omega)⟩
  have hB : Bx (∀ wx, Calls Tryz.prog 146 #[] wx (NR wx nBad)) := ⟨bad_any⟩
  have eM : moveRg false ins at_ x = if (stretchP x.r2.col x.r1.col 4 at_ ins).1 < 0 then nBad else ⟨x.kind, x.op, x.a, x.b, x.n, setAx false x.r1 (stretchP x.r2.col x.r1.col 4 at_ ins).2, setAx false x.r2 (stretchP x.r2.col x.r1.col 4 at_ ins).1⟩ := by
    unfold moveRg
    rw [if_pos (by simpa [ax] using ht)]
    rfl
  rw [eM]
  clear eM
  generalize stretchP x.r2.col x.r1.col 4 at_ ins = ss at *
  obtain ⟨s1, s2⟩ := ss
  simp only at *
  generalize hR : (if s1 < 0 then nBad else (⟨x.kind, x.op, x.a, x.b, x.n, setAx false x.r1 s2, setAx false x.r2 s1⟩ : Nd)) = R
  have hR := Bx.mk hR
  cases hpp : decide (s1 < 0) <;> cases ins <;> simp only [kd, if_true, if_false, Bool.false_eq_true]
  all_goals go_enter Tryz.func111, Tryz.ntmps111
  all_goals go_wp2_with (first
    | (go_at_call 147; refine (hG.out _).mono ?_; clear hG; rintro e w1 ⟨rfl, hf1⟩; have hf1 : Fr S0 (((w.alloc (.cells (ndA x) 149)).alloc (.cells (ndA ndZ) 149))) w1 := hc.out.trans hf1; have hc := Bx.mk hf1; have hX := Bx.mk (hf1.row0 hX0.out); have hZ := Bx.mk (hf1.row0 hZ0.out); have hfr := Bx.mk (hfr0.out.trans hf1); obtain ⟨k0, k1, k2, k3, k4, k5, k6, k7, k8, k9, k10, k11, k12⟩ := hX.out.nd13; obtain ⟨m0, m1, m2, m3, m4, m5, m6, m7, m8, m9, m10, m11, m12⟩ := hZ.out.nd13; obtain ⟨z0, z1, z2, z3, z4, z5, z6, z7, z8, z9, z10, z11, z12⟩ := hZ.out.fz13; obtain ⟨y0, y1, y2, y3, y4, y5, y6, y7, y8, y9, y10, y11, y12⟩ := hX.out.fz13; have hl1 := hX.out.lt; have hl2 := hZ.out.lt; clear hf1))
  all_goals go_quiet (fail)
  all_goals go_wp2_with (first
    | (go_at_call 148; refine (hP.out _).mono ?_; clear hP; rintro e _ ⟨rfl, rfl⟩)
    | (go_at_call 146; refine (hB.out _).mono ?_; clear hB; generalize hxb : nBad = xb; have hxb := Bx.mk hxb; rintro e w2 ⟨rfl, hf2⟩; have hf2 : Fr S0 w1 w2 := ⟨hf2.os, hf2.tape, hf2.output, hf2.size, hf2.block⟩; have hZ2 := Bx.mk (hf2.row0 hZ.out); have hfr2 := Bx.mk (hfr.out.trans hf2); obtain ⟨m0, m1, m2, m3, m4, m5, m6, m7, m8, m9, m10, m11, m12⟩ := hZ2.out.nd13; obtain ⟨z0, z1, z2, z3, z4, z5, z6, z7, z8, z9, z10, z11, z12⟩ := hZ2.out.fz13; have hl2 := hZ2.out.lt))
  · exact ret_nds (x := ⟨x.kind, x.op, x.a, x.b, x.n, setAx false x.r1 s2, setAx false x.r2 s1⟩) (p := 6) (g := w.heap.size + 1) rfl rfl rfl (((hZ.out.drN _).set_other (p := ⟨w.heap.size, 5, none⟩) (by simp) (I s2)).set_other (p := ⟨w.heap.size, 9, none⟩) (by simp) (I s1)) (fr_new (fr_new (hfr.out.drewN _) (Nat.le_refl _)) (Nat.le_refl _)) (by omega) (by rw [← hR.out, if_neg (by simpa using hpp)])
  · exact ret_nds (x := ⟨x.kind, x.op, x.a, x.b, x.n, setAx false x.r1 s2, setAx false x.r2 s1⟩) (p := 6) (g := w.heap.size + 1) rfl rfl rfl (((hZ.out.drN _).set_other (p := ⟨w.heap.size, 5, none⟩) (by simp) (I s2)).set_other (p := ⟨w.heap.size, 9, none⟩) (by simp) (I s1)) (fr_new (fr_new (hfr.out.drewN _) (Nat.le_refl _)) (Nat.le_refl _)) (by omega) (by rw [← hR.out, if_neg (by simpa using hpp)])
  · exact ret_nds (x := xb) (p := 6) (g := w.heap.size + 1) rfl rfl rfl hZ2.out hfr2.out (by omega) (by rw [← hR.out, if_pos (by simpa using hpp), hxb.out])
  · exact ret_nds (x := xb) (p := 6) (g := w.heap.size + 1) rfl rfl rfl hZ2.out hfr2.out (by omega) (by rw [← hR.out, if_pos (by simpa using hpp), hxb.out])

set_option maxHeartbeats 8000000 in
theorem moveNode_4c (ins : Bool) (at_ : Int) (x : Nd) (w : World) (h4 : (x.kind == 4) = true) (hb : blockOK x.r1 x.r2 = true) (ht : decide (x.r2.col < x.r1.col) = false) : Calls Tryz.prog 111 #[ndV x, I (kd false ins), I at_] w (NR w (moveRg false ins at_ x)) := by
  have hg2 : inGrid x.r1 = true ∧ inGrid x.r2 = true := by simpa [blockOK] using hb
  obtain ⟨q1, q2, q3, q4⟩ := inGrid_iff.1 hg2.1
  obtain ⟨q5, q6, q7, q8⟩ := inGrid_iff.1 hg2.2
  clear hg2
  have h3 : (x.kind == 3) = false := by have : x.kind = 4 := (by simpa using h4); rw [this]; rfl
  have hX0 := Bx.mk ((nd_rowT w x 149 rfl).alloc (.cells (ndA ndZ) 149))
  have hZ0 := Bx.mk (nd_rowT (w.alloc (.cells (ndA x) 149)) ndZ 149 (H := w.heap.size + 1) (by simp))
  have hfr0 := Bx.mk (((Fr.refl S0 w).alloc (.cells (ndA x) 149)).alloc (.cells (ndA ndZ) 149))
  have hc := Bx.mk (Fr.refl S0 (((w.alloc (.cells (ndA x) 149)).alloc (.cells (ndA ndZ) 149))))
  have hG : Bx (∀ wx, Calls Tryz.prog 147 #[refV x.r1, refV x.r2] wx fun e w' => e = .returned (.tuple #[U (blockS x.r1 x.r2), .bool true]) ∧ Fr S0 wx w') := ⟨fun wx => hb ▸ block_any x.r1 x.r2 wx⟩
  have hP : Bx (∀ wx, Calls Tryz.prog 148 #[I x.r1.col, I x.r2.col, I 4, I at_, .bool ins] wx fun e w' => e = .returned (.tuple #[I (stretchP x.r1.col x.r2.col 4 at_ ins).1, I (stretchP x.r1.col x.r2.col 4 at_ ins).2]) ∧ wx = w') := ⟨fun wx => stretch_any _ _ _ _ _ _ (by omega) (by omega) (by omega) (by omega) (by omega) (by omega)⟩
  have hB : Bx (∀ wx, Calls Tryz.prog 146 #[] wx (NR wx nBad)) := ⟨bad_any⟩
  have eM : moveRg false ins at_ x = if (stretchP x.r1.col x.r2.col 4 at_ ins).1 < 0 then nBad else ⟨x.kind, x.op, x.a, x.b, x.n, setAx false x.r1 (stretchP x.r1.col x.r2.col 4 at_ ins).1, setAx false x.r2 (stretchP x.r1.col x.r2.col 4 at_ ins).2⟩ := by
    unfold moveRg
    rw [if_neg (by simpa [ax] using ht)]
    rfl
  rw [eM]
  clear eM
  generalize stretchP x.r1.col x.r2.col 4 at_ ins = ss at *
  obtain ⟨s1, s2⟩ := ss
  simp only at *
  generalize hR : (if s1 < 0 then nBad else (⟨x.kind, x.op, x.a, x.b, x.n, setAx false x.r1 s1, setAx false x.r2 s2⟩ : Nd)) = R
  have hR := Bx.mk hR
  cases hpp : decide (s1 < 0) <;> cases ins <;> simp only [kd, if_true, if_false, Bool.false_eq_true]
  all_goals go_enter Tryz.func111, Tryz.ntmps111
  all_goals go_wp2_with (first
    | (go_at_call 147; refine (hG.out _).mono ?_; clear hG; rintro e w1 ⟨rfl, hf1⟩; have hf1 : Fr S0 (((w.alloc (.cells (ndA x) 149)).alloc (.cells (ndA ndZ) 149))) w1 := hc.out.trans hf1; have hc := Bx.mk hf1; have hX := Bx.mk (hf1.row0 hX0.out); have hZ := Bx.mk (hf1.row0 hZ0.out); have hfr := Bx.mk (hfr0.out.trans hf1); obtain ⟨k0, k1, k2, k3, k4, k5, k6, k7, k8, k9, k10, k11, k12⟩ := hX.out.nd13; obtain ⟨m0, m1, m2, m3, m4, m5, m6, m7, m8, m9, m10, m11, m12⟩ := hZ.out.nd13; obtain ⟨z0, z1, z2, z3, z4, z5, z6, z7, z8, z9, z10, z11, z12⟩ := hZ.out.fz13; obtain ⟨y0, y1, y2, y3, y4, y5, y6, y7, y8, y9, y10, y11, y12⟩ := hX.out.fz13; have hl1 := hX.out.lt; have hl2 := hZ.out.lt; clear hf1))
  all_goals go_quiet (fail)
  all_goals go_wp2_with (first
    | (go_at_call 148; refine (hP.out _).mono ?_; clear hP; rintro e _ ⟨rfl, rfl⟩)
    | (go_at_call 146; refine (hB.out _).mono ?_; clear hB; generalize hxb : nBad = xb; have hxb := Bx.mk hxb; rintro e w2 ⟨rfl, hf2⟩; have hf2 : Fr S0 w1 w2 := ⟨hf2.os, hf2.tape, hf2.output, hf2.size, hf2.block⟩; have hZ2 := Bx.mk (hf2.row0 hZ.out); have hfr2 := Bx.mk (hfr.out.trans hf2); obtain ⟨m0, m1, m2, m3, m4, m5, m6, m7, m8, m9, m10, m11, m12⟩ := hZ2.out.nd13; obtain ⟨z0, z1, z2, z3, z4, z5, z6, z7, z8, z9, z10, z11, z12⟩ := hZ2.out.fz13; have hl2 := hZ2.out.lt))
  · exact ret_nds (x := ⟨x.kind, x.op, x.a, x.b, x.n, setAx false x.r1 s1, setAx false x.r2 s2⟩) (p := 6) (g := w.heap.size + 1) rfl rfl rfl (((hZ.out.drN _).set_other (p := ⟨w.heap.size, 5, none⟩) (by simp) (I s1)).set_other (p := ⟨w.heap.size, 9, none⟩) (by simp) (I s2)) (fr_new (fr_new (hfr.out.drewN _) (Nat.le_refl _)) (Nat.le_refl _)) (by omega) (by rw [← hR.out, if_neg (by simpa using hpp)])
  · exact ret_nds (x := ⟨x.kind, x.op, x.a, x.b, x.n, setAx false x.r1 s1, setAx false x.r2 s2⟩) (p := 6) (g := w.heap.size + 1) rfl rfl rfl (((hZ.out.drN _).set_other (p := ⟨w.heap.size, 5, none⟩) (by simp) (I s1)).set_other (p := ⟨w.heap.size, 9, none⟩) (by simp) (I s2)) (fr_new (fr_new (hfr.out.drewN _) (Nat.le_refl _)) (Nat.le_refl _)) (by omega) (by rw [← hR.out, if_neg (by simpa using hpp)])
  · exact ret_nds (x := xb) (p := 6) (g := w.heap.size + 1) rfl rfl rfl hZ2.out hfr2.out (by omega) (by rw [← hR.out, if_pos (by simpa using hpp), hxb.out])
  · exact ret_nds (x := xb) (p := 6) (g := w.heap.size + 1) rfl rfl rfl hZ2.out hfr2.out (by omega) (by rw [← hR.out, if_pos (by simpa using hpp), hxb.out])

theorem moveNode_any (rows ins : Bool) (at_ : Int) (x : Nd) (w : World) : Calls Tryz.prog 111 #[ndV x, I (kd rows ins), I at_] w (NR w (moveN rows ins at_ x)) := by
  cases h3 : (x.kind == 3)
  · have h3' : x.kind ≠ 3 := by simpa using h3
    cases h4 : (x.kind == 4)
    · rw [moveN_o h3' (by simpa using h4)]; exact moveNode_o rows ins at_ x w h3 h4
    · have h4' : x.kind = 4 := by simpa using h4
      cases hb : blockOK x.r1 x.r2
      · rw [moveN_4o h4' hb]; exact moveNode_4o rows ins at_ x w h4 hb
      · have hg2 : inGrid x.r1 = true ∧ inGrid x.r2 = true := by simpa [blockOK] using hb
        rw [moveN_4 h4' hg2.1 hg2.2]
        cases rows
        · cases ht : decide (x.r2.col < x.r1.col)
          · exact moveNode_4c ins at_ x w h4 hb ht
          · exact moveNode_4ct ins at_ x w h4 hb ht
        · cases ht : decide (x.r2.row < x.r1.row)
          · exact moveNode_4r ins at_ x w h4 hb ht
          · exact moveNode_4rt ins at_ x w h4 hb ht
  · have h3' : x.kind = 3 := by simpa using h3
    cases hg : inGrid x.r1
    · rw [moveN_3o h3' hg]; exact moveNode_3o rows ins at_ x w h3 hg
    · rw [moveN_3 h3' hg]
      cases rows
      · exact moveNode_3c ins at_ x w h3 hg
      · exact moveNode_3r ins at_ x w h3 hg
end Go.Proofs.Qxb6500326aGreat
