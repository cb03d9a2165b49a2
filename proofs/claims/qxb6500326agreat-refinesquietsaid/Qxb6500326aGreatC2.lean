import Derived.Test.Qxb6500326aGreatB3
import Derived.Test.Qxb6500326aGreatC1
import Derived.Deep.CutRange
namespace Go.Proofs.Qxb6500326aGreat
set_option maxRecDepth 100000
set_option linter.unusedVariables false
set_option linter.unusedSimpArgs false
open Go.RowKit Go.PlainAid

theorem binP_all {op : Int} {x y : Vl} (h4 : (x.kind == 4) = false) (g4 : (y.kind == 4) = false) :
    binP op x y = if decide (7 ≤ op) = true then (if (cnt x && cnt y) = true then reckP op (amt x) (amt y) else vErr 5) else if ((cnt x && cnt y) || (wrd x && wrd y) || (x.kind == 3 && y.kind == 3)) = true then judgeP op (sg x y) else vErr 5 := by
  cases h7 : decide (7 ≤ op)
  · exact binP_cmp h4 g4 h7
  · unfold binP
    simp only [h4, g4, h7]
    rfl
set_option maxHeartbeats 16000000 in
theorem binR_all (op : Int) (x y : Vl) (w : World) (hx : Lw x) (hy : Lw y) (h4 : (x.kind == 4) = false) (g4 : (y.kind == 4) = false) : Calls Tryz.prog 238 #[I op, vV x, vV y] w (VR w (binP op x y)) := by
  obtain ⟨ha1, ha2⟩ := amt_bd hx
  obtain ⟨hb1, hb2⟩ := amt_bd hy
  obtain ⟨a, ha⟩ : ∃ a, Bx (amt x = a) := ⟨_, ⟨rfl⟩⟩
  obtain ⟨b, hb⟩ : ∃ b, Bx (amt y = b) := ⟨_, ⟨rfl⟩⟩
  rw [ha.out] at ha1 ha2
  rw [hb.out] at hb1 hb2
  have hsub : (x.kind == 3) = true → (y.kind == 3) = true → -1 ≤ x.n - y.n ∧ x.n - y.n ≤ 1 := by
    intro e1 e2; cases hx <;> cases hy <;> simp at e1 e2 <;> simp only [] <;> omega
  have hB := Bx.mk (binP_all (op := op) h4 g4)
  have hz := Bx.mk (v_zero ((w.alloc (.cells (vA x) 92)).alloc (.cells (vA y) 92)) 92 (H := w.heap.size + 2) (by simp))
  have hX := Bx.mk (((v_new w x 92 rfl).alloc (.cells (vA y) 92)).alloc (.cells #[I 0, I 0, .string es] 92))
  have hY := Bx.mk ((v_new (w.alloc (.cells (vA x) 92)) y 92 (H := w.heap.size + 1) (by simp)).alloc (.cells #[I 0, I 0, .string es] 92))
  have hfr := Bx.mk ((((Fr.refl S0 w).alloc (.cells (vA x) 92)).alloc (.cells (vA y) 92)).alloc (.cells #[I 0, I 0, .string es] 92))
  obtain ⟨px, hpx⟩ : ∃ p, Bx (cnt x = p) := ⟨_, ⟨rfl⟩⟩
  obtain ⟨py, hpy⟩ : ∃ p, Bx (cnt y = p) := ⟨_, ⟨rfl⟩⟩
  obtain ⟨qx, hqx⟩ : ∃ p, Bx (wrd x = p) := ⟨_, ⟨rfl⟩⟩
  obtain ⟨qy, hqy⟩ : ∃ p, Bx (wrd y = p) := ⟨_, ⟨rfl⟩⟩
  obtain ⟨cc, hcc⟩ : ∃ cc, Bx (cc = (px && py)) := ⟨_, ⟨rfl⟩⟩
  obtain ⟨dd, hdd⟩ : ∃ cc, Bx (cc = (qx && qy)) := ⟨_, ⟨rfl⟩⟩
  have hB : Bx (binP op x y = if decide (7 ≤ op) = true then (if cc = true then reckP op a b else vErr 5) else if (cc || dd || (x.kind == 3 && y.kind == 3)) = true then judgeP op (if cc = true then cmpI a b else if dd = true then cmpS x.s y.s else x.n - y.n) else vErr 5) := ⟨by
    rw [hB.out]; unfold sg; rw [hpx.out, hpy.out, hqx.out, hqy.out, ha.out, hb.out, ← hcc.out, ← hdd.out]⟩
  clear hx hy
  have hCx : Bx (∀ w, Calls Tryz.prog 249 #[vV x] w fun e w' => e = .returned (.bool px) ∧ Fr S0 w w') := ⟨fun w => hpx.out ▸ counts_any x w⟩
  have hCy : Bx (∀ w, Calls Tryz.prog 249 #[vV y] w fun e w' => e = .returned (.bool py) ∧ Fr S0 w w') := ⟨fun w => hpy.out ▸ counts_any y w⟩
  have hWx : Bx (∀ w, Calls Tryz.prog 248 #[vV x] w fun e w' => e = .returned (.bool qx) ∧ Fr S0 w w') := ⟨fun w => hqx.out ▸ wordyR_any x w⟩
  have hWy : Bx (∀ w, Calls Tryz.prog 248 #[vV y] w fun e w' => e = .returned (.bool qy) ∧ Fr S0 w w') := ⟨fun w => hqy.out ▸ wordyR_any y w⟩
  have hAx : Bx (∀ w, Calls Tryz.prog 250 #[vV x] w fun e w' => e = .returned (I a) ∧ Fr S0 w w') := ⟨fun w => ha.out ▸ amount_any x w⟩
  have hAy : Bx (∀ w, Calls Tryz.prog 250 #[vV y] w fun e w' => e = .returned (I b) ∧ Fr S0 w w') := ⟨fun w => hb.out ▸ amount_any y w⟩
  go_enter Tryz.func238, Tryz.ntmps238
  go_upto_region 7 with (first
            | (go_at_call 249; refine (hCx.out _).mono ?_; clear hCx; rintro e w1 ⟨rfl, hf⟩; have hz := Bx.mk (hf.row0 hz.out); have hX := Bx.mk (hf.row0 hX.out); have hY := Bx.mk (hf.row0 hY.out); have hfr := Bx.mk (hfr.out.trans hf); obtain ⟨c0, c1, c2, y0, y1, y2⟩ := hz.out.v3; obtain ⟨b0, b1, b2, -, -, -⟩ := hX.out.v3; obtain ⟨d0, d1, d2, -, -, -⟩ := hY.out.v3; clear hf)
            | (go_at_call 249; refine (hCy.out _).mono ?_; clear hCy; rintro e w1 ⟨rfl, hf⟩; have hz := Bx.mk (hf.row0 hz.out); have hX := Bx.mk (hf.row0 hX.out); have hY := Bx.mk (hf.row0 hY.out); have hfr := Bx.mk (hfr.out.trans hf); obtain ⟨c0, c1, c2, y0, y1, y2⟩ := hz.out.v3; obtain ⟨b0, b1, b2, -, -, -⟩ := hX.out.v3; obtain ⟨d0, d1, d2, -, -, -⟩ := hY.out.v3; clear hf))
  go_cut [30] from 27 (fun c wx => c = .bool cc ∧ w1 = wx)
  case first =>
    cases px <;> cases py
    all_goals go_wp2_with fail
    all_goals go_meet
    all_goals exact ⟨congrArg Value.bool hcc.out.symm, rfl⟩
  case rest =>
  obtain ⟨rfl, rfl⟩ := hcut
  cases cc
  · cases h7 : decide (7 ≤ op)
    · go_upto_region 22 with (first
            | (go_at_call 248; refine (hWx.out _).mono ?_; clear hWx; rintro e w1 ⟨rfl, hf⟩; have hz := Bx.mk (hf.row0 hz.out); have hX := Bx.mk (hf.row0 hX.out); have hY := Bx.mk (hf.row0 hY.out); have hfr := Bx.mk (hfr.out.trans hf); obtain ⟨c0, c1, c2, y0, y1, y2⟩ := hz.out.v3; obtain ⟨b0, b1, b2, -, -, -⟩ := hX.out.v3; obtain ⟨d0, d1, d2, -, -, -⟩ := hY.out.v3; clear hf)
            | (go_at_call 248; refine (hWy.out _).mono ?_; clear hWy; rintro e w1 ⟨rfl, hf⟩; have hz := Bx.mk (hf.row0 hz.out); have hX := Bx.mk (hf.row0 hX.out); have hY := Bx.mk (hf.row0 hY.out); have hfr := Bx.mk (hfr.out.trans hf); obtain ⟨c0, c1, c2, y0, y1, y2⟩ := hz.out.v3; obtain ⟨b0, b1, b2, -, -, -⟩ := hX.out.v3; obtain ⟨d0, d1, d2, -, -, -⟩ := hY.out.v3; clear hf))
      go_cut [60] from 57 (fun c wx => c = .bool dd ∧ w1 = wx)
      case first =>
        cases qx <;> cases qy
        all_goals go_wp2_with fail
        all_goals go_meet
        all_goals exact ⟨congrArg Value.bool hdd.out.symm, rfl⟩
      case rest =>
      obtain ⟨rfl, rfl⟩ := hcut
      cases dd
      · cases e3 : (x.kind == 3)
        · go_wp2_with (first | (go_at_call 139; refine (err_any _ _).mono (VR.letter ?_); rintro r hx e w1 ⟨rfl, hf⟩; have hz1 := Bx.mk (hf.row0 hz.out); obtain ⟨c0, c1, c2, y0, y1, y2⟩ := hz1.out.v3))
          refine ret_vs (x := r) (p := 6) rfl rfl rfl hz1.out (hfr.out.trans hf) (by omega) ?_
          rw [← hx.out, hB.out, h7, e3]; rfl
        · cases g3 : (y.kind == 3)
          · go_wp2_with (first | (go_at_call 139; refine (err_any _ _).mono (VR.letter ?_); rintro r hx e w1 ⟨rfl, hf⟩; have hz1 := Bx.mk (hf.row0 hz.out); obtain ⟨c0, c1, c2, y0, y1, y2⟩ := hz1.out.v3))
            refine ret_vs (x := r) (p := 6) rfl rfl rfl hz1.out (hfr.out.trans hf) (by omega) ?_
            rw [← hx.out, hB.out, h7, e3, g3]; rfl
          · obtain ⟨hs1, hs2⟩ := hsub e3 g3
            go_wp2_with (first | (go_at_call 252; refine (judge_any _ _ _).mono (VR.letter ?_); rintro r hx e w1 ⟨rfl, hf⟩; have hz1 := Bx.mk (hf.row0 hz.out); obtain ⟨c0, c1, c2, y0, y1, y2⟩ := hz1.out.v3))
            refine ret_vs (x := r) (p := 6) rfl rfl rfl hz1.out (hfr.out.trans hf) (by omega) ?_
            rw [← hx.out, hB.out, h7, e3, g3]; rfl
      · cases hl : Op.bytesLess x.s.toList y.s.toList <;> cases he : (!x.s.toList == y.s.toList)
        all_goals go_wp2_with (first | (go_at_call 252; refine (judge_any _ _ _).mono (VR.letter ?_); rintro r hx e w1 ⟨rfl, hf⟩; have hz1 := Bx.mk (hf.row0 hz.out); obtain ⟨c0, c1, c2, y0, y1, y2⟩ := hz1.out.v3))
        all_goals (refine ret_vs (x := r) (p := 6) rfl rfl rfl hz1.out (hfr.out.trans hf) (by omega) ?_; rw [← hx.out, hB.out, h7]; simp only [cmpS, hl, he]; rfl)
    · go_wp2_with (first | (go_at_call 139; refine (err_any _ _).mono (VR.letter ?_); rintro r hx e w1 ⟨rfl, hf⟩; have hz1 := Bx.mk (hf.row0 hz.out); obtain ⟨c0, c1, c2, y0, y1, y2⟩ := hz1.out.v3))
      refine ret_vs (x := r) (p := 6) rfl rfl rfl hz1.out (hfr.out.trans hf) (by omega) ?_
      rw [← hx.out, hB.out, h7]; rfl
  · cases h7 : decide (7 ≤ op)
    · cases hl : decide (a < b) <;> cases hg : decide (b < a)
      all_goals go_wp2_with (first
            | (go_at_call 250; refine (hAx.out _).mono ?_; clear hAx; rintro e w1 ⟨rfl, hf⟩; have hz := Bx.mk (hf.row0 hz.out); have hX := Bx.mk (hf.row0 hX.out); have hY := Bx.mk (hf.row0 hY.out); have hfr := Bx.mk (hfr.out.trans hf); obtain ⟨c0, c1, c2, y0, y1, y2⟩ := hz.out.v3; obtain ⟨b0, b1, b2, -, -, -⟩ := hX.out.v3; obtain ⟨d0, d1, d2, -, -, -⟩ := hY.out.v3; clear hf)
            | (go_at_call 250; refine (hAy.out _).mono ?_; clear hAy; rintro e w1 ⟨rfl, hf⟩; have hz := Bx.mk (hf.row0 hz.out); have hX := Bx.mk (hf.row0 hX.out); have hY := Bx.mk (hf.row0 hY.out); have hfr := Bx.mk (hfr.out.trans hf); obtain ⟨c0, c1, c2, y0, y1, y2⟩ := hz.out.v3; obtain ⟨b0, b1, b2, -, -, -⟩ := hX.out.v3; obtain ⟨d0, d1, d2, -, -, -⟩ := hY.out.v3; clear hf)
            | (go_at_call 252; refine (judge_any _ _ _).mono (VR.letter ?_); rintro r hx e w1 ⟨rfl, hf⟩; have hz1 := Bx.mk (hf.row0 hz.out); obtain ⟨c0, c1, c2, y0, y1, y2⟩ := hz1.out.v3))
      all_goals (refine ret_vs (x := r) (p := 6) rfl rfl rfl hz1.out (hfr.out.trans hf) (by omega) ?_; rw [← hx.out, hB.out, h7]; simp only [cmpI, hl, hg]; first | rfl | (exfalso; simp at hl hg; omega))
    · go_wp2_with (first
            | (go_at_call 250; refine (hAx.out _).mono ?_; clear hAx; rintro e w1 ⟨rfl, hf⟩; have hz := Bx.mk (hf.row0 hz.out); have hX := Bx.mk (hf.row0 hX.out); have hY := Bx.mk (hf.row0 hY.out); have hfr := Bx.mk (hfr.out.trans hf); obtain ⟨c0, c1, c2, y0, y1, y2⟩ := hz.out.v3; obtain ⟨b0, b1, b2, -, -, -⟩ := hX.out.v3; obtain ⟨d0, d1, d2, -, -, -⟩ := hY.out.v3; clear hf)
            | (go_at_call 250; refine (hAy.out _).mono ?_; clear hAy; rintro e w1 ⟨rfl, hf⟩; have hz := Bx.mk (hf.row0 hz.out); have hX := Bx.mk (hf.row0 hX.out); have hY := Bx.mk (hf.row0 hY.out); have hfr := Bx.mk (hfr.out.trans hf); obtain ⟨c0, c1, c2, y0, y1, y2⟩ := hz.out.v3; obtain ⟨b0, b1, b2, -, -, -⟩ := hX.out.v3; obtain ⟨d0, d1, d2, -, -, -⟩ := hY.out.v3; clear hf)
            | (go_at_call 251; refine (reckon_any _ _ _ _ ha1 ha2 hb1 hb2).mono (VR.letter ?_); rintro r hx e w1 ⟨rfl, hf⟩; have hz1 := Bx.mk (hf.row0 hz.out); obtain ⟨c0, c1, c2, y0, y1, y2⟩ := hz1.out.v3))
      refine ret_vs (x := r) (p := 6) rfl rfl rfl hz1.out (hfr.out.trans hf) (by omega) ?_
      rw [← hx.out, hB.out, h7]; rfl
end Go.Proofs.Qxb6500326aGreat
