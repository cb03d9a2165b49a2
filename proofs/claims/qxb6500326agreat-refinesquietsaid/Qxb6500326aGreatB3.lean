import Derived.Test.Qxb6500326aGreatB2
import Derived.Deep.CutRange
namespace Go.Proofs.Qxb6500326aGreat
set_option maxRecDepth 100000
set_option linter.unusedVariables false
set_option linter.unusedSimpArgs false
open Go.RowKit Go.PlainAid

def sg (x y : Vl) : Int := if (cnt x && cnt y) = true then cmpI (amt x) (amt y) else if (wrd x && wrd y) = true then cmpS x.s y.s else x.n - y.n
theorem binP_cmp {op : Int} {x y : Vl} (h4 : (x.kind == 4) = false) (g4 : (y.kind == 4) = false) (h7 : decide (7 ≤ op) = false) :
    binP op x y = if ((cnt x && cnt y) || (wrd x && wrd y) || (x.kind == 3 && y.kind == 3)) = true then judgeP op (sg x y) else vErr 5 := by
  unfold binP sg
  simp only [h4, g4, h7]
  by_cases c1 : (cnt x && cnt y) = true
  · simp [c1]
  · by_cases c2 : (wrd x && wrd y) = true
    · simp [c1, c2]
    · simp [c1, c2]
theorem kinds {x : Vl} (h : Lw x) (h4 : (x.kind == 4) = false) :
    ((x.kind == 0) = true ∧ (x.kind == 2) = false ∧ (x.kind == 3) = false ∧ cnt x = true ∧ wrd x = true) ∨ ((x.kind == 0) = false ∧ (x.kind == 2) = false ∧ (x.kind == 3) = false ∧ cnt x = true ∧ wrd x = false) ∨
    ((x.kind == 0) = false ∧ (x.kind == 2) = true ∧ (x.kind == 3) = false ∧ cnt x = false ∧ wrd x = true) ∨ ((x.kind == 0) = false ∧ (x.kind == 2) = false ∧ (x.kind == 3) = true ∧ cnt x = false ∧ wrd x = false) := by
  cases h
  · exact .inl ⟨rfl, rfl, rfl, rfl, rfl⟩
  · exact .inr (.inl ⟨rfl, rfl, rfl, rfl, rfl⟩)
  · exact .inr (.inr (.inl ⟨rfl, rfl, rfl, rfl, rfl⟩))
  · exact .inr (.inr (.inr ⟨rfl, rfl, rfl, rfl, rfl⟩))
  · cases h4
set_option maxHeartbeats 8000000 in
theorem binM_cmp (op : Int) (x y : Vl) (w : World) (hx : Lw x) (hy : Lw y) (h4 : (x.kind == 4) = false) (g4 : (y.kind == 4) = false) (h7 : decide (7 ≤ op) = false) : Calls Tryz.prog 230 #[I op, vV x, vV y] w (VR w (binP op x y)) := by
  obtain ⟨ha1, ha2⟩ := amt_bd hx
  obtain ⟨hb1, hb2⟩ := amt_bd hy
  obtain ⟨a, ha⟩ : ∃ a, Bx (amt x = a) := ⟨_, ⟨rfl⟩⟩
  obtain ⟨b, hb⟩ : ∃ b, Bx (amt y = b) := ⟨_, ⟨rfl⟩⟩
  rw [ha.out] at ha1 ha2
  rw [hb.out] at hb1 hb2
  have hsub : (x.kind == 3) = true → (y.kind == 3) = true → -1 ≤ x.n - y.n ∧ x.n - y.n ≤ 1 := by
    intro e1 e2; cases hx <;> cases hy <;> simp at e1 e2 <;> simp only [] <;> omega
  have hB := Bx.mk (binP_cmp (op := op) h4 g4 h7)
  have hz := Bx.mk (v_zero ((w.alloc (.cells (vA x) 92)).alloc (.cells (vA y) 92)) 92 (H := w.heap.size + 2) (by simp))
  have hX := Bx.mk (((v_new w x 92 rfl).alloc (.cells (vA y) 92)).alloc (.cells #[I 0, I 0, .string es] 92))
  have hY := Bx.mk ((v_new (w.alloc (.cells (vA x) 92)) y 92 (H := w.heap.size + 1) (by simp)).alloc (.cells #[I 0, I 0, .string es] 92))
  have hfr := Bx.mk ((((Fr.refl S0 w).alloc (.cells (vA x) 92)).alloc (.cells (vA y) 92)).alloc (.cells #[I 0, I 0, .string es] 92))
  obtain ⟨px, hpx⟩ : ∃ p, Bx (cnt x = p) := ⟨_, ⟨rfl⟩⟩
  obtain ⟨py, hpy⟩ : ∃ p, Bx (cnt y = p) := ⟨_, ⟨rfl⟩⟩
  have hNx : Bx (∀ w, Calls Tryz.prog 243 #[vV x] w fun e w' => e = .returned (.tuple #[I a, .bool px]) ∧ Fr S0 w w') := ⟨fun w => hpx.out ▸ ha.out ▸ number_any x w⟩
  have hNy : Bx (∀ w, Calls Tryz.prog 243 #[vV y] w fun e w' => e = .returned (.tuple #[I b, .bool py]) ∧ Fr S0 w w') := ⟨fun w => hpy.out ▸ hb.out ▸ number_any y w⟩
  have hkx := kinds hx h4
  have hky := kinds hy g4
  clear hx hy
  obtain ⟨cc, hcc⟩ : ∃ cc, Bx (cc = (px && py)) := ⟨_, ⟨rfl⟩⟩
  go_enter Tryz.func230, Tryz.ntmps230
  go_upto_region 21 with (first
            | (go_at_call 243; refine (hNx.out _).mono ?_; clear hNx; rintro e w1 ⟨rfl, hf⟩; have hz := Bx.mk (hf.row0 hz.out); have hX := Bx.mk (hf.row0 hX.out); have hY := Bx.mk (hf.row0 hY.out); have hfr := Bx.mk (hfr.out.trans hf); obtain ⟨c0, c1, c2, y0, y1, y2⟩ := hz.out.v3; obtain ⟨b0, b1, b2, -, -, -⟩ := hX.out.v3; obtain ⟨d0, d1, d2, -, -, -⟩ := hY.out.v3; clear hf)
            | (go_at_call 243; refine (hNy.out _).mono ?_; clear hNy; rintro e w1 ⟨rfl, hf⟩; have hz := Bx.mk (hf.row0 hz.out); have hX := Bx.mk (hf.row0 hX.out); have hY := Bx.mk (hf.row0 hY.out); have hfr := Bx.mk (hfr.out.trans hf); obtain ⟨c0, c1, c2, y0, y1, y2⟩ := hz.out.v3; obtain ⟨b0, b1, b2, -, -, -⟩ := hX.out.v3; obtain ⟨d0, d1, d2, -, -, -⟩ := hY.out.v3; clear hf))
  go_cut [68] from 65 (fun c wx => c = .bool cc ∧ w1 = wx)
  case first =>
    cases px <;> cases py
    all_goals go_wp2_with fail
    all_goals go_meet
    all_goals exact ⟨congrArg Value.bool hcc.out.symm, rfl⟩
  case rest =>
  obtain ⟨rfl, rfl⟩ := hcut
  go_upto_if 68 with fail
  go_cut [11] from 65 (fun c wx => c = I (sg x y) ∧ w1 = wx ∧ Bx (binP op x y = judgeP op (sg x y)))
  case first =>
    rcases hkx with ⟨e0, e2, e3, hcx, hwx⟩ | ⟨e0, e2, e3, hcx, hwx⟩ | ⟨e0, e2, e3, hcx, hwx⟩ | ⟨e0, e2, e3, hcx, hwx⟩ <;> rcases hky with ⟨g0, g2, g3, hcy, hwy⟩ | ⟨g0, g2, g3, hcy, hwy⟩ | ⟨g0, g2, g3, hcy, hwy⟩ | ⟨g0, g2, g3, hcy, hwy⟩
    all_goals (try have hsub := hsub e3 g3)
    all_goals (have hcc := hcc.out; rw [← hpx.out, ← hpy.out, hcx, hcy] at hcc; simp only [Bool.and_true, Bool.and_false, Bool.true_and, Bool.false_and] at hcc; subst hcc)
    all_goals go_wp2_with (first
            | (go_at_call 139; refine (err_any _ _).mono (VR.letter ?_); rintro r hx e w1 ⟨rfl, hf⟩; have hz1 := Bx.mk (hf.row0 hz.out); obtain ⟨c0, c1, c2, y0, y1, y2⟩ := hz1.out.v3))
    all_goals first
        | (refine ret_vs (x := r) (p := 6) rfl rfl rfl hz1.out (hfr.out.trans hf) (by omega) ?_; rw [hB.out, ← hx.out, hcx, hcy, hwx, hwy, e3]; simp; done)
        | (refine ret_vs (x := r) (p := 6) rfl rfl rfl hz1.out (hfr.out.trans hf) (by omega) ?_; rw [hB.out, ← hx.out, hcx, hcy, hwx, hwy, g3]; simp; done)
        | (go_meet; exact ⟨congrArg (Value.int .i64) (by unfold sg; rw [hcx, hcy, hwx, hwy]; simp [cmpI, cmpS, ha.out, hb.out, *] <;> (repeat' split) <;> omega), rfl, ⟨hB.out.trans (if_pos (by rw [hcx, hcy, hwx, hwy]; simp [e3, g3]))⟩⟩)
        | trace_state
  case rest =>
    obtain ⟨rfl, rfl, hJ⟩ := hcut
    generalize hS : sg x y = S at hJ
    have hS := Bx.mk hS
    go_wp2_with (first
            | (go_at_call 244; refine (bool_any _ _).mono (VR.letter ?_); rintro r hx e w1 ⟨rfl, hf⟩; have hz1 := Bx.mk (hf.row0 hz.out); obtain ⟨c0, c1, c2, y0, y1, y2⟩ := hz1.out.v3))
    all_goals first
      | (refine ret_vs (x := r) (p := 6) rfl rfl rfl hz1.out (hfr.out.trans hf) (by omega) ?_; rw [hJ.out, ← hx.out]; simp [judgeP, *]; done)
      | trace_state
end Go.Proofs.Qxb6500326aGreat
