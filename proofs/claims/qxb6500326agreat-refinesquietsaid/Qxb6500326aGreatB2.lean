import Derived.Test.Qxb6500326aGreatB1
namespace Go.Proofs.Qxb6500326aGreat
set_option maxRecDepth 100000
set_option linter.unusedVariables false
set_option linter.unusedSimpArgs false
open Go.RowKit Go.PlainAid

theorem VR.letter {w : World} {x : Vl} {Q : Ending → World → Prop} (h : ∀ y, Bx (x = y) → ∀ e w', VR w y e w' → Q e w') : ∀ e w', VR w x e w' → Q e w' := h x ⟨rfl⟩
set_option maxHeartbeats 4000000 in
theorem unaryM_any (f : Int) (v : Vl) (w : World) (hv : Lw v) : Calls Tryz.prog 229 #[I f, vV v] w (VR w (unaryP f v)) := by
  have hab := amt_bd hv
  obtain ⟨ha1, ha2⟩ := hab
  obtain ⟨a, ha⟩ : ∃ a, Bx (amt v = a) := ⟨_, ⟨rfl⟩⟩
  rw [ha.out] at ha1 ha2
  have hz := Bx.mk (v_zero (w.alloc (.cells (vA v) 92)) 92 (H := w.heap.size + 1) (by simp))
  have hb := Bx.mk ((v_new w v 92 rfl).alloc (.cells #[I 0, I 0, .string es] 92))
  have hfr := Bx.mk (((Fr.refl S0 w).alloc (.cells (vA v) 92)).alloc (.cells #[I 0, I 0, .string es] 92))
  clear hv
  cases h4 : (v.kind == 4)
  · go_enter Tryz.func229, Tryz.ntmps229
    go_wp2_with (first
            | (go_at_call 243; refine (number_any _ _).mono ?_; rw [ha.out]; rintro e w1 ⟨rfl, hf⟩; have hz := Bx.mk (hf.row0 hz.out); have hb := Bx.mk (hf.row0 hb.out); have hfr := Bx.mk (hfr.out.trans hf); obtain ⟨c0, c1, c2, y0, y1, y2⟩ := hz.out.v3; obtain ⟨b0, b1, b2, -, -, -⟩ := hb.out.v3; clear hf)
            | (go_at_call 139; refine (err_any _ _).mono (VR.letter ?_); rintro x hx e w1 ⟨rfl, hf⟩; have hz1 := Bx.mk (hf.row0 hz.out); obtain ⟨c0, c1, c2, y0, y1, y2⟩ := hz1.out.v3)
            | (go_at_call 208; refine (int_any _ _).mono (VR.letter ?_); rintro x hx e w1 ⟨rfl, hf⟩; have hz1 := Bx.mk (hf.row0 hz.out); obtain ⟨c0, c1, c2, y0, y1, y2⟩ := hz1.out.v3)
            | (go_at_call 244; refine (bool_any _ _).mono (VR.letter ?_); rintro x hx e w1 ⟨rfl, hf⟩; have hz1 := Bx.mk (hf.row0 hz.out); obtain ⟨c0, c1, c2, y0, y1, y2⟩ := hz1.out.v3))
    all_goals exact ret_vs (x := x) (p := 4) rfl rfl rfl hz1.out (hfr.out.trans hf) (by omega) (by rw [← hx.out]; clear hz1 hf hfr hb hz hx c0 c1 c2 y0 y1 y2; have ha := ha.out; simp_all [unaryP, wrd] <;> (intros; omega))
  · go_enter Tryz.func229, Tryz.ntmps229
    go_wp2
    go_returns
    exact ⟨by simp [unaryP, h4], ((Fr.refl S0 w).alloc _).alloc _⟩

theorem mul_bd {a b : Int} (h1 : -999999999 ≤ a) (h2 : a ≤ 999999999) (h3 : -999999999 ≤ b) (h4 : b ≤ 999999999) : -999999998000000001 ≤ a * b ∧ a * b ≤ 999999998000000001 := by
  have h := Int.mul_le_mul (a := a.natAbs) (b := b.natAbs) (c := 999999999) (d := 999999999) (by omega) (by omega) (by omega) (by omega)
  have e : ((a * b).natAbs : Int) = (a.natAbs : Int) * b.natAbs := by rw [Int.natAbs_mul]; simp
  omega
theorem tdiv_bd {a b : Int} (h1 : -999999999 ≤ a) (h2 : a ≤ 999999999) : -9223372036854775808 ≤ a.tdiv b ∧ a.tdiv b ≤ 9223372036854775807 := by
  have h : (a.tdiv b).natAbs ≤ a.natAbs := by rw [Int.natAbs_tdiv]; exact Nat.div_le_self _ _
  omega
set_option maxHeartbeats 8000000 in
theorem binM_ar (op : Int) (x y : Vl) (w : World) (hx : Lw x) (hy : Lw y) (h4 : (x.kind == 4) = false) (g4 : (y.kind == 4) = false) (h7 : decide (7 ≤ op) = true) : Calls Tryz.prog 230 #[I op, vV x, vV y] w (VR w (binP op x y)) := by
  obtain ⟨ha1, ha2⟩ := amt_bd hx
  obtain ⟨hb1, hb2⟩ := amt_bd hy
  obtain ⟨a, ha⟩ : ∃ a, Bx (amt x = a) := ⟨_, ⟨rfl⟩⟩
  obtain ⟨b, hb⟩ : ∃ b, Bx (amt y = b) := ⟨_, ⟨rfl⟩⟩
  rw [ha.out] at ha1 ha2
  rw [hb.out] at hb1 hb2
  obtain ⟨hm1, hm2⟩ := mul_bd ha1 ha2 hb1 hb2
  have hwd : Bx (wrap64 (a.tdiv b) = a.tdiv b) := ⟨Go.IntWalk.wrap64_in _ (tdiv_bd ha1 ha2)⟩
  have hz := Bx.mk (v_zero ((w.alloc (.cells (vA x) 92)).alloc (.cells (vA y) 92)) 92 (H := w.heap.size + 2) (by simp))
  have hX := Bx.mk (((v_new w x 92 rfl).alloc (.cells (vA y) 92)).alloc (.cells #[I 0, I 0, .string es] 92))
  have hY := Bx.mk ((v_new (w.alloc (.cells (vA x) 92)) y 92 (H := w.heap.size + 1) (by simp)).alloc (.cells #[I 0, I 0, .string es] 92))
  have hfr := Bx.mk ((((Fr.refl S0 w).alloc (.cells (vA x) 92)).alloc (.cells (vA y) 92)).alloc (.cells #[I 0, I 0, .string es] 92))
  have hNx : Bx (∀ w, Calls Tryz.prog 243 #[vV x] w fun e w' => e = .returned (.tuple #[I a, .bool (cnt x)]) ∧ Fr S0 w w') := ⟨fun w => ha.out ▸ number_any x w⟩
  have hNy : Bx (∀ w, Calls Tryz.prog 243 #[vV y] w fun e w' => e = .returned (.tuple #[I b, .bool (cnt y)]) ∧ Fr S0 w w') := ⟨fun w => hb.out ▸ number_any y w⟩
  clear hx hy
  have hB : Bx (binP op x y = if (cnt x && cnt y) = true then (if decide (7 ≤ op) = true then reckP op a b else judgeP op (cmpI a b)) else if decide (7 ≤ op) = true then vErr 5 else if (wrd x && wrd y) = true then judgeP op (cmpS x.s y.s) else if (x.kind == 3 && y.kind == 3) = true then judgeP op (x.n - y.n) else vErr 5) := ⟨by simp only [binP, h4, g4, ha.out, hb.out]; rfl⟩
  go_enter Tryz.func230, Tryz.ntmps230
  go_wp2_with (first
      | (go_at_call 243; refine (hNx.out _).mono ?_; clear hNx; rintro e w1 ⟨rfl, hf⟩; have hz := Bx.mk (hf.row0 hz.out); have hX := Bx.mk (hf.row0 hX.out); have hY := Bx.mk (hf.row0 hY.out); have hfr := Bx.mk (hfr.out.trans hf); obtain ⟨c0, c1, c2, y0, y1, y2⟩ := hz.out.v3; obtain ⟨b0, b1, b2, -, -, -⟩ := hX.out.v3; obtain ⟨d0, d1, d2, -, -, -⟩ := hY.out.v3; clear hf)
      | (go_at_call 243; refine (hNy.out _).mono ?_; clear hNy; rintro e w1 ⟨rfl, hf⟩; have hz := Bx.mk (hf.row0 hz.out); have hX := Bx.mk (hf.row0 hX.out); have hY := Bx.mk (hf.row0 hY.out); have hfr := Bx.mk (hfr.out.trans hf); obtain ⟨c0, c1, c2, y0, y1, y2⟩ := hz.out.v3; obtain ⟨b0, b1, b2, -, -, -⟩ := hX.out.v3; obtain ⟨d0, d1, d2, -, -, -⟩ := hY.out.v3; clear hf)
      | (go_at_call 139; refine (err_any _ _).mono (VR.letter ?_); rintro r hx e w1 ⟨rfl, hf⟩; have hz1 := Bx.mk (hf.row0 hz.out); obtain ⟨c0, c1, c2, y0, y1, y2⟩ := hz1.out.v3)
      | (go_at_call 245; refine (num_any _ _).mono (VR.letter ?_); rintro r hx e w1 ⟨rfl, hf⟩; have hz1 := Bx.mk (hf.row0 hz.out); obtain ⟨c0, c1, c2, y0, y1, y2⟩ := hz1.out.v3))
  all_goals first | (refine ret_vs (x := r) (p := 6) rfl rfl rfl hz1.out (hfr.out.trans hf) (by omega) ?_) | (exfalso; simp_all; done)
  all_goals (rw [hB.out, ← hx.out]; clear hz1 hf hfr hX hY hz hx c0 c1 c2 y0 y1 y2 b0 b1 b2 d0 d1 d2; (try rw [hwd.out]); simp_all [reckP])
end Go.Proofs.Qxb6500326aGreat
