import Derived.Test.Qxb6500326aGreatB2
namespace Go.Proofs.Qxb6500326aGreat
set_option maxRecDepth 100000
set_option linter.unusedVariables false
set_option linter.unusedSimpArgs false
open Go.RowKit Go.PlainAid
set_option maxHeartbeats 1000000 in
theorem wordyR_any (x : Vl) (w : World) : Calls Tryz.prog 248 #[vV x] w fun e w' => e = .returned (.bool (wrd x)) ∧ Fr S0 w w' := by
  go_enter Tryz.func248, Tryz.ntmps248
  go_wp2
  all_goals go_ret
  all_goals refine ⟨congrArg Ending.returned (congrArg Value.bool ?_), (Fr.refl _ _).alloc _⟩
  all_goals (unfold wrd; simp [*])
set_option maxHeartbeats 1000000 in
theorem counts_any (x : Vl) (w : World) : Calls Tryz.prog 249 #[vV x] w fun e w' => e = .returned (.bool (cnt x)) ∧ Fr S0 w w' := by
  go_enter Tryz.func249, Tryz.ntmps249
  go_wp2
  all_goals go_ret
  all_goals refine ⟨congrArg Ending.returned (congrArg Value.bool ?_), (Fr.refl _ _).alloc _⟩
  all_goals (unfold cnt; simp [*])
set_option maxHeartbeats 1000000 in
theorem amount_any (x : Vl) (w : World) : Calls Tryz.prog 250 #[vV x] w fun e w' => e = .returned (I (amt x)) ∧ Fr S0 w w' := by
  go_enter Tryz.func250, Tryz.ntmps250
  go_wp2
  all_goals go_ret
  all_goals refine ⟨congrArg Ending.returned (congrArg (Value.int .i64) ?_), (Fr.refl _ _).alloc _⟩
  all_goals (unfold amt; simp [*])
set_option maxHeartbeats 4000000 in
theorem reckon_any (op a b : Int) (w : World) (ha1 : -999999999 ≤ a) (ha2 : a ≤ 999999999) (hb1 : -999999999 ≤ b) (hb2 : b ≤ 999999999) : Calls Tryz.prog 251 #[I op, I a, I b] w (VR w (reckP op a b)) := by
  obtain ⟨hm1, hm2⟩ := mul_bd ha1 ha2 hb1 hb2
  have hwd : Bx (wrap64 (a.tdiv b) = a.tdiv b) := ⟨Go.IntWalk.wrap64_in _ (tdiv_bd ha1 ha2)⟩
  have hz := Bx.mk (v_zero w 92 rfl)
  have hfr := Bx.mk (fr_zero w 92)
  go_enter Tryz.func251, Tryz.ntmps251
  go_wp2_with (first
    | (go_at_call 245; refine (num_any _ _).mono (VR.letter ?_); rintro r hx e w1 ⟨rfl, hf⟩; have hz1 := Bx.mk (hf.row0 hz.out); obtain ⟨c0, c1, c2, y0, y1, y2⟩ := hz1.out.v3)
    | (go_at_call 139; refine (err_any _ _).mono (VR.letter ?_); rintro r hx e w1 ⟨rfl, hf⟩; have hz1 := Bx.mk (hf.row0 hz.out); obtain ⟨c0, c1, c2, y0, y1, y2⟩ := hz1.out.v3))
  all_goals first
    | (refine ret_vs (x := r) (p := 6) rfl rfl rfl hz1.out (hfr.out.trans hf) (Nat.le_refl _) ?_; rw [← hx.out]; (try rw [hwd.out]); simp [reckP, *]; done)
    | (exfalso; simp_all; done)
set_option maxHeartbeats 4000000 in
theorem judge_any (op s : Int) (w : World) : Calls Tryz.prog 252 #[I op, I s] w (VR w (judgeP op s)) := by
  have hz := Bx.mk (v_zero w 92 rfl)
  have hfr := Bx.mk (fr_zero w 92)
  go_enter Tryz.func252, Tryz.ntmps252
  go_wp2_with (first
    | (go_at_call 244; refine (bool_any _ _).mono (VR.letter ?_); rintro r hx e w1 ⟨rfl, hf⟩; have hz1 := Bx.mk (hf.row0 hz.out); obtain ⟨c0, c1, c2, y0, y1, y2⟩ := hz1.out.v3))
  all_goals (refine ret_vs (x := r) (p := 4) rfl rfl rfl hz1.out (hfr.out.trans hf) (Nat.le_refl _) ?_; rw [← hx.out]; simp [judgeP, *])
set_option maxHeartbeats 1000000 in
theorem chooseR_any (c x y : Vl) (w : World) : Calls Tryz.prog 239 #[vV c, vV x, vV y] w (VR w (chooseP c x y)) := by
  have hz := Bx.mk (v_zero (((w.alloc (.cells (vA c) 92)).alloc (.cells (vA x) 92)).alloc (.cells (vA y) 92)) 92 (H := w.heap.size + 3) (by simp))
  have hfr := Bx.mk ((((Fr.refl S0 w).alloc (.cells (vA c) 92)).alloc (.cells (vA x) 92)).alloc (.cells (vA y) 92) |>.alloc (.cells #[I 0, I 0, .string es] 92))
  cases h4 : (c.kind == 4)
  · cases h3 : (c.kind == 3)
    · go_enter Tryz.func239, Tryz.ntmps239
      go_wp2_with (first
        | (go_at_call 139; refine (err_any _ _).mono (VR.letter ?_); rintro r hx e w1 ⟨rfl, hf⟩; have hz1 := Bx.mk (hf.row0 hz.out); obtain ⟨c0, c1, c2, y0, y1, y2⟩ := hz1.out.v3))
      exact ret_vs (x := r) (p := 6) rfl rfl rfl hz1.out (hfr.out.trans hf) (by omega) (by rw [← hx.out]; simp [chooseP, h3, h4])
    · cases h1 : (c.n == 1)
      all_goals go_enter Tryz.func239, Tryz.ntmps239
      all_goals go_wp2
      all_goals go_returns
      all_goals exact ⟨by simp [chooseP, h3, h4, h1], ((((Fr.refl S0 w).alloc _).alloc _).alloc _).alloc _⟩
  · go_enter Tryz.func239, Tryz.ntmps239
    go_wp2
    go_returns
    exact ⟨by simp [chooseP, h4], ((((Fr.refl S0 w).alloc _).alloc _).alloc _).alloc _⟩
set_option maxHeartbeats 4000000 in
theorem unaryR_any (f : Int) (v : Vl) (w : World) (hv : Lw v) : Calls Tryz.prog 237 #[I f, vV v] w (VR w (unaryP f v)) := by
  have hab := amt_bd hv
  obtain ⟨ha1, ha2⟩ := hab
  obtain ⟨a, ha⟩ : ∃ a, Bx (amt v = a) := ⟨_, ⟨rfl⟩⟩
  rw [ha.out] at ha1 ha2
  have hz := Bx.mk (v_zero (w.alloc (.cells (vA v) 92)) 92 (H := w.heap.size + 1) (by simp))
  have hb := Bx.mk ((v_new w v 92 rfl).alloc (.cells #[I 0, I 0, .string es] 92))
  have hfr := Bx.mk (((Fr.refl S0 w).alloc (.cells (vA v) 92)).alloc (.cells #[I 0, I 0, .string es] 92))
  clear hv
  cases h4 : (v.kind == 4)
  · go_enter Tryz.func237, Tryz.ntmps237
    go_wp2_with (first
            | (go_at_call 248; refine (wordyR_any _ _).mono ?_; rintro e w1 ⟨rfl, hf⟩; have hz := Bx.mk (hf.row0 hz.out); have hb := Bx.mk (hf.row0 hb.out); have hfr := Bx.mk (hfr.out.trans hf); obtain ⟨c0, c1, c2, y0, y1, y2⟩ := hz.out.v3; obtain ⟨b0, b1, b2, -, -, -⟩ := hb.out.v3; clear hf)
            | (go_at_call 249; refine (counts_any _ _).mono ?_; rintro e w1 ⟨rfl, hf⟩; have hz := Bx.mk (hf.row0 hz.out); have hb := Bx.mk (hf.row0 hb.out); have hfr := Bx.mk (hfr.out.trans hf); obtain ⟨c0, c1, c2, y0, y1, y2⟩ := hz.out.v3; obtain ⟨b0, b1, b2, -, -, -⟩ := hb.out.v3; clear hf)
            | (go_at_call 250; refine (amount_any v _).mono ?_; rw [ha.out]; rintro e w1 ⟨rfl, hf⟩; have hz := Bx.mk (hf.row0 hz.out); have hb := Bx.mk (hf.row0 hb.out); have hfr := Bx.mk (hfr.out.trans hf); obtain ⟨c0, c1, c2, y0, y1, y2⟩ := hz.out.v3; obtain ⟨b0, b1, b2, -, -, -⟩ := hb.out.v3; clear hf)
            | (go_at_call 139; refine (err_any _ _).mono (VR.letter ?_); rintro r hx e w1 ⟨rfl, hf⟩; have hz1 := Bx.mk (hf.row0 hz.out); obtain ⟨c0, c1, c2, y0, y1, y2⟩ := hz1.out.v3)
            | (go_at_call 208; refine (int_any _ _).mono (VR.letter ?_); rintro r hx e w1 ⟨rfl, hf⟩; have hz1 := Bx.mk (hf.row0 hz.out); obtain ⟨c0, c1, c2, y0, y1, y2⟩ := hz1.out.v3)
            | (go_at_call 244; refine (bool_any _ _).mono (VR.letter ?_); rintro r hx e w1 ⟨rfl, hf⟩; have hz1 := Bx.mk (hf.row0 hz.out); obtain ⟨c0, c1, c2, y0, y1, y2⟩ := hz1.out.v3))
    all_goals (refine ret_vs (x := r) (p := 4) rfl rfl rfl hz1.out (hfr.out.trans hf) (by omega) ?_; rw [← hx.out]; clear hz1 hf hfr hb hz hx c0 c1 c2 y0 y1 y2; have ha := ha.out; simp_all [unaryP] <;> (intros; omega))
  · go_enter Tryz.func237, Tryz.ntmps237
    go_wp2
    go_returns
    exact ⟨by simp [unaryP, h4], ((Fr.refl S0 w).alloc _).alloc _⟩
end Go.Proofs.Qxb6500326aGreat
