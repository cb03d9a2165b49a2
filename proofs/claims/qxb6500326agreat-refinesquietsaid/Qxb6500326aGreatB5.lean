import Derived.Test.Qxb6500326aGreatB4
namespace Go.Proofs.Qxb6500326aGreat
set_option maxRecDepth 100000
set_option linter.unusedVariables false
set_option linter.unusedSimpArgs false
open Go.RowKit Go.PlainAid

set_option maxHeartbeats 8000000 in
theorem take_any (s : Fd) (f : Int) (v : Vl) (r : Bool) (w : World) (hs1 : -1000000000000000 ≤ s.sum) (hs2 : s.sum ≤ 1000000000000000) (hv : Lw v) (hc1 : 0 ≤ s.cnt) (hc2 : s.cnt ≤ 1000000) :
    Calls Tryz.prog 246 #[fdV s, I f, vV v, .bool r] w (FV w (takeM s f v r)) := by
  have hv1 : (v.kind == 1) = true → -999999999 ≤ v.n ∧ v.n ≤ 999999999 := by intro e; cases hv <;> simp at e <;> simp only [] <;> omega
  have hz := Bx.mk (f_new ((w.alloc (.cells (fdA s) 244)).alloc (.cells (vA v) 92)) fz 244 (H := w.heap.size + 2) (by simp))
  have hb := Bx.mk (((f_new w s 244 rfl).alloc (.cells (vA v) 92)).alloc (.cells (fdA fz) 244))
  have hfr := Bx.mk ((((Fr.refl S0 w).alloc (.cells (fdA s) 244)).alloc (.cells (vA v) 92)).alloc (.cells (fdA fz) 244))
  clear hv
  have hR : Bx (r = r) := ⟨rfl⟩
  cases h1 : (s.bad.kind == 4)
  · cases h2 : (v.kind == 4)
    · cases h6 : (f == 6 || f == 7)
      · have h6' : (f == 6) = false ∧ (f == 7) = false := by simpa using h6
        obtain ⟨h6a, h6b⟩ := h6'
        cases h0 : (v.kind == 0)
        · cases hk : (v.kind == 1)
          · have hk' : (v.kind != 1) = true := by simp [bne, hk]
            cases r
            · go_enter Tryz.func246, Tryz.ntmps246
              go_wp2_with (first | (go_at_call 139; refine (err_any _ _).mono (VR.letter ?_); rintro q hx e w1 ⟨rfl, hf⟩; have hz1 := Bx.mk (hf.row0 hz.out); have hb1 := Bx.mk (hf.row0 hb.out); obtain ⟨c0, c1, c2, c3, c4, c5, c6, c7, c8⟩ := hz1.out.f9; obtain ⟨y0, y1, y2, y3, y4, y5, y6, y7, y8⟩ := hz1.out.z9; obtain ⟨b0, b1, b2, b3, b4, b5, b6, b7, b8⟩ := hb1.out.f9; obtain ⟨z0, z1, z2, z3, z4, z5, z6, z7, z8⟩ := hb1.out.z9))
              have hw2 := Bx.mk (sets_fr (S := fun k => k = w.heap.size) (.inl rfl) (vA q).toList w1 0 (Fr.refl _ _))
              refine ret_fs (x := { s with bad := q }) (p := 8) rfl rfl rfl (hw2.out.row hz1.out (by omega)) (sets_fr (S := S0) (a := w) (b := w.heap.size) (.inr (Nat.le_refl _)) (vA q).toList w1 0 (hfr.out.trans hf)) (by omega) ?_
              rw [← hx.out]; simp [takeM, *]
            · go_enter Tryz.func246, Tryz.ntmps246
              go_wp2
              go_returns
              exact ⟨by simp [takeM, *], (((Fr.refl S0 w).alloc _).alloc _).alloc _⟩
          · have hk' : (v.kind != 1) = false := by simp [bne, hk]
            obtain ⟨n1, n2⟩ := hv1 hk
            cases hc0 : (s.cnt == 0) <;> cases hmn : decide (v.n < s.mn) <;> cases hmx : decide (s.mx < v.n)
            all_goals go_enter Tryz.func246, Tryz.ntmps246
            all_goals go_wp2
            all_goals go_returns
            all_goals exact ⟨by simp [takeM, h1, h2, h6, h0, hk, hc0, hmn, hmx, -Bool.or_eq_true, -decide_eq_true_eq, -decide_eq_false_iff_not], (((Fr.refl S0 w).alloc _).alloc _).alloc _⟩
        · go_enter Tryz.func246, Tryz.ntmps246
          go_wp2
          go_returns
          exact ⟨by simp [takeM, *], (((Fr.refl S0 w).alloc _).alloc _).alloc _⟩
      · cases hk : (v.kind == 3)
        · have hk' : (v.kind != 3) = true := by simp [bne, hk]
          go_enter Tryz.func246, Tryz.ntmps246
          go_wp2_with (first | (go_at_call 139; refine (err_any _ _).mono (VR.letter ?_); rintro q hx e w1 ⟨rfl, hf⟩; have hz1 := Bx.mk (hf.row0 hz.out); have hb1 := Bx.mk (hf.row0 hb.out); obtain ⟨c0, c1, c2, c3, c4, c5, c6, c7, c8⟩ := hz1.out.f9; obtain ⟨y0, y1, y2, y3, y4, y5, y6, y7, y8⟩ := hz1.out.z9; obtain ⟨b0, b1, b2, b3, b4, b5, b6, b7, b8⟩ := hb1.out.f9; obtain ⟨z0, z1, z2, z3, z4, z5, z6, z7, z8⟩ := hb1.out.z9))
          all_goals have hw2 := Bx.mk (sets_fr (S := fun k => k = w.heap.size) (.inl rfl) (vA q).toList w1 0 (Fr.refl _ _))
          all_goals refine ret_fs (x := { s with bad := q }) (p := 8) rfl rfl rfl (hw2.out.row hz1.out (by omega)) (sets_fr (S := S0) (a := w) (b := w.heap.size) (.inr (Nat.le_refl _)) (vA q).toList w1 0 (hfr.out.trans hf)) (by omega) ?_
          all_goals (rw [← hx.out]; simp [takeM, h1, h2, h6, hk, -Bool.or_eq_true])
        · have hk' : (v.kind != 3) = false := by simp [bne, hk]
          cases ha : s.all <;> cases hb : s.some
          all_goals go_enter Tryz.func246, Tryz.ntmps246
          all_goals go_wp2
          all_goals go_returns
          all_goals exact ⟨by simp [takeM, h1, h2, h6, hk, ha, hb, -Bool.or_eq_true], (((Fr.refl S0 w).alloc _).alloc _).alloc _⟩
    · go_enter Tryz.func246, Tryz.ntmps246
      go_wp2
      go_returns
      exact ⟨by simp [takeM, h1, h2], (((Fr.refl S0 w).alloc _).alloc _).alloc _⟩
  · go_enter Tryz.func246, Tryz.ntmps246
    go_wp2
    go_returns
    exact ⟨by simp [takeM, h1], (((Fr.refl S0 w).alloc _).alloc _).alloc _⟩
end Go.Proofs.Qxb6500326aGreat
