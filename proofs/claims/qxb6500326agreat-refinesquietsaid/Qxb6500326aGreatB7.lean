import Derived.Test.Qxb6500326aGreatB6
namespace Go.Proofs.Qxb6500326aGreat
set_option maxRecDepth 100000
set_option linter.unusedVariables false
set_option linter.unusedSimpArgs false
open Go.RowKit Go.PlainAid

set_option maxHeartbeats 4000000 in
theorem worth_num {g eb : Nat} {L : List Nd} {env : Nat → Vl} {i : Nat} (hi : i < L.length) {v : Int} (h : nd L i = ⟨1, 0, -1, -1, v, rz, rz⟩) : WOK g eb L env i (vInt v) := by
  intro w cap ecap hW
  obtain ⟨c0, c1, c2, c3, c4, c5, c6, c7, c8, c9, c10, c11, c12⟩ := hW.cells hi h
  have hgl := hW.gl
  have hel := hW.el
  have hz := Bx.mk ((v_zero w 92 rfl).alloc (.cells (ndA ⟨1, 0, -1, -1, v, rz, rz⟩) 149))
  have hn := Bx.mk (nd_row (w.alloc (.cells #[I 0, I 0, .string es] 92)) ⟨1, 0, -1, -1, v, rz, rz⟩ (H := w.heap.size + 1) (by simp))
  have hfr := Bx.mk (((Fr.refl S0 w).alloc (.cells #[I 0, I 0, .string es] 92)).alloc (.cells (ndA ⟨1, 0, -1, -1, v, rz, rz⟩) 149))
  clear hW h
  go_enter Tryz.func209, Tryz.ntmps209
  go_wp2_with (first | (go_at_call 208; refine (int_any _ _).mono (VR.letter ?_); rintro r hx e wr ⟨rfl, hf⟩; have hz2 := Bx.mk (hf.row0 (hz.out)); obtain ⟨q0, q1, q2, qq0, qq1, qq2⟩ := hz2.out.v3))
  exact ret_vs (x := r) (p := 6) rfl rfl rfl hz2.out ((hfr.out).trans hf) (Nat.le_refl _) hx.out.symm
set_option maxHeartbeats 4000000 in
theorem worth_bool {g eb : Nat} {L : List Nd} {env : Nat → Vl} {i : Nat} (hi : i < L.length) {v : Int} (h : nd L i = ⟨2, 0, -1, -1, v, rz, rz⟩) : WOK g eb L env i ⟨3, v, es⟩ := by
  intro w cap ecap hW
  obtain ⟨c0, c1, c2, c3, c4, c5, c6, c7, c8, c9, c10, c11, c12⟩ := hW.cells hi h
  have hgl := hW.gl
  have hel := hW.el
  have hz := Bx.mk ((v_zero w 92 rfl).alloc (.cells (ndA ⟨2, 0, -1, -1, v, rz, rz⟩) 149))
  have hn := Bx.mk (nd_row (w.alloc (.cells #[I 0, I 0, .string es] 92)) ⟨2, 0, -1, -1, v, rz, rz⟩ (H := w.heap.size + 1) (by simp))
  have hfr := Bx.mk (((Fr.refl S0 w).alloc (.cells #[I 0, I 0, .string es] 92)).alloc (.cells (ndA ⟨2, 0, -1, -1, v, rz, rz⟩) 149))
  clear hW h
  go_enter Tryz.func209, Tryz.ntmps209
  go_wp2
  go_returns
  exact ⟨rfl, ((Fr.refl S0 w).alloc _).alloc _⟩
set_option maxHeartbeats 4000000 in
theorem worth_bad {g eb : Nat} {L : List Nd} {env : Nat → Vl} {i : Nat} (hi : i < L.length) (h : nd L i = ⟨5, 0, -1, -1, 0, rz, rz⟩) : WOK g eb L env i (vErr 2) := by
  intro w cap ecap hW
  obtain ⟨c0, c1, c2, c3, c4, c5, c6, c7, c8, c9, c10, c11, c12⟩ := hW.cells hi h
  have hgl := hW.gl
  have hel := hW.el
  have hz := Bx.mk ((v_zero w 92 rfl).alloc (.cells (ndA ⟨5, 0, -1, -1, 0, rz, rz⟩) 149))
  have hn := Bx.mk (nd_row (w.alloc (.cells #[I 0, I 0, .string es] 92)) ⟨5, 0, -1, -1, 0, rz, rz⟩ (H := w.heap.size + 1) (by simp))
  have hfr := Bx.mk (((Fr.refl S0 w).alloc (.cells #[I 0, I 0, .string es] 92)).alloc (.cells (ndA ⟨5, 0, -1, -1, 0, rz, rz⟩) 149))
  clear hW h
  go_enter Tryz.func209, Tryz.ntmps209
  go_wp2_with (first | (go_at_call 139; refine (err_any _ _).mono (VR.letter ?_); rintro r hx e wr ⟨rfl, hf⟩; have hz2 := Bx.mk (hf.row0 (hz.out)); obtain ⟨q0, q1, q2, qq0, qq1, qq2⟩ := hz2.out.v3))
  exact ret_vs (x := r) (p := 6) rfl rfl rfl hz2.out ((hfr.out).trans hf) (Nat.le_refl _) hx.out.symm
set_option maxHeartbeats 4000000 in
theorem worth_refOut {g eb : Nat} {L : List Nd} {env : Nat → Vl} {i : Nat} (hi : i < L.length) {q : Ref} (h : nd L i = ⟨3, 0, -1, -1, 0, q, rz⟩) (hg : inGrid q = false) : WOK g eb L env i (vErr 2) := by
  intro w cap ecap hW
  obtain ⟨c0, c1, c2, c3, c4, c5, c6, c7, c8, c9, c10, c11, c12⟩ := hW.cells hi h
  have hgl := hW.gl
  have hel := hW.el
  have hz := Bx.mk ((v_zero w 92 rfl).alloc (.cells (ndA ⟨3, 0, -1, -1, 0, q, rz⟩) 149))
  have hn := Bx.mk (nd_row (w.alloc (.cells #[I 0, I 0, .string es] 92)) ⟨3, 0, -1, -1, 0, q, rz⟩ (H := w.heap.size + 1) (by simp))
  have hfr := Bx.mk (((Fr.refl S0 w).alloc (.cells #[I 0, I 0, .string es] 92)).alloc (.cells (ndA ⟨3, 0, -1, -1, 0, q, rz⟩) 149))
  have hG : Bx (∀ w, Calls Tryz.prog 131 #[refV q] w fun e w' => e = .returned (.bool false) ∧ Fr S0 w w') := ⟨fun w => hg ▸ inGrid_any q w⟩
  clear hW h
  go_enter Tryz.func209, Tryz.ntmps209
  go_wp2_with (first
    | (go_at_call 131; refine (hG.out _).mono ?_; clear hG; rintro e w1 ⟨rfl, hf⟩; have hz := Bx.mk (hf.row0 hz.out); have hn := Bx.mk (hf.row0 hn.out); have hfr := Bx.mk (hfr.out.trans hf); obtain ⟨n0, n1, n2, n3, n4, n5, n6, n7, n8, n9, n10, n11, n12⟩ := RowNd hn.out; clear hf)
    | (go_at_call 139; refine (err_any _ _).mono (VR.letter ?_); rintro r hx e wr ⟨rfl, hf⟩; have hz2 := Bx.mk (hf.row0 (hz.out)); obtain ⟨q0, q1, q2, qq0, qq1, qq2⟩ := hz2.out.v3))
  exact ret_vs (x := r) (p := 6) rfl rfl rfl hz2.out ((hfr.out).trans hf) (Nat.le_refl _) hx.out.symm
set_option maxHeartbeats 4000000 in
theorem worth_ref {g eb : Nat} {L : List Nd} {env : Nat → Vl} {i : Nat} (hi : i < L.length) {q : Ref} (h : nd L i = ⟨3, 0, -1, -1, 0, q, rz⟩) (hg : inGrid q = true) : WOK g eb L env i (env (cellOf q).toNat) := by
  intro w cap ecap hW
  obtain ⟨c0, c1, c2, c3, c4, c5, c6, c7, c8, c9, c10, c11, c12⟩ := hW.cells hi h
  have hgl := hW.gl
  have hel := hW.el
  have hz := Bx.mk ((v_zero w 92 rfl).alloc (.cells (ndA ⟨3, 0, -1, -1, 0, q, rz⟩) 149))
  have hn := Bx.mk (nd_row (w.alloc (.cells #[I 0, I 0, .string es] 92)) ⟨3, 0, -1, -1, 0, q, rz⟩ (H := w.heap.size + 1) (by simp))
  have hfr := Bx.mk (((Fr.refl S0 w).alloc (.cells #[I 0, I 0, .string es] 92)).alloc (.cells (ndA ⟨3, 0, -1, -1, 0, q, rz⟩) 149))
  obtain ⟨d1, d2⟩ := cellOf_bd hg
  obtain ⟨c, hc⟩ : ∃ c : Nat, cellOf q = (c : Int) := ⟨(cellOf q).toNat, by omega⟩
  have hc24 : c < 24 := by omega
  have hG : Bx (∀ w, Calls Tryz.prog 131 #[refV q] w fun e w' => e = .returned (.bool true) ∧ Fr S0 w w') := ⟨fun w => hg ▸ inGrid_any q w⟩
  have hC : Bx (∀ w, Calls Tryz.prog 228 #[refV q] w fun e w' => e = .returned (I (c : Int)) ∧ Fr S0 w w') := ⟨fun w => hc ▸ cellOf_any q w hg⟩
  have hW' := Bx.mk hW
  have hcc := Bx.mk hc
  clear hc d1 d2
  clear hW h
  go_enter Tryz.func209, Tryz.ntmps209
  go_wp2_with (first
    | (go_at_call 131; refine (hG.out _).mono ?_; clear hG; rintro e w1 ⟨rfl, hf⟩; have hz := Bx.mk (hf.row0 hz.out); have hn := Bx.mk (hf.row0 hn.out); have hfr := Bx.mk (hfr.out.trans hf); obtain ⟨n0, n1, n2, n3, n4, n5, n6, n7, n8, n9, n10, n11, n12⟩ := RowNd hn.out; clear hf)
    | (go_at_call 228; refine (hC.out _).mono ?_; clear hC; rintro e w1 ⟨rfl, hf⟩; have hz := Bx.mk (hf.row0 hz.out); have hfr := Bx.mk (hfr.out.trans hf); obtain ⟨q0, q1, q2, qq0, qq1, qq2⟩ := hz.out.v3; obtain ⟨v0, v1, v2⟩ := (hW'.out.fr hfr.out).vals hc24; clear hf))
  exact ret_vs (x := env c) (p := 6) rfl rfl rfl hz.out hfr.out (Nat.le_refl _) (by rw [hcc.out]; simp)
end Go.Proofs.Qxb6500326aGreat
