import Derived.Test.Qxb6500326aGreatB6
import Derived.Test.Qxb6500326aGreatB10
namespace Go.Proofs.Qxb6500326aGreat
set_option maxRecDepth 100000
set_option linter.unusedVariables false
set_option linter.unusedSimpArgs false
open Go.RowKit Go.PlainAid

set_option maxHeartbeats 4000000 in
theorem worth_neg {g eb : Nat} {L : List Nd} {env : Nat → Vl} {i : Nat} (hi : i < L.length) {j : Nat} {v : Vl} (h : nd L i = ⟨6, 0, (j : Int), -1, 0, rz, rz⟩) (lv : Lw v) (ih : WOK g eb L env j v) : WOK g eb L env i (unaryP 0 v) := by
  intro w cap ecap hW
  obtain ⟨c0, c1, c2, c3, c4, c5, c6, c7, c8, c9, c10, c11, c12⟩ := hW.cells hi h
  have hgl := hW.gl
  have hel := hW.el
  have hz := Bx.mk ((v_zero w 92 rfl).alloc (.cells (ndA ⟨6, 0, (j : Int), -1, 0, rz, rz⟩) 149))
  have hn := Bx.mk (nd_row (w.alloc (.cells #[I 0, I 0, .string es] 92)) ⟨6, 0, (j : Int), -1, 0, rz, rz⟩ (H := w.heap.size + 1) (by simp))
  have hfr := Bx.mk (((Fr.refl S0 w).alloc (.cells #[I 0, I 0, .string es] 92)).alloc (.cells (ndA ⟨6, 0, (j : Int), -1, 0, rz, rz⟩) 149))
  have hA : Bx (∀ w', Fr S0 w w' → Calls Tryz.prog 209 #[sl g L.length cap, I ((j : Nat) : Int), sl eb 24 ecap] w' (VR w' v)) := ⟨fun w' f => ih w' cap ecap (hW.fr f)⟩
  clear ih
  clear hW h
  go_enter Tryz.func209, Tryz.ntmps209
  go_wp2_with (first
    | (go_at_call 209; refine (hA.out _ hfr.out).mono ?_; clear hA; rintro e w1 ⟨rfl, hf⟩; have hz := Bx.mk (hf.row0 hz.out); have hn := Bx.mk (hf.row0 hn.out);  have hfr := Bx.mk ((hfr.out.trans hf).alloc (.cells (vA v) 92)); obtain ⟨q0, q1, q2, qq0, qq1, qq2⟩ := hz.out.v3; obtain ⟨n0, n1, n2, n3, n4, n5, n6, n7, n8, n9, n10, n11, n12⟩ := RowNd hn.out; have hl1 := hz.out.lt; have hl2 := hn.out.lt; clear hf)
    | (go_at_call 229; refine (unaryM_any _ _ _ lv).mono (VR.letter ?_); rintro r hx e wr ⟨rfl, hf⟩; have hz2 := Bx.mk (hf.row0 (hz.out.alloc _)); obtain ⟨q0, q1, q2, qq0, qq1, qq2⟩ := hz2.out.v3))
  exact ret_vs (x := r) (p := 6) rfl rfl rfl hz2.out ((hfr.out).trans hf) (Nat.le_refl _) hx.out.symm
set_option maxHeartbeats 4000000 in
theorem worth_bin {g eb : Nat} {L : List Nd} {env : Nat → Vl} {i : Nat} (hi : i < L.length) {j m : Nat} {op : Int} {x y : Vl} (h : nd L i = ⟨7, op, (m : Int), (j : Int), 0, rz, rz⟩) (lx : Lw x) (ly : Lw y) (ihx : WOK g eb L env m x) (ihy : WOK g eb L env j y) : WOK g eb L env i (binP op x y) := by
  intro w cap ecap hW
  obtain ⟨c0, c1, c2, c3, c4, c5, c6, c7, c8, c9, c10, c11, c12⟩ := hW.cells hi h
  have hgl := hW.gl
  have hel := hW.el
  have hz := Bx.mk ((v_zero w 92 rfl).alloc (.cells (ndA ⟨7, op, (m : Int), (j : Int), 0, rz, rz⟩) 149))
  have hn := Bx.mk (nd_row (w.alloc (.cells #[I 0, I 0, .string es] 92)) ⟨7, op, (m : Int), (j : Int), 0, rz, rz⟩ (H := w.heap.size + 1) (by simp))
  have hfr := Bx.mk (((Fr.refl S0 w).alloc (.cells #[I 0, I 0, .string es] 92)).alloc (.cells (ndA ⟨7, op, (m : Int), (j : Int), 0, rz, rz⟩) 149))
  have hA : Bx (∀ w', Fr S0 w w' → Calls Tryz.prog 209 #[sl g L.length cap, I ((m : Nat) : Int), sl eb 24 ecap] w' (VR w' x)) := ⟨fun w' f => ihx w' cap ecap (hW.fr f)⟩
  have hB : Bx (∀ w', Fr S0 w w' → Calls Tryz.prog 209 #[sl g L.length cap, I ((j : Nat) : Int), sl eb 24 ecap] w' (VR w' y)) := ⟨fun w' f => ihy w' cap ecap (hW.fr f)⟩
  clear ihx ihy
  clear hW h
  go_enter Tryz.func209, Tryz.ntmps209
  go_wp2_with (first
    | (go_at_call 209; refine (hA.out _ hfr.out).mono ?_; clear hA; rintro e w1 ⟨rfl, hf⟩; have hz := Bx.mk (hf.row0 hz.out); have hn := Bx.mk (hf.row0 hn.out);  have hfr := Bx.mk ((hfr.out.trans hf).alloc (.cells (vA x) 92)); obtain ⟨q0, q1, q2, qq0, qq1, qq2⟩ := hz.out.v3; obtain ⟨n0, n1, n2, n3, n4, n5, n6, n7, n8, n9, n10, n11, n12⟩ := RowNd hn.out; have hl1 := hz.out.lt; have hl2 := hn.out.lt; clear hf)
    | (go_at_call 209; refine (hB.out _ hfr.out).mono ?_; clear hB; rintro e w2 ⟨rfl, hf⟩; have hz := Bx.mk (hf.row0 (hz.out.alloc _)); have hn := Bx.mk (hf.row0 (hn.out.alloc _)); have hX := Bx.mk (hf.row0 (v_new w1 x 92 rfl)); obtain ⟨x0, x1, x2, -, -, -⟩ := hX.out.v3; have hlX := hX.out.lt; have hfr := Bx.mk ((hfr.out.trans hf).alloc (.cells (vA y) 92)); obtain ⟨q0, q1, q2, qq0, qq1, qq2⟩ := hz.out.v3; obtain ⟨n0, n1, n2, n3, n4, n5, n6, n7, n8, n9, n10, n11, n12⟩ := RowNd hn.out; have hl1 := hz.out.lt; have hl2 := hn.out.lt; clear hf)
    | (go_at_call 230; refine (binM_any _ _ _ _ lx ly).mono (VR.letter ?_); rintro r hx e wr ⟨rfl, hf⟩; have hz2 := Bx.mk (hf.row0 (hz.out.alloc _)); obtain ⟨q0, q1, q2, qq0, qq1, qq2⟩ := hz2.out.v3))
  exact ret_vs (x := r) (p := 6) rfl rfl rfl hz2.out ((hfr.out).trans hf) (Nat.le_refl _) hx.out.symm
end Go.Proofs.Qxb6500326aGreat
