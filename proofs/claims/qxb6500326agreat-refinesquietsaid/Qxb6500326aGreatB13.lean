import Derived.Test.Qxb6500326aGreatB6
import Derived.Test.Qxb6500326aGreatB10
namespace Go.Proofs.Qxb6500326aGreat
set_option maxRecDepth 100000
set_option linter.unusedVariables false
set_option linter.unusedSimpArgs false
open Go.RowKit Go.PlainAid

set_option maxHeartbeats 4000000 in
theorem worth_cond {g eb : Nat} {L : List Nd} {env : Nat → Vl} {i : Nat} (hi : i < L.length) {a1 a2 a3 j1 j2 j3 : Nat} {k : Int} {c x y : Vl} (ha1 : a1 < L.length) (ha2 : a2 < L.length) (ha3 : a3 < L.length) (h : nd L i = ⟨8, 5, (a3 : Int), -1, k, rz, rz⟩) (h3 : nd L a3 = ⟨9, 0, (j3 : Int), (a2 : Int), 0, rz, rz⟩) (h2 : nd L a2 = ⟨9, 0, (j2 : Int), (a1 : Int), 0, rz, rz⟩) (h1 : nd L a1 = ⟨9, 0, (j1 : Int), -1, 0, rz, rz⟩)
    (ihc : WOK g eb L env j1 c) (ihx : WOK g eb L env j2 x) (ihy : WOK g eb L env j3 y) : WOK g eb L env i (chooseP c x y) := by
  intro w cap ecap hW
  obtain ⟨c0, c1, c2, c3, c4, c5, c6, c7, c8, c9, c10, c11, c12⟩ := hW.cells hi h
  have hgl := hW.gl
  have hel := hW.el
  have hz := Bx.mk (((((v_zero w 92 rfl).alloc (.cells (ndA ⟨8, 5, (a3 : Int), -1, k, rz, rz⟩) 149)).alloc (.cells (ndA ⟨9, 0, (j3 : Int), (a2 : Int), 0, rz, rz⟩) 149)).alloc (.cells (ndA ⟨9, 0, (j2 : Int), (a1 : Int), 0, rz, rz⟩) 149)).alloc (.cells (ndA ⟨9, 0, (j1 : Int), -1, 0, rz, rz⟩) 149))
  have hm := Bx.mk (((nd_row ((w.alloc (.cells #[I 0, I 0, .string es] 92)).alloc (.cells (ndA ⟨8, 5, (a3 : Int), -1, k, rz, rz⟩) 149)) ⟨9, 0, (j3 : Int), (a2 : Int), 0, rz, rz⟩ (H := w.heap.size + 2) (by simp)).alloc (.cells (ndA ⟨9, 0, (j2 : Int), (a1 : Int), 0, rz, rz⟩) 149)).alloc (.cells (ndA ⟨9, 0, (j1 : Int), -1, 0, rz, rz⟩) 149))
  have hn := Bx.mk ((nd_row (((w.alloc (.cells #[I 0, I 0, .string es] 92)).alloc (.cells (ndA ⟨8, 5, (a3 : Int), -1, k, rz, rz⟩) 149)).alloc (.cells (ndA ⟨9, 0, (j3 : Int), (a2 : Int), 0, rz, rz⟩) 149)) ⟨9, 0, (j2 : Int), (a1 : Int), 0, rz, rz⟩ (H := w.heap.size + 3) (by simp)).alloc (.cells (ndA ⟨9, 0, (j1 : Int), -1, 0, rz, rz⟩) 149))
  have hfr := Bx.mk ((((((Fr.refl S0 w).alloc (.cells #[I 0, I 0, .string es] 92)).alloc (.cells (ndA ⟨8, 5, (a3 : Int), -1, k, rz, rz⟩) 149)).alloc (.cells (ndA ⟨9, 0, (j3 : Int), (a2 : Int), 0, rz, rz⟩) 149)).alloc (.cells (ndA ⟨9, 0, (j2 : Int), (a1 : Int), 0, rz, rz⟩) 149)).alloc (.cells (ndA ⟨9, 0, (j1 : Int), -1, 0, rz, rz⟩) 149))
  have hgl1 : g < w.heap.size + 1 := by omega
  have hgl2 : g < w.heap.size + 1 + 1 := by omega
  have hgl3 : g < w.heap.size + 1 + 1 + 1 := by omega
  obtain ⟨d0, d1, d2, d3, d4, d5, d6, d7, d8, d9, d10, d11, d12⟩ := hW.cells ha3 h3
  obtain ⟨e0, e1, e2, e3, e4, e5, e6, e7, e8, e9, e10, e11, e12⟩ := hW.cells ha2 h2
  obtain ⟨f0, f1, f2, f3, f4, f5, f6, f7, f8, f9, f10, f11, f12⟩ := hW.cells ha1 h1
  have hA : Bx (∀ w', Fr S0 w w' → Calls Tryz.prog 209 #[sl g L.length cap, I ((j1 : Nat) : Int), sl eb 24 ecap] w' (VR w' c)) := ⟨fun w' f => ihc w' cap ecap (hW.fr f)⟩
  have hB : Bx (∀ w', Fr S0 w w' → Calls Tryz.prog 209 #[sl g L.length cap, I ((j2 : Nat) : Int), sl eb 24 ecap] w' (VR w' x)) := ⟨fun w' f => ihx w' cap ecap (hW.fr f)⟩
  have hC : Bx (∀ w', Fr S0 w w' → Calls Tryz.prog 209 #[sl g L.length cap, I ((j3 : Nat) : Int), sl eb 24 ecap] w' (VR w' y)) := ⟨fun w' f => ihy w' cap ecap (hW.fr f)⟩
  clear ihc ihx ihy h1 h2 h3
  clear hW h
  go_enter Tryz.func209, Tryz.ntmps209
  go_wp2_with (first
    | (go_at_call 209; refine (hA.out _ hfr.out).mono ?_; clear hA; rintro e w1 ⟨rfl, hf⟩; have hz := Bx.mk (hf.row0 hz.out); have hn := Bx.mk (hf.row0 hn.out); have hm := Bx.mk (hf.row0 hm.out); obtain ⟨m0, m1, m2, m3, m4, m5, m6, m7, m8, m9, m10, m11, m12⟩ := RowNd hm.out; have hl3 := hm.out.lt;  have hfr := Bx.mk ((hfr.out.trans hf).alloc (.cells (vA c) 92)); obtain ⟨q0, q1, q2, qq0, qq1, qq2⟩ := hz.out.v3; obtain ⟨n0, n1, n2, n3, n4, n5, n6, n7, n8, n9, n10, n11, n12⟩ := RowNd hn.out; have hl1 := hz.out.lt; have hl2 := hn.out.lt; clear hf)
    | (go_at_call 209; refine (hB.out _ hfr.out).mono ?_; clear hB; rintro e w2 ⟨rfl, hf⟩; have hz := Bx.mk (hf.row0 (hz.out.alloc _)); have hn := Bx.mk (hf.row0 (hn.out.alloc _)); have hm := Bx.mk (hf.row0 (hm.out.alloc _)); obtain ⟨m0, m1, m2, m3, m4, m5, m6, m7, m8, m9, m10, m11, m12⟩ := RowNd hm.out; have hl3 := hm.out.lt; have hX := Bx.mk (hf.row0 (v_new w1 c 92 rfl)); obtain ⟨x0, x1, x2, -, -, -⟩ := hX.out.v3; have hlX := hX.out.lt; have hfr := Bx.mk ((hfr.out.trans hf).alloc (.cells (vA x) 92)); obtain ⟨q0, q1, q2, qq0, qq1, qq2⟩ := hz.out.v3; obtain ⟨n0, n1, n2, n3, n4, n5, n6, n7, n8, n9, n10, n11, n12⟩ := RowNd hn.out; have hl1 := hz.out.lt; have hl2 := hn.out.lt; clear hf)
    | (go_at_call 209; refine (hC.out _ hfr.out).mono ?_; clear hC; rintro e w3 ⟨rfl, hf⟩; have hz := Bx.mk (hf.row0 (hz.out.alloc _)); have hn := Bx.mk (hf.row0 (hn.out.alloc _)); have hX := Bx.mk (hf.row0 (hX.out.alloc _)); obtain ⟨x0, x1, x2, -, -, -⟩ := hX.out.v3; have hlX := hX.out.lt; have hY := Bx.mk (hf.row0 (v_new w2 x 92 rfl)); obtain ⟨y0, y1, y2, -, -, -⟩ := hY.out.v3; have hlY := hY.out.lt; have hfr := Bx.mk ((hfr.out.trans hf).alloc (.cells (vA y) 92)); obtain ⟨q0, q1, q2, qq0, qq1, qq2⟩ := hz.out.v3; obtain ⟨n0, n1, n2, n3, n4, n5, n6, n7, n8, n9, n10, n11, n12⟩ := RowNd hn.out; have hl1 := hz.out.lt; have hl2 := hn.out.lt; clear hf)
    | (go_at_call 231; refine (choose_any _ _ _ _).mono (VR.letter ?_); rintro r hx e wr ⟨rfl, hf⟩; have hz2 := Bx.mk (hf.row0 (hz.out.alloc _)); obtain ⟨q0, q1, q2, qq0, qq1, qq2⟩ := hz2.out.v3))
  exact ret_vs (x := r) (p := 6) rfl rfl rfl hz2.out ((hfr.out).trans hf) (Nat.le_refl _) hx.out.symm
end Go.Proofs.Qxb6500326aGreat
