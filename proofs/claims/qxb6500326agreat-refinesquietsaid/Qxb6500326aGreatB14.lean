import Derived.Test.Qxb6500326aGreatB6
import Derived.Test.Qxb6500326aGreatB9
import Derived.Test.Qxb6500326aGreatB5
namespace Go.Proofs.Qxb6500326aGreat
set_option maxRecDepth 100000
set_option linter.unusedVariables false
set_option linter.unusedSimpArgs false
open Go.RowKit Go.PlainAid
set_option maxHeartbeats 4000000 in
theorem fold_nil {g eb : Nat} {L : List Nd} {env : Nat → Vl} {op : Int} : FOK g eb L env op (-1) fd0 := by
  intro w cap ecap hW
  clear hW
  go_enter Tryz.func232, Tryz.ntmps232
  go_wp2
  go_returns
  exact ⟨rfl, (Fr.refl S0 w).alloc _⟩
set_option maxHeartbeats 4000000 in
theorem fold_arg {g eb : Nat} {L : List Nd} {env : Nat → Vl} {i : Nat} {op : Int} {j m : Nat} {b : Int} {s : Fd} {v : Vl} {y : Nd} (hi : i < L.length) (hj : j < L.length) (h : nd L i = ⟨9, 0, (j : Int), b, 0, rz, rz⟩) (hy : nd L j = y) (hk : (y.kind != 4) = true) (fs : FI m s) (hm : m ≤ 600) (lv : Lw v) (ih : FOK g eb L env op b s) (ihv : WOK g eb L env j v) : FOK g eb L env op (i : Int) (takeM s op v false) := by
  intro w cap ecap hW
  obtain ⟨c0, c1, c2, c3, c4, c5, c6, c7, c8, c9, c10, c11, c12⟩ := hW.cells hi h
  have hgl := hW.gl
  have hz := Bx.mk (f_new w fz 244 rfl)
  have hfr := Bx.mk ((Fr.refl S0 w).alloc (.cells (fdA fz) 244))
  have hA : Bx (∀ w', Fr S0 w w' → Calls Tryz.prog 232 #[sl g L.length cap, I b, I op, sl eb 24 ecap] w' (FV w' s)) := ⟨fun w' f => ih w' cap ecap (hW.fr f)⟩
  have hW' := Bx.mk hW
  have b1 := fs.s1
  have b2 := fs.s2
  have b3 := fs.c0
  have b4 := fs.ck
  have hS1 : -1000000000000000 ≤ s.sum := by omega
  have hS2 : s.sum ≤ 1000000000000000 := by omega
  have hC1 := b3
  have hC2 : s.cnt ≤ 1000000 := by omega
  clear ih b1 b2 b3 b4
  have hB : Bx (∀ w', Fr S0 w w' → Calls Tryz.prog 209 #[sl g L.length cap, I ((j : Nat) : Int), sl eb 24 ecap] w' (VR w' v)) := ⟨fun w' f => ihv w' cap ecap (hW.fr f)⟩
  clear ihv hW fs hm
  have hy := Bx.mk hy
  have h := Bx.mk h
  go_enter Tryz.func232, Tryz.ntmps232
  go_wp2_with (first
    | (go_at_call 232; refine (hA.out _ hfr.out).mono ?_; clear hA; rintro e w1 ⟨rfl, hf⟩; have hz := Bx.mk (hf.row0 hz.out); have hz1 := hz; have hfr := Bx.mk (((hfr.out.trans hf).alloc (.cells (fdA s) 244)).alloc (.cells (ndA y) 149)); have hW1 := hW'.out.fr ((Fr.trans ((Fr.refl S0 w).alloc (.cells (fdA fz) 244)) hf)); obtain ⟨k0, k1, k2, k3, k4, k5, k6, k7, k8, k9, k10, k11, k12⟩ := hW1.cells hi h.out; obtain ⟨l0, l1, l2, l3, l4, l5, l6, l7, l8, l9, l10, l11, l12⟩ := hW1.cells hj hy.out; have hg1 := hW1.gl; have hg2 : g < w1.heap.size + 1 := (by omega); have hs := Bx.mk ((f_new w1 s 244 rfl).alloc (.cells (ndA y) 149)); have hn := Bx.mk (nd_row (w1.alloc (.cells (fdA s) 244)) y (H := w1.heap.size + 1) (by simp)); have hz := Bx.mk ((hz.out.alloc (.cells (fdA s) 244)).alloc (.cells (ndA y) 149)); clear hf hW1)
    | (go_at_call 209; refine (hB.out _ hfr.out).mono ?_; clear hB; rintro e w2 ⟨rfl, hf⟩; have hz := Bx.mk (hf.row0 hz.out); have hs := Bx.mk (hf.row0 hs.out); have hfr := Bx.mk ((hfr.out.trans hf).alloc (.cells (vA v) 92)); obtain ⟨s0, s1, s2, s3, s4, s5, s6, s7, s8⟩ := hs.out.f9; have hl1 := hs.out.lt; clear hf)
    | (go_at_call 246; refine (take_any _ _ _ _ _ hS1 hS2 lv hC1 hC2).mono (FV.letter ?_); rintro r hx e w3 ⟨rfl, hf⟩; have hz3 := Bx.mk (hf.row0 (hz.out.alloc _)); obtain ⟨q0, q1, q2, q3, q4, q5, q6, q7, q8⟩ := hz3.out.f9; obtain ⟨qq0, qq1, qq2, qq3, qq4, qq5, qq6, qq7, qq8⟩ := hz3.out.z9))
  exact ret_fs (x := r) (p := 8) rfl rfl rfl hz3.out (hfr.out.trans hf) (Nat.le_refl _) hx.out.symm
set_option maxHeartbeats 4000000 in
theorem fold_lost {g eb : Nat} {L : List Nd} {env : Nat → Vl} {i : Nat} {op : Int} {j m : Nat} {b : Int} {s : Fd} {p q : Ref} (hi : i < L.length) (hj : j < L.length) (h : nd L i = ⟨9, 0, (j : Int), b, 0, rz, rz⟩) (hy : nd L j = ⟨4, 0, -1, -1, 0, p, q⟩) (ho : blockOK p q = false) (fs : FI m s) (hm : m ≤ 600) (ih : FOK g eb L env op b s) : FOK g eb L env op (i : Int) (takeM s op (vErr 2) true) := by
  intro w cap ecap hW
  obtain ⟨c0, c1, c2, c3, c4, c5, c6, c7, c8, c9, c10, c11, c12⟩ := hW.cells hi h
  have hgl := hW.gl
  have hz := Bx.mk (f_new w fz 244 rfl)
  have hfr := Bx.mk ((Fr.refl S0 w).alloc (.cells (fdA fz) 244))
  have hA : Bx (∀ w', Fr S0 w w' → Calls Tryz.prog 232 #[sl g L.length cap, I b, I op, sl eb 24 ecap] w' (FV w' s)) := ⟨fun w' f => ih w' cap ecap (hW.fr f)⟩
  have hW' := Bx.mk hW
  have b1 := fs.s1
  have b2 := fs.s2
  have b3 := fs.c0
  have b4 := fs.ck
  have hS1 : -1000000000000000 ≤ s.sum := by omega
  have hS2 : s.sum ≤ 1000000000000000 := by omega
  have hC1 := b3
  have hC2 : s.cnt ≤ 1000000 := by omega
  clear ih b1 b2 b3 b4
  have hB : Bx (∀ w, Calls Tryz.prog 147 #[refV p, refV q] w fun e w' => e = .returned (.tuple #[U (blockS p q), .bool false]) ∧ Fr S0 w w') := ⟨fun w => ho ▸ block_any p q w⟩
  have lv : Lw (vErr 2) := .err _ (by decide) (by decide)
  clear hW fs hm ho
  have hy := Bx.mk hy
  have h := Bx.mk h
  go_enter Tryz.func232, Tryz.ntmps232
  go_wp2_with (first
    | (go_at_call 232; refine (hA.out _ hfr.out).mono ?_; clear hA; rintro e w1 ⟨rfl, hf⟩; have hz := Bx.mk (hf.row0 hz.out); have hz1 := hz; have hfr := Bx.mk (((hfr.out.trans hf).alloc (.cells (fdA s) 244)).alloc (.cells (ndA ⟨4, 0, -1, -1, 0, p, q⟩) 149)); have hW1 := hW'.out.fr ((Fr.trans ((Fr.refl S0 w).alloc (.cells (fdA fz) 244)) hf)); obtain ⟨k0, k1, k2, k3, k4, k5, k6, k7, k8, k9, k10, k11, k12⟩ := hW1.cells hi h.out; obtain ⟨l0, l1, l2, l3, l4, l5, l6, l7, l8, l9, l10, l11, l12⟩ := hW1.cells hj hy.out; have hg1 := hW1.gl; have hg2 : g < w1.heap.size + 1 := (by omega); have hs := Bx.mk ((f_new w1 s 244 rfl).alloc (.cells (ndA ⟨4, 0, -1, -1, 0, p, q⟩) 149)); have hn := Bx.mk (nd_row (w1.alloc (.cells (fdA s) 244)) ⟨4, 0, -1, -1, 0, p, q⟩ (H := w1.heap.size + 1) (by simp)); have hz := Bx.mk ((hz.out.alloc (.cells (fdA s) 244)).alloc (.cells (ndA ⟨4, 0, -1, -1, 0, p, q⟩) 149)); clear hf hW1)
    | (go_at_call 147; refine (hB.out _).mono ?_; clear hB; rintro e w2 ⟨rfl, hf⟩; have hz := Bx.mk (hf.row0 hz.out); have hs := Bx.mk (hf.row0 hs.out); have hfr := Bx.mk (hfr.out.trans hf); clear hf)
    | (go_at_call 139; refine (err_any _ _).mono ?_; rintro e w2 ⟨rfl, hf⟩; have hz := Bx.mk (hf.row0 hz.out); have hs := Bx.mk (hf.row0 hs.out); have hfr := Bx.mk ((hfr.out.trans hf).alloc (.cells (vA (vErr 2)) 92)); obtain ⟨s0, s1, s2, s3, s4, s5, s6, s7, s8⟩ := hs.out.f9; have hl1 := hs.out.lt; clear hf)
    | (go_at_call 246; refine (take_any _ _ (vErr 2) _ _ hS1 hS2 lv hC1 hC2).mono (FV.letter ?_); rintro r hx e w3 ⟨rfl, hf⟩; have hz3 := Bx.mk (hf.row0 (hz.out.alloc _)); obtain ⟨q0, q1, q2, q3, q4, q5, q6, q7, q8⟩ := hz3.out.f9; obtain ⟨qq0, qq1, qq2, qq3, qq4, qq5, qq6, qq7, qq8⟩ := hz3.out.z9))
  exact ret_fs (x := r) (p := 8) rfl rfl rfl hz3.out (hfr.out.trans hf) (Nat.le_refl _) hx.out.symm
end Go.Proofs.Qxb6500326aGreat
