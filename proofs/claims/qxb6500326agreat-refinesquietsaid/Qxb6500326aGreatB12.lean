import Derived.Test.Qxb6500326aGreatB6
import Derived.Test.Qxb6500326aGreatB10
namespace Go.Proofs.Qxb6500326aGreat
set_option maxRecDepth 100000
set_option linter.unusedVariables false
set_option linter.unusedSimpArgs false
open Go.RowKit Go.PlainAid

set_option maxHeartbeats 4000000 in
theorem worth_one {g eb : Nat} {L : List Nd} {env : Nat → Vl} {i : Nat} (hi : i < L.length) {a j : Nat} {op k : Int} {v : Vl} (ha : a < L.length) (ho : op = 8 ∨ op = 9 ∨ op = 10) (h : nd L i = ⟨8, op, (a : Int), -1, k, rz, rz⟩) (h1 : nd L a = ⟨9, 0, (j : Int), -1, 0, rz, rz⟩) (lv : Lw v) (ih : WOK g eb L env j v) : WOK g eb L env i (unaryP op v) := by
  intro w cap ecap hW
  obtain ⟨c0, c1, c2, c3, c4, c5, c6, c7, c8, c9, c10, c11, c12⟩ := hW.cells hi h
  have hgl := hW.gl
  have hel := hW.el
  have hz := Bx.mk ((v_zero w 92 rfl).alloc (.cells (ndA ⟨8, op, (a : Int), -1, k, rz, rz⟩) 149))
  have hn := Bx.mk (nd_row (w.alloc (.cells #[I 0, I 0, .string es] 92)) ⟨8, op, (a : Int), -1, k, rz, rz⟩ (H := w.heap.size + 1) (by simp))
  have hfr := Bx.mk (((Fr.refl S0 w).alloc (.cells #[I 0, I 0, .string es] 92)).alloc (.cells (ndA ⟨8, op, (a : Int), -1, k, rz, rz⟩) 149))
  obtain ⟨a0, a1, a2, a3, a4, a5, a6, a7, a8, a9, a10, a11, a12⟩ := hW.cells ha h1
  have ho5 : (op == 5) = false := by rcases ho with e | e | e <;> subst e <;> rfl
  have hA : Bx (∀ w', Fr S0 w w' → Calls Tryz.prog 209 #[sl g L.length cap, I ((j : Nat) : Int), sl eb 24 ecap] w' (VR w' v)) := ⟨fun w' f => ih w' cap ecap (hW.fr f)⟩
  clear ih h1
  cases o8 : (op == 8) <;> cases o9 : (op == 9) <;> cases o10 : (op == 10)
  · exfalso; rcases ho with e | e | e <;> subst e <;> simp at o8 o9 o10
  all_goals clear ho
  all_goals clear hW h
  all_goals go_enter Tryz.func209, Tryz.ntmps209
  all_goals go_wp2_with (first
    | (go_at_call 209; refine (hA.out _ hfr.out).mono ?_; clear hA; rintro e w1 ⟨rfl, hf⟩; have hz := Bx.mk (hf.row0 hz.out); have hn := Bx.mk (hf.row0 hn.out);  have hfr := Bx.mk ((hfr.out.trans hf).alloc (.cells (vA v) 92)); obtain ⟨q0, q1, q2, qq0, qq1, qq2⟩ := hz.out.v3; obtain ⟨n0, n1, n2, n3, n4, n5, n6, n7, n8, n9, n10, n11, n12⟩ := RowNd hn.out; have hl1 := hz.out.lt; have hl2 := hn.out.lt; clear hf)
    | (go_at_call 229; refine (unaryM_any _ _ _ lv).mono (VR.letter ?_); rintro r hx e wr ⟨rfl, hf⟩; have hz2 := Bx.mk (hf.row0 (hz.out.alloc _)); obtain ⟨q0, q1, q2, qq0, qq1, qq2⟩ := hz2.out.v3))
  all_goals exact ret_vs (x := r) (p := 6) rfl rfl rfl hz2.out ((hfr.out).trans hf) (Nat.le_refl _) hx.out.symm
set_option maxHeartbeats 4000000 in
theorem worth_fold {g eb : Nat} {L : List Nd} {env : Nat → Vl} {i : Nat} (hi : i < L.length) {a : Int} {op k : Int} {m : Nat} {s : Fd} (ho : op = 1 ∨ op = 2 ∨ op = 3 ∨ op = 4 ∨ op = 6 ∨ op = 7) (h : nd L i = ⟨8, op, a, -1, k, rz, rz⟩) (ih : FOK g eb L env op a s) : WOK g eb L env i (foldedM s op) := by
  intro w cap ecap hW
  obtain ⟨c0, c1, c2, c3, c4, c5, c6, c7, c8, c9, c10, c11, c12⟩ := hW.cells hi h
  have hgl := hW.gl
  have hel := hW.el
  have hz := Bx.mk ((v_zero w 92 rfl).alloc (.cells (ndA ⟨8, op, a, -1, k, rz, rz⟩) 149))
  have hn := Bx.mk (nd_row (w.alloc (.cells #[I 0, I 0, .string es] 92)) ⟨8, op, a, -1, k, rz, rz⟩ (H := w.heap.size + 1) (by simp))
  have hfr := Bx.mk (((Fr.refl S0 w).alloc (.cells #[I 0, I 0, .string es] 92)).alloc (.cells (ndA ⟨8, op, a, -1, k, rz, rz⟩) 149))
  have ho' : (op == 5) = false ∧ (op == 8) = false ∧ (op == 9) = false ∧ (op == 10) = false := by rcases ho with e | e | e | e | e | e <;> subst e <;> exact ⟨rfl, rfl, rfl, rfl⟩
  obtain ⟨o5, o8, o9, o10⟩ := ho'
  have hA : Bx (∀ w', Fr S0 w w' → Calls Tryz.prog 232 #[sl g L.length cap, I a, I op, sl eb 24 ecap] w' (FV w' s)) := ⟨fun w' f => ih w' cap ecap (hW.fr f)⟩
  clear ih ho
  clear hW h
  go_enter Tryz.func209, Tryz.ntmps209
  go_wp2_with (first
    | (go_at_call 232; refine (hA.out _ hfr.out).mono ?_; clear hA; rintro e w1 ⟨rfl, hf⟩; have hz := Bx.mk (hf.row0 hz.out); have hn := Bx.mk (hf.row0 hn.out);  have hfr := Bx.mk ((hfr.out.trans hf).alloc (.cells (fdA s) 244)); obtain ⟨q0, q1, q2, qq0, qq1, qq2⟩ := hz.out.v3; obtain ⟨n0, n1, n2, n3, n4, n5, n6, n7, n8, n9, n10, n11, n12⟩ := RowNd hn.out; have hl1 := hz.out.lt; have hl2 := hn.out.lt; clear hf)
    | (go_at_call 233; refine (folded_any _ _ _).mono (VR.letter ?_); rintro r hx e wr ⟨rfl, hf⟩; have hz2 := Bx.mk (hf.row0 (hz.out.alloc _)); obtain ⟨q0, q1, q2, qq0, qq1, qq2⟩ := hz2.out.v3))
  exact ret_vs (x := r) (p := 6) rfl rfl rfl hz2.out ((hfr.out).trans hf) (Nat.le_refl _) hx.out.symm
end Go.Proofs.Qxb6500326aGreat
