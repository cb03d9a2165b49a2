import Derived.Test.Qxb6500326aGreatR3
namespace Go.Proofs.Qxb6500326aGreat
set_option maxRecDepth 100000
set_option linter.unusedVariables false
set_option linter.unusedSimpArgs false
open Go.RowKit Go.PlainAid

set_option maxHeartbeats 4000000 in
theorem shutV (V : VB) (fb : Nat) (E : Evr) (n : Nat) (t : Tl) (f : Int) (w : World) (h : EM w V fb E) (hd : E.deep = n + 1) (hn : n < 24) (hft : E.fol n = t) :
    Calls Tryz.prog 242 #[pt V.e, I f] w (Lv w V fb (vV (shutT f t)) { E with deep := n }) := by
  obtain ⟨-, -, -, -, -, -, -, c7, c8⟩ := h.ev9
  rw [hd] at c8
  obtain ⟨l1, l2, l3, l4, l5⟩ := h.lts
  obtain ⟨t0, t1, t2, t3, t4⟩ := h.fol5 hn hft
  obtain ⟨z0, z1, z2, z3, z4⟩ := h.fol5z n
  have hw1 : IntKind.i64.wrap (((n + 1 : Nat) : Int) - 1) = (n : Int) := by simp [IntKind.wrap, IntKind.bits, IntKind.signed]; omega
  have y8 := h.row.frozen 8
  have het := h.ok.et
  have hS := Bx.mk (h.set (E' := { E with deep := n }) 8 (I (n : Int)) (by intro i hi; rcases i with _ | _ | _ | _ | _ | _ | _ | _ | _ | i <;> first | rfl | omega) rfl rfl rfl rfl)
  have hA := Bx.mk ((((h.set (E' := { E with deep := n }) 8 (I (n : Int)) (by intro i hi; rcases i with _ | _ | _ | _ | _ | _ | _ | _ | _ | i <;> first | rfl | omega) rfl rfl rfl rfl).alloc (.cells #[I 0, I 0, .string es] 92)).alloc (.cells (tlA t) 249)).drew)
  have hF : Bx (Fr (VS V) w (((w.setCell ⟨V.e, 8, none⟩ (I (n : Int))).alloc (.cells #[I 0, I 0, .string es] 92)).alloc (.cells (tlA t) 249)).drew) := ⟨(((fr_set w VS.e 8 _).alloc _).alloc _).drew⟩
  have hz := Bx.mk (((v_zero (w.setCell ⟨V.e, 8, none⟩ (I (n : Int))) 92 (H := w.heap.size) (by simp)).alloc (.cells (tlA t) 249)).drew)
  have hfin : Bx (∀ (w1 : World) (x : Vl), EM w1 V fb { E with deep := n } → Fr (VS V) w w1 → EM (sets w1 w.heap.size 0 (vA x).toList) V fb { E with deep := n } ∧ Fr (VS V) w (sets w1 w.heap.size 0 (vA x).toList)) := ⟨fun w1 x hA hF => ⟨hA.fr (sets_fr (S := fun k => k = w.heap.size) (.inl rfl) (vA x).toList w1 0 (Fr.refl _ _)) (fun k hk e => by subst e; exact h.ne (Nat.le_refl _) hk), sets_fr (S := VS V) (a := w) (b := w.heap.size) (.inr (Nat.le_refl _)) (vA x).toList w1 0 hF⟩⟩
  clear h hd hft
  cases h4 : (t.bad.kind == 4)
  · cases o1 : (f == 1) <;> cases o2 : (f == 2) <;> cases o3 : (f == 3) <;> cases o4 : (f == 4)
    all_goals first | (exfalso; simp at o1 o2 o3 o4; omega) | skip
    all_goals go_enter Tryz.func242, Tryz.ntmps242
    all_goals go_wp2_with fail
    all_goals go_region
    all_goals go_wp2_with (first
      | (go_at_call 245; refine (num_any _ _).mono (VR.letter ?_); rintro r hx e w1 ⟨rfl, hf⟩; have hz1 := Bx.mk (hf.row0 hz.out); have hA1 := Bx.mk (hA.out.fr0 hf); have hF1 := Bx.mk (hF.out.trans hf.up); obtain ⟨c0, c1, c2, y0, y1, y2⟩ := hz1.out.v3)
      | (go_at_call 208; refine (int_any _ _).mono (VR.letter ?_); rintro r hx e w1 ⟨rfl, hf⟩; have hz1 := Bx.mk (hf.row0 hz.out); have hA1 := Bx.mk (hA.out.fr0 hf); have hF1 := Bx.mk (hF.out.trans hf.up); obtain ⟨c0, c1, c2, y0, y1, y2⟩ := hz1.out.v3)
      | (go_at_call 244; refine (bool_any _ _).mono (VR.letter ?_); rintro r hx e w1 ⟨rfl, hf⟩; have hz1 := Bx.mk (hf.row0 hz.out); have hA1 := Bx.mk (hA.out.fr0 hf); have hF1 := Bx.mk (hF.out.trans hf.up); obtain ⟨c0, c1, c2, y0, y1, y2⟩ := hz1.out.v3))
    all_goals (refine ret_v (p := 4) (g := w.heap.size) (x := r) rfl rfl (v_sets hz1.out r) rfl ⟨?_, hfin.out _ _ hA1.out hF1.out⟩; rw [← hx.out]; simp [shutT, *])
  · go_enter Tryz.func242, Tryz.ntmps242
    go_wp2_with fail
    go_region
    go_wp2
    exact ret_v (p := 4) (g := w.heap.size) (x := t.bad) rfl rfl (((v_new (w.setCell ⟨V.e, 8, none⟩ (I (n : Int))) t.bad 92 (H := w.heap.size) (by simp)).alloc _).drew) rfl ⟨by simp [shutT, h4], ((hS.out.alloc _).alloc _).drew, (((fr_set w VS.e 8 _).alloc _).alloc _).drew⟩
end Go.Proofs.Qxb6500326aGreat
