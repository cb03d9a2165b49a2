import Derived.Test.Qxb6500326aGreatD5
namespace Go.Proofs.Qxb6500326aGreat
set_option maxRecDepth 100000
set_option linter.unusedVariables false
set_option linter.unusedSimpArgs false
open Go.RowKit Go.PlainAid

set_option maxHeartbeats 8000000 in
theorem cellM_form (mb fb eb ec : Nat) (env : Nat → Vl) (s : ByteArray) (w : World) (hm : MEv w mb fb) (hs : s.size ≤ 40) (hGr : Grid w eb 24 3 (fun c => vC (env c))) (hem : eb ≠ mb) (hef : eb ≠ fb) (hok : LwE env) (hp : isForm s = true) (x : Vl) (hx : ((tlT s).err ≠ 0 ∧ x = vErr 1) ∨ ((tlT s).err = 0 ∧ TreeOK (tlT s) ∧ Wo (tlT s).nodes env ((tlT s).nodes.length - 1) x)) : Calls Tryz.prog 141 #[pt mb, .string s, sl eb 24 ec] w (fun e w' => e = .returned (.tuple #[vV x, I 0]) ∧ MEv w' mb fb ∧ Fr (MeS mb fb) w w') := by
  obtain ⟨⟨c, r, hrow⟩, hmf, hne⟩ := hm
  have c0 := hrow.cell 0 (by omega)
  have c1 := hrow.cell 1 (by omega)
  have z1 := hrow.frozen 1
  simp only [meC] at c0 c1
  have hlt := hrow.lt
  have hme : ∀ v, Row (w.setCell ⟨mb, 1, none⟩ (I v)) mb 3 (meC fb v r) := fun v => (hrow.set 1 (I v)).congr (by intro i hi; rcases i with _ | _ | _ | i <;> first | rfl | omega)
  have hf0 : ∀ v, Fr (MeS mb fb) w (w.setCell ⟨mb, 1, none⟩ (I v)) := fun v => (Fr.refl (MeS mb fb) w).setCell (p := ⟨mb, 1, none⟩) (.inl (.inl rfl)) _
  have hmf0 : ∀ v, MF (w.setCell ⟨mb, 1, none⟩ (I v)) fb := fun v => hmf.fr (S := fun k => k = mb) ((Fr.refl (fun k => k = mb) w).setCell (p := ⟨mb, 1, none⟩) (.inl rfl) _) (fun e => hne e.symm)
  have hme := Bx.mk hme
  have hf0 := Bx.mk hf0
  have hmf0 := Bx.mk hmf0
  have hfl : fb < w.heap.size := by obtain ⟨_, _, _, h⟩ := hmf; exact h.lt
  clear hrow hmf
  have hsd : decide (40 < (s.size : Int)) = false := by simp; omega
  have hGr := Bx.mk hGr
  have hok := Bx.mk hok
  have he : (s.toList == []) = false := by simp only [isForm, Bool.and_eq_true, Bool.not_eq_true'] at hp; exact hp.1
  have h61 : (bt s 0 != 61) = false := by simp only [isForm, Bool.and_eq_true] at hp; simpa [bne] using hp.2
  have hpos := size_pos he
  have hb := get_bt s 0 hpos
  have hP : Bx (∀ w, MF w fb → Calls Tryz.prog 109 #[pt fb, .string (s.extract 1 s.size)] w fun e w' => ∃ v', e = .returned (treeV v' (tlT s)) ∧ XL w' w.heap.size v' (tlT s).nodes ∧ MF w' fb ∧ Fr (fun k => k = fb) w w') := ⟨fun w h => parseM_any fb (tlS s) w h⟩
  have hx := Bx.mk hx
  generalize tlT s = t at hP hx
  clear hp
  have ht0 : Bx (t.err = 0 → t.nodes ≠ []) := ⟨fun h e => by
    rcases hx.out with ⟨h2, -⟩ | ⟨-, h2, -⟩
    · exact h2 h
    · have := h2.one; rw [e] at this; simp at this⟩
  go_enter Tryz.func141, Tryz.ntmps141
  go_wp2_with fail
  go_loopw [8] (fun c wr => ∃ k : Nat, k ≤ 24 ∧ c = I (k : Int) ∧ Bx (∀ j, j < k → lawB (env j) = true) ∧ Bx (Row wr w.heap.size 3 (vC v0)) ∧ Bx (MEv wr mb fb) ∧ Bx (Fr (MeS mb fb) w wr) ∧ Bx (Grid wr eb 24 3 (fun c => vC (env c)))) (fun c _ => 24 - (intOf c).toNat)
  case atStart => exact ⟨0, by omega, rfl, ⟨fun j hj => by omega⟩, ⟨v_zero _ 92 (by simp)⟩, ⟨⟨⟨_, r, (hme.out _).alloc _⟩, (hmf0.out _).fr (S := S0) ((Fr.refl S0 _).alloc _) (by simp), hne⟩⟩, ⟨(hf0.out _).alloc _⟩, ⟨(hGr.out.of (S := fun k => k = mb) ((Fr.refl (fun k => k = mb) w).setCell (p := ⟨mb, 1, none⟩) (.inl rfl) _) (fun e => hem e)).of (S := S0) ((Fr.refl S0 _).alloc _) (by simp)⟩⟩
  case round =>
    clear hme hf0 hmf0 hGr c0 c1 z1
    obtain ⟨k, hk, rfl, hall, hZ, hM, hF, hG⟩ := hrel
    obtain ⟨q0, q1, q2, qq0, qq1, qq2⟩ := hZ.out.v3
    cases hlt : decide ((k : Int) < 24)
    · clear hall hk
      have hmfD : Bx (MF wr.drew fb) := ⟨hM.out.mf⟩
      have hmfA : Bx (∀ o, MF (wr.alloc o).drew fb) := ⟨fun o => hM.out.mf.fr (S := S0) ((Fr.refl S0 _).alloc _).drew (by simp)⟩
      have hfD : Bx (Fr (fun k => k = fb) wr wr.drew) := ⟨(Fr.refl _ _).drew⟩
      have hfA : Bx (∀ o, Fr (fun k => k = fb) wr (wr.alloc o).drew) := ⟨fun o => ((Fr.refl _ _).alloc o).drew⟩
      have hTA : Bx (Row (wr.alloc (.cells (trA (.slice none 0 0) ⟨[], 0, 0, 0⟩) 105)).drew wr.heap.size 4 (tvC (.slice none 0 0) ⟨[], 0, 0, 0⟩)) := ⟨(tv_new _ _ _ _ rfl).drew⟩
      obtain ⟨mc, mr, hmrow⟩ := hM.out.row
      have m0 := hmrow.cell 0 (by omega)
      simp only [meC] at m0
      have hml := hmrow.lt
      have hfw : fb < wr.heap.size := Nat.lt_of_lt_of_le hfl hF.out.size
      clear hmrow
      go_upto_region 13 with fail
      go_cut [9] from 45 (fun c wx => ∃ (H : Nat) (v' : Value), c = pt H ∧ Bx (Row wx H 4 (tvC v' t)) ∧ Bx (t.err = 0 → ∃ g, v' = sl g t.nodes.length t.nodes.length ∧ NG wx g t.nodes) ∧ Bx (MF wx fb) ∧ Bx (Fr (fun k => k = fb) wr wx))
      case first =>
        go_region_with (first
          | (go_at_call 109; refine (hP.out _ hmfD.out).mono ?_; rintro e w2 ⟨v', rfl, hX, hM2, hf2⟩; obtain ⟨sa, sn, sc, rfl⟩ := hX.slice; have hX := Bx.mk hX; have hM2 := Bx.mk hM2; have hf2 := Bx.mk hf2)
          | (go_at_call 109; refine (hP.out _ (hmfA.out _)).mono ?_; rintro e w2 ⟨v', rfl, hX, hM2, hf2⟩; obtain ⟨sa, sn, sc, rfl⟩ := hX.slice; have hX := hX.le (B' := wr.heap.size + 1) (by simp); have hT2 := Bx.mk (hf2.row hTA.out (by show ¬ wr.heap.size = fb; omega)); obtain ⟨x0, x1, x2, x3⟩ := hT2.out.tr4; have y0 := hT2.out.frozen 0; have y1 := hT2.out.frozen 1; have y2 := hT2.out.frozen 2; have y3 := hT2.out.frozen 3; have hX := Bx.mk hX; have hM2 := Bx.mk hM2; have hf2 := Bx.mk hf2))
        all_goals (first | go_wp2_with fail | skip)
        all_goals go_meet
        all_goals first
          | (have hT9 := hT2.out
             have hfin := parsed_B2 (w2 := w2) (t := t) (v' := .slice sa sn sc) hf2.out hX.out hM2.out ht0.out (Nat.lt_succ_self _) (Nat.le_refl _) hfw (hfA.out _) hT9
             exact ⟨wr.heap.size, .slice sa sn sc, rfl, hfin⟩)
          | (have hfin := parsed_A2 (w2 := w2) (t := t) (v' := .slice sa sn sc) hf2.out hX.out hM2.out ht0.out hfD.out
             exact ⟨w2.heap.size, .slice sa sn sc, rfl, hfin⟩)
      case rest =>
      clear hP hmfD hmfA hfD hfA hTA m0 hml
      obtain ⟨H, v', rfl, hT, hGn, hMf, hFf⟩ := hcut
      obtain ⟨x0, x1, x2, x3⟩ := hT.out.tr4
      have hZ := Bx.mk (hFf.out.row hZ.out (by show ¬ w.heap.size = fb; omega))
      have hG := Bx.mk (hG.out.of hFf.out hef)
      have hM : Bx (MEv wc mb fb) := ⟨by obtain ⟨a1, a2, h⟩ := hM.out.row; exact ⟨⟨a1, a2, hFf.out.row h hne⟩, hMf.out, hne⟩⟩
      have hF := Bx.mk (hF.out.trans (hFf.out.mono (S' := MeS mb fb) (fun k hk => .inr hk)))
      obtain ⟨q0, q1, q2, qq0, qq1, qq2⟩ := hZ.out.v3
      cases hE : (t.err != 0)
      · have he0 : t.err = 0 := by simpa [bne] using hE
        obtain ⟨g, rfl, hN⟩ := hGn.out he0
        obtain ⟨hTo, hWo⟩ : TreeOK t ∧ Wo t.nodes env (t.nodes.length - 1) x := by
          rcases hx.out with ⟨h2, -⟩ | ⟨-, h2, h3⟩
          · exact (h2 he0).elim
          · exact ⟨h2, h3⟩
        have hEv : Bx (Calls Tryz.prog 170 #[treeV (sl g t.nodes.length t.nodes.length) t, sl eb 24 ec] wc (VR wc x)) := ⟨eval_any wc (i := t.nodes.length - 1) (by have := hTo.root; have := hTo.one; omega) (hN.wm hG.out) (worth_all hok.out hWo)⟩
        clear hGn hN he0 hTo hWo
        go_wp2_with (first | (go_at_call 170; refine (hEv.out).mono ?_; rintro e w1 ⟨rfl, hf⟩; have hZ2 := Bx.mk (hf.row0 hZ.out); have hM2 := Bx.mk (hM.out.fr hf (by simp) (by simp)); have hF2 := Bx.mk (hF.out.trans hf.up); obtain ⟨q0, q1, q2, qq0, qq1, qq2⟩ := hZ2.out.v3; clear hf))
        refine ret_ve (p := 6) (q := 7) (g := w.heap.size) (x := x) rfl rfl rfl (v_sets hZ2.out x) rfl ⟨rfl, hM2.out.fr (S := fun k => k = w.heap.size) (sets_fr (S := fun k => k = w.heap.size) (.inl rfl) (vA x).toList w1 0 (Fr.refl _ _)) (by show ¬ mb = w.heap.size; omega) (by show ¬ fb = w.heap.size; omega), sets_fr (S := MeS mb fb) (a := w) (b := w.heap.size) (.inr (Nat.le_refl _)) (vA x).toList w1 0 hF2.out⟩
      · have hxe : Bx (x = vErr 1) := ⟨by
          rcases hx.out with ⟨-, h2⟩ | ⟨h2, -⟩
          · exact h2
          · rw [h2] at hE; simp at hE⟩
        obtain rfl : x = vErr 1 := hxe.out
        go_wp2_with (first | (go_at_call 139; refine (err_any _ _).mono ?_; rintro e w1 ⟨rfl, hf⟩; have hZ2 := Bx.mk (hf.row0 hZ.out); have hM2 := Bx.mk (hM.out.fr hf (by simp) (by simp)); have hF2 := Bx.mk (hF.out.trans hf.up); obtain ⟨q0, q1, q2, qq0, qq1, qq2⟩ := hZ2.out.v3; clear hf))
        refine ret_ve (p := 6) (q := 7) (g := w.heap.size) (x := (vErr 1)) rfl rfl rfl (v_sets hZ2.out (vErr 1)) rfl ⟨rfl, hM2.out.fr (S := fun k => k = w.heap.size) (sets_fr (S := fun k => k = w.heap.size) (.inl rfl) (vA (vErr 1)).toList w1 0 (Fr.refl _ _)) (by show ¬ mb = w.heap.size; omega) (by show ¬ fb = w.heap.size; omega), sets_fr (S := MeS mb fb) (a := w) (b := w.heap.size) (.inr (Nat.le_refl _)) (vA (vErr 1)).toList w1 0 hF2.out⟩
    · have hk24 : k < 24 := by simp at hlt; omega
      have g0 := hG.out.cell0 k hk24 (by omega)
      have g1 := hG.out.cell k 1 hk24 (by omega)
      have g2 := hG.out.cell k 2 hk24 (by omega)
      simp only [vC] at g0 g1 g2
      have hLf : Bx (∀ w, Calls Tryz.prog 168 #[vV (env k)] w fun e w' => e = .returned (.bool (lawB (env k))) ∧ Fr S0 w w') := ⟨fun w => lawful_any (env k) w⟩
      rw [(lawB_iff _).2 (hok.out k hk24)] at hLf
      go_wp2_with (first | (go_at_call 168; refine (hLf.out _).mono ?_; clear hLf; rintro e w1 ⟨rfl, hf⟩; have hZ := Bx.mk (hf.row0 hZ.out); have hM := Bx.mk (hM.out.fr hf (by simp) (by simp)); have hF := Bx.mk (hF.out.trans hf.up); have hG := Bx.mk (hG.out.of hf (by simp)); obtain ⟨q0, q1, q2, qq0, qq1, qq2⟩ := hZ.out.v3; clear hf))
      go_roundw
      case rel => exact ⟨k + 1, by omega, rfl, ⟨fun j hj => (lawB_iff _).2 (hok.out j (by omega))⟩, hZ, hM, hF, hG⟩
      case measure => simp [intOf]; omega
end Go.Proofs.Qxb6500326aGreat
