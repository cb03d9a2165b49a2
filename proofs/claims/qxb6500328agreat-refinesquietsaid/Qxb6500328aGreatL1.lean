import Derived.Test.Qxb6500328aGreatO17
namespace Go.Proofs.Qxb6500328aGreat
set_option maxRecDepth 100000
set_option linter.unusedVariables false
set_option linter.unusedSimpArgs false
open Go.RowKit Go.PlainAid
attribute [local go_sem] bv_and bv_or bv_eq_zero bv_ne_zero bv_ne bv_eq bv_andNot

/-! ### the law's own tools -/
set_option maxHeartbeats 1000000 in
theorem readsL_any (s : ByteArray) (w : World) : Calls Tryz.prog 72 #[.string s] w fun e w' => e = .returned (U (readsP s).1) ∧ Fr S0 w w' := by
  have h2 : Bx (∀ mb fb wx, MEv wx mb fb → Calls Tryz.prog 99 #[pt mb, .string s] wx fun e w'' => e = .returned (.tuple #[U (readsP s).1, I (readsP s).2]) ∧ MEv w'' mb fb ∧ Fr (MeS mb fb) wx w'') := ⟨fun mb fb wx h => readsM_any mb fb s wx h⟩
  generalize readsP s = r at *
  obtain ⟨r1, r2⟩ := r
  go_enter Tryz.func72, Tryz.ntmps72
  go_wp2_with (first
    | (go_at_call 44; refine (meNew_any _).mono ?_; rintro e w1 ⟨mb, fb, rfl, hm, hf, hM⟩; have hm := Bx.mk hm; have hf := Bx.mk hf; have hM := Bx.mk hM)
    | (go_at_call 99; refine (h2.out mb fb _ hm.out).mono ?_; clear h2; rintro e w2 ⟨rfl, -, hf2⟩; have hf2 := Bx.mk (hf.out.step hf2 (fun k hk => .inr (hM.out k hk).1))))
  go_ret
  exact ⟨rfl, hf2.out⟩
/-- A fresh former reads. -/
theorem parseN (s : ByteArray) : ∀ (w w1 : World), MF w1 w.heap.size → Fr S0 w w1 → Calls Tryz.prog 77 #[pt w.heap.size, .string (s.extract 1 s.size)] w1 fun e w' => ∃ v', e = .returned (treeV v' (tlT s)) ∧ XL w' w1.heap.size v' (tlT s).nodes ∧ MF w' w.heap.size ∧ Fr S0 w w' := fun w w1 h hf =>
  (parseM_any w.heap.size (tlS s) w1 h).mono (by
    rintro e w' ⟨v', he, hX, hM, hf2⟩
    exact ⟨v', he, hX, hM, hf.step hf2 (fun k hk => .inr (by rw [show k = w.heap.size from hk]; exact Nat.le_refl _))⟩)
set_option maxHeartbeats 2000000 in
theorem formula_any (s : ByteArray) (w : World) : Calls Tryz.prog 48 #[.string s] w fun e w' => e = .returned (.bool (frm s)) ∧ Fr S0 w w' := by
  cases hp : isForm s
  · have hfrm : frm s = false := by unfold frm; rw [hp]; rfl
    rw [hfrm]
    cases he : (s.toList == [])
    · have h61 : (bt s 0 != 61) = true := by simp only [isForm, he] at hp; simpa [bne] using hp
      have hpos := size_pos he
      have hb := get_bt s 0 hpos
      have hl0 : ((s.size : Int) == 0) = false := beq_false_of_ne (by omega)
      go_enter Tryz.func48, Tryz.ntmps48
      go_wp2
      go_ret
      exact ⟨rfl, Fr.refl _ _⟩
    · have hs0 : s.size = 0 := by
        have : s.toList = [] := by simpa using he
        have := congrArg List.length this
        simpa [ByteArray.toList_eq] using this
      have hl0 : ((s.size : Int) == 0) = true := by rw [hs0]; rfl
      have hs0 := Bx.mk hs0
      go_enter Tryz.func48, Tryz.ntmps48
      go_wp2
      go_ret
      exact ⟨rfl, Fr.refl _ _⟩
  · have hfrm : frm s = ((tlT s).err == 0) := by unfold frm; rw [hp]; rfl
    rw [hfrm]
    have he : (s.toList == []) = false := by simp only [isForm, Bool.and_eq_true, Bool.not_eq_true'] at hp; exact hp.1
    have h61 : (bt s 0 != 61) = false := by simp only [isForm, Bool.and_eq_true] at hp; simpa [bne] using hp.2
    have hpos := size_pos he
    have hb := get_bt s 0 hpos
    have hl0 : ((s.size : Int) == 0) = false := beq_false_of_ne (by omega)
    have hP := Bx.mk (parseN s w)
    clear hfrm
    generalize tlT s = t at *
    go_enter Tryz.func48, Tryz.ntmps48
    go_wp2_with (first
      | (go_at_call 21; refine (mnew_any _).mono ?_; rintro e w1 ⟨rfl, hm, hf, -⟩; have hm := Bx.mk hm; have hf := Bx.mk hf)
      | (go_at_call 77; refine (hP.out _ hm.out hf.out).mono ?_; clear hP; rintro e w2 ⟨v', rfl, hX, -, hf2⟩; obtain ⟨sa, sn, sc, rfl⟩ := hX.slice; have hf2 := Bx.mk (hf2.alloc (.cells (trA (.slice sa sn sc) t) 111)); clear hX))
    go_ret
    exact ⟨rfl, hf2.out⟩
set_option maxHeartbeats 2000000 in
theorem canonical_any (s : ByteArray) (w : World) (hc : canonB s) : Calls Tryz.prog 74 #[.string s] w fun e w' => e = .returned (.bool true) ∧ Fr S0 w w' := by
  have hF := Bx.mk (formula_any s w)
  cases hfrm : frm s
  · rw [hfrm] at hF
    go_enter Tryz.func74, Tryz.ntmps74
    go_wp2_with (first
      | (go_at_call 48; refine hF.out.mono ?_; clear hF; rintro e w1 ⟨rfl, hf⟩; have hf := Bx.mk hf))
    go_ret
    exact ⟨rfl, hf.out⟩
  · rw [hfrm] at hF
    have hpos : 0 < s.size := by
      have := (frm_iff.1 hfrm).1
      unfold isForm at this
      rw [Bool.and_eq_true] at this
      exact size_pos (by simpa using this.1)
    have hto := (frm_tree hfrm).1
    have hcs := hc hfrm
    have hP := Bx.mk (fun w => parseN s w)
    obtain ⟨n, hn⟩ : ∃ n, (tlT s).nodes.length = n := ⟨_, rfl⟩
    have hag : Bx (∀ w B v, XL w B v (tlT s).nodes → ∃ g, B ≤ g ∧ v = sl g n n ∧ AG w g n (nd (tlT s).nodes) ∧ XL w g (sl g n n) (tlT s).nodes) := ⟨fun w B v h => by
      obtain ⟨g, hg, e, hA⟩ := h.ag hto.ne
      rw [hn] at e hA
      exact ⟨g, hg, e, hA, AG.xl hA hn (fun j hj => rfl) hto.ne⟩⟩
    have hPr : Bx (∀ (fb g : Nat) wx, g ≠ fb → MF wx fb → XL wx g (sl g n n) (tlT s).nodes → Calls Tryz.prog 94 #[pt fb, treeV (sl g n n) (tlT s)] wx fun e w' => e = .returned (.tuple #[.string (bs (printOf (tlT s))), I 0]) ∧ MF w' fb ∧ Fr (fun k => k = fb) wx w') := ⟨fun fb g wx hg hm hX => printM_ok hto hn hg wx hm hX⟩
    have hlen := print_len' hto
    have hcs : Bx (bs ([61] ++ printOf (tlT s)) = s) := ⟨hcs⟩
    clear hto hn hc
    generalize printOf (tlT s) = L at *
    generalize tlT s = t at *
    go_enter Tryz.func74, Tryz.ntmps74
    go_wp2_with (first
      | (go_at_call 48; refine hF.out.mono ?_; clear hF; rintro e w1 ⟨rfl, hf⟩; have hf := Bx.mk hf)
      | (go_at_call 21; refine (mnew_any _).mono ?_; rintro e w2 ⟨rfl, hm, hf2, -⟩; have hm := Bx.mk hm; have hf2 := Bx.mk hf2)
      | (go_at_call 77; refine (hP.out _ _ hm.out hf2.out).mono ?_; clear hP; rintro e w3 ⟨v', rfl, hX, hm3, hf3⟩; obtain ⟨g, hg, rfl, -, hX3⟩ := hag.out _ _ _ hX; clear hag hX; have hgne : g ≠ w1.heap.size := (by have := hm.out; obtain ⟨_, _, _, h⟩ := this; have := h.lt; omega); have fa : Fr S0 w3 (w3.alloc (.cells (trA (sl g n n) t) 111)) := (Fr.refl S0 _).alloc _; have hX3 := Bx.mk (hX3.fr fa (fun _ _ _ e => e)); have hm3 := Bx.mk (hm3.fr fa (fun e => e)); have hf3 := Bx.mk (hf3.trans fa); have hT3 := Bx.mk (tv_new w3 (sl g n n) t 111 rfl); obtain ⟨x0, x1, x2, x3⟩ := hT3.out.tr4; clear fa)
      | (go_at_call 94; refine (hPr.out _ g _ hgne hm3.out hX3.out).mono ?_; clear hPr; rintro e w4 ⟨rfl, -, hf4⟩; have hf4 := Bx.mk (hf3.out.step hf4 (fun k hk => .inr (by rw [show k = w1.heap.size from hk]; exact Nat.le_refl _))))
      | (refine wpList_add_str rfl (.const (.string ⟨#[61]⟩)) (.tmp 21) (by rfl) [61] L (by rfl) (by rfl) (by simp; omega) ?_; rw [hcs.out]))
    go_ret
    exact ⟨by simp, hf.out.trans hf4.out⟩
end Go.Proofs.Qxb6500328aGreat
