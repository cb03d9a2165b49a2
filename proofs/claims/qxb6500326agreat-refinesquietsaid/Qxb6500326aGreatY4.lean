import Derived.Test.Qxb6500326aGreatY2
namespace Go.Proofs.Qxb6500326aGreat
set_option maxRecDepth 100000
set_option linter.unusedVariables false
set_option linter.unusedSimpArgs false
open Go.RowKit Go.PlainAid
theorem nine {P : Nat → Prop} (h0 : P 0) (h1 : P 1) (h2 : P 2) (h3 : P 3) (h4 : P 4) (h5 : P 5) (h6 : P 6) (h7 : P 7) (h8 : P 8) : ∀ i, i < 9 → P i := by
  intro i hi
  have : i = 0 ∨ i = 1 ∨ i = 2 ∨ i = 3 ∨ i = 4 ∨ i = 5 ∨ i = 6 ∨ i = 7 ∨ i = 8 := by omega
  rcases this with e | e | e | e | e | e | e | e | e <;> subst e <;> assumption
abbrev numT (b : Nat → Int) (i0 i : Nat) : Tok := ⟨2, i0, i, 1, numVal b i0 (i - i0), rz⟩
theorem cellN_tk {w : World} {b : Nat} {t : Tok} (h : Row w b 9 (tkC t)) : cellN w ⟨b, 2, none⟩ = t.fin := by
  unfold cellN; rw [h.cell 2 (by omega)]; simp [tkC]
set_option maxRecDepth 100000 in
set_option maxHeartbeats 4000000 in
theorem scanNumber_any (s : ByteArray) (i0 : Nat) (w : World) (hs : s.size ≤ 40) (hi : i0 ≤ s.size) :
    Calls Tryz.prog 186 #[.string s, I i0] w fun e w' => e = .returned (tkV (lexNum (bt s) s.size i0)) ∧ Fr S0 w w' := by
  have hb := get_bt s
  go_enter Tryz.func186, Tryz.ntmps186
  go_wp2_with fail
  go_loopw [10] (fun _ wr => ∃ i : Nat, i0 ≤ i ∧ i ≤ s.size ∧ digEnd (bt s) s.size i = digEnd (bt s) s.size i0 ∧ (∀ j, i0 ≤ j → j < i → isDig (bt s j) = true) ∧ Row wr (w.heap.size + 1) 9 (tkC (numT (bt s) i0 i)) ∧ Row wr w.heap.size 9 (tkC tok0) ∧ Fr S0 w wr) (fun _ wr => s.size - cellN wr ⟨w.heap.size + 1, 2, none⟩)
  case atStart =>
    refine ⟨i0, Nat.le_refl _, hi, rfl, fun j a b => by omega, ?_, (tk_new w tok0 (H := w.heap.size) rfl).alloc _, ((Fr.refl _ _).alloc _).alloc _⟩
    unfold numT
    rw [Nat.sub_self]
    exact tk_new (w.alloc (.cells (tkA tok0) 213)) ⟨2, i0, i0, 1, 0, rz⟩ (H := w.heap.size + 1) (by simp)
  case round =>
    obtain ⟨i, g1, g2, g3, gd, hT, hz, hfr⟩ := hrel
    have c0 := hT.cell 0 (by omega)
    have c1 := hT.cell 1 (by omega)
    have c2 := hT.cell 2 (by omega)
    have c3 := hT.cell 3 (by omega)
    have c4 := hT.cell 4 (by omega)
    have c5 := hT.cell 5 (by omega)
    have c6 := hT.cell 6 (by omega)
    have c7 := hT.cell 7 (by omega)
    have c8 := hT.cell 8 (by omega)
    have z2 := hT.frozen 2
    have z4 := hT.frozen 4
    have z0 := hT.frozen 0
    simp only [tkC] at c0 c1 c2 c3 c4 c5 c6 c7 c8
    have hTb := Bx.mk hT
    have hcn : Bx (cellN wr ⟨w.heap.size + 1, 2, none⟩ = i) := Bx.mk (cellN_tk hT)
    have hexit : ¬ (i < s.size ∧ isDig (bt s i) = true) → Bx (digEnd (bt s) s.size i0 = i) := fun h => Bx.mk (g3.symm.trans (runF_fix2 h))
    by_cases hlt : i < s.size
    · have hd : decide ((i : Int) < (s.size : Int)) = true := decide_eq_true (by omega)
      have hcb1 := bt_nonneg s i
      have hcb2 := bt_le s i
      by_cases hdg : isDig (bt s i) = true
      · have hD : Bx (∀ wx, Calls Tryz.prog 185 #[Y (bt s i)] wx fun e w' => e = .returned (.bool true) ∧ wx = w') := Bx.mk (fun wx => by have := digit_any (bt s i) wx hcb1 hcb2; rw [hdg] at this; exact this)
        have hg3 : Bx (digEnd (bt s) s.size (i + 1) = digEnd (bt s) s.size i0) := Bx.mk ((runF_step hlt hdg).symm.trans g3)
        have gdB : Bx (∀ j, i0 ≤ j → j < i + 1 → isDig (bt s j) = true) := Bx.mk (fun j a b => by
          rcases Nat.lt_or_ge j i with h | h
          · exact gd j a h
          · rw [show j = i from by omega]; exact hdg)
        obtain ⟨e1, e2⟩ := isDig_iff.1 hdg
        have hzB := Bx.mk hz
        clear hdg g3 hT hz hexit
        by_cases h9 : i - i0 < 9
        · have t9 : decide ((i : Int) - (i0 : Int) < 9) = true := decide_eq_true (by omega)
          have hsm := numVal_small (b := bt s) (i := i0) h9 (fun j a b => gd j a (by omega))
          have hnv : numVal (bt s) i0 (i + 1 - i0) = numVal (bt s) i0 (i - i0) * 10 + (bt s i - 48) := by
            rw [show i + 1 - i0 = (i - i0) + 1 from by omega]
            simp only [numVal]
            rw [if_pos h9, show i0 + (i - i0) = i from by omega]
          have hT2 : Bx (Row (((wr.setCell ⟨w.heap.size + 1, 4, none⟩ (I (numVal (bt s) i0 (i - i0) * 10 + (bt s i - 48)))).setCell ⟨w.heap.size + 1, 2, none⟩ (I ((i : Int) + 1))).drew) (w.heap.size + 1) 9 (tkC (numT (bt s) i0 (i + 1)))) := Bx.mk ((((hTb.out.set 4 (I (numVal (bt s) i0 (i - i0) * 10 + (bt s i - 48)))).set 2 (I ((i : Int) + 1))).congr (us := tkC (numT (bt s) i0 (i + 1))) (nine rfl rfl rfl rfl (congrArg (Value.int .i64) hnv.symm) rfl rfl rfl rfl)).drew)
          clear h9 gd hnv
          generalize numVal (bt s) i0 (i - i0) = V at *
          obtain ⟨sm1, sm2⟩ := hsm
          go_wp2_with (first | (go_at_call 185; refine (hD.out _).mono ?_; rintro e w' ⟨rfl, rfl⟩))
          go_region
          go_wp2_with fail
          go_roundw
          case rel => exact ⟨i + 1, by omega, by omega, hg3.out, gdB.out, hT2.out, ((hzB.out.set_other (p := ⟨w.heap.size + 1, 4, none⟩) (by simp) _).set_other (p := ⟨w.heap.size + 1, 2, none⟩) (by simp) _).drew, ((hfr.setCell (p := ⟨w.heap.size + 1, 4, none⟩) (.inr (by simp)) _).setCell (p := ⟨w.heap.size + 1, 2, none⟩) (.inr (by simp)) _).drew⟩
          case measure =>
            rw [hcn.out, cellN_tk hT2.out]
            show s.size - (i + 1) < s.size - i
            omega
        · have t9 : decide ((i : Int) - (i0 : Int) < 9) = false := decide_eq_false (by omega)
          have hnv : numVal (bt s) i0 (i + 1 - i0) = numVal (bt s) i0 (i - i0) := by
            rw [show i + 1 - i0 = (i - i0) + 1 from by omega]
            simp only [numVal]
            rw [if_neg h9]
          have hT2 : Bx (Row (wr.setCell ⟨w.heap.size + 1, 2, none⟩ (I ((i : Int) + 1))) (w.heap.size + 1) 9 (tkC (numT (bt s) i0 (i + 1)))) := Bx.mk ((hTb.out.set 2 (I ((i : Int) + 1))).congr (us := tkC (numT (bt s) i0 (i + 1))) (nine rfl rfl rfl rfl (congrArg (Value.int .i64) hnv.symm) rfl rfl rfl rfl))
          clear h9 gd hnv
          generalize numVal (bt s) i0 (i - i0) = V at *
          go_wp2_with (first | (go_at_call 185; refine (hD.out _).mono ?_; rintro e w' ⟨rfl, rfl⟩))
          go_roundw
          case rel => exact ⟨i + 1, by omega, by omega, hg3.out, gdB.out, hT2.out, hzB.out.set_other (p := ⟨w.heap.size + 1, 2, none⟩) (by simp) _, hfr.setCell (p := ⟨w.heap.size + 1, 2, none⟩) (.inr (by simp)) _⟩
          case measure =>
            rw [hcn.out, cellN_tk hT2.out]
            show s.size - (i + 1) < s.size - i
            omega
      · have hD : Bx (∀ wx, Calls Tryz.prog 185 #[Y (bt s i)] wx fun e w' => e = .returned (.bool false) ∧ wx = w') := Bx.mk (fun wx => by have := digit_any (bt s i) wx hcb1 hcb2; rw [Bool.eq_false_iff.2 hdg] at this; exact this)
        have hx := hexit (fun e => hdg e.2)
        have hzc := hz.tk
        obtain ⟨i0', i1', i2', i3', i4', i5', i6', i7', i8'⟩ := hzc
        have y0 := hz.frozen 0
        have y1 := hz.frozen 1
        have y2 := hz.frozen 2
        have y3 := hz.frozen 3
        have y4 := hz.frozen 4
        have y5 := hz.frozen 5
        have y6 := hz.frozen 6
        have y7 := hz.frozen 7
        have y8 := hz.frozen 8
        have hzB := Bx.mk hz
        by_cases h9 : 9 < i - i0
        · have t9 : decide ((9 : Int) < (i : Int) - (i0 : Int)) = true := decide_eq_true (by omega)
          have hres : Bx (lexNum (bt s) s.size i0 = ⟨3, i0, i, 1, 4, rz⟩) := Bx.mk (by unfold lexNum; simp only; rw [hx.out, if_pos h9])
          clear hT hz hexit hdg h9 gd g3
          generalize numVal (bt s) i0 (i - i0) = V at *
          go_wp2_with (first | (go_at_call 185; refine (hD.out _).mono ?_; rintro e w' ⟨rfl, rfl⟩))
          rw [hres.out]
          have hz2 : Row ((wr.setCell ⟨w.heap.size + 1, 0, none⟩ (I 3)).setCell ⟨w.heap.size + 1, 4, none⟩ (I 4)) w.heap.size 9 (tkC tok0) := (hzB.out.set_other (p := ⟨w.heap.size + 1, 0, none⟩) (by simp) _).set_other (p := ⟨w.heap.size + 1, 4, none⟩) (by simp) _
          refine ret_tok (p := 4) (g := w.heap.size) (t := Tok.mk 3 i0 i 1 4 rz) rfl rfl (tk_sets hz2 (Tok.mk 3 i0 i 1 4 rz)) rfl ?_
          exact ⟨rfl, sets_fr (.inr (Nat.le_refl _)) (tkA (Tok.mk 3 i0 i 1 4 rz)).toList _ 0 ((hfr.setCell (p := ⟨w.heap.size + 1, 0, none⟩) (.inr (by simp)) _).setCell (p := ⟨w.heap.size + 1, 4, none⟩) (.inr (by simp)) _)⟩
        · have t9 : decide ((9 : Int) < (i : Int) - (i0 : Int)) = false := decide_eq_false (by omega)
          have hres : Bx (lexNum (bt s) s.size i0 = ⟨2, i0, i, 1, numVal (bt s) i0 (i - i0), rz⟩) := Bx.mk (by unfold lexNum; simp only; rw [hx.out, if_neg h9])
          clear hT hz hexit hdg h9 gd g3
          generalize numVal (bt s) i0 (i - i0) = V at *
          go_wp2_with (first | (go_at_call 185; refine (hD.out _).mono ?_; rintro e w' ⟨rfl, rfl⟩))
          rw [hres.out]
          refine ret_tok (p := 4) (g := w.heap.size) (t := Tok.mk 2 i0 i 1 V rz) rfl rfl (tk_sets hzB.out (Tok.mk 2 i0 i 1 V rz)) rfl ?_
          exact ⟨rfl, sets_fr (.inr (Nat.le_refl _)) (tkA (Tok.mk 2 i0 i 1 V rz)).toList _ 0 hfr⟩

    · have hd : decide ((i : Int) < (s.size : Int)) = false := decide_eq_false (by omega)
      have hx := hexit (fun e => hlt e.1)
      have hzc := hz.tk
      obtain ⟨i0', i1', i2', i3', i4', i5', i6', i7', i8'⟩ := hzc
      have y0 := hz.frozen 0
      have y1 := hz.frozen 1
      have y2 := hz.frozen 2
      have y3 := hz.frozen 3
      have y4 := hz.frozen 4
      have y5 := hz.frozen 5
      have y6 := hz.frozen 6
      have y7 := hz.frozen 7
      have y8 := hz.frozen 8
      have hzB := Bx.mk hz
      by_cases h9 : 9 < i - i0
      · have t9 : decide ((9 : Int) < (i : Int) - (i0 : Int)) = true := decide_eq_true (by omega)
        have hres : Bx (lexNum (bt s) s.size i0 = ⟨3, i0, i, 1, 4, rz⟩) := Bx.mk (by unfold lexNum; simp only; rw [hx.out, if_pos h9])
        clear hT hz hexit h9 gd g3
        generalize numVal (bt s) i0 (i - i0) = V at *
        go_wp2_with fail
        rw [hres.out]
        have hz2 : Row ((wr.setCell ⟨w.heap.size + 1, 0, none⟩ (I 3)).setCell ⟨w.heap.size + 1, 4, none⟩ (I 4)) w.heap.size 9 (tkC tok0) := (hzB.out.set_other (p := ⟨w.heap.size + 1, 0, none⟩) (by simp) _).set_other (p := ⟨w.heap.size + 1, 4, none⟩) (by simp) _
        refine ret_tok (p := 4) (g := w.heap.size) (t := Tok.mk 3 i0 i 1 4 rz) rfl rfl (tk_sets hz2 (Tok.mk 3 i0 i 1 4 rz)) rfl ?_
        exact ⟨rfl, sets_fr (.inr (Nat.le_refl _)) (tkA (Tok.mk 3 i0 i 1 4 rz)).toList _ 0 ((hfr.setCell (p := ⟨w.heap.size + 1, 0, none⟩) (.inr (by simp)) _).setCell (p := ⟨w.heap.size + 1, 4, none⟩) (.inr (by simp)) _)⟩
      · have t9 : decide ((9 : Int) < (i : Int) - (i0 : Int)) = false := decide_eq_false (by omega)
        have hres : Bx (lexNum (bt s) s.size i0 = ⟨2, i0, i, 1, numVal (bt s) i0 (i - i0), rz⟩) := Bx.mk (by unfold lexNum; simp only; rw [hx.out, if_neg h9])
        clear hT hz hexit h9 gd g3
        generalize numVal (bt s) i0 (i - i0) = V at *
        go_wp2_with fail
        rw [hres.out]
        refine ret_tok (p := 4) (g := w.heap.size) (t := Tok.mk 2 i0 i 1 V rz) rfl rfl (tk_sets hzB.out (Tok.mk 2 i0 i 1 V rz)) rfl ?_
        exact ⟨rfl, sets_fr (.inr (Nat.le_refl _)) (tkA (Tok.mk 2 i0 i 1 V rz)).toList _ 0 hfr⟩

end Go.Proofs.Qxb6500326aGreat
