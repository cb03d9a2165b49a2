import Derived.Test.Qxb6500326aGreatY4
import Derived.Test.Qxb6500326aGreatX3
import Derived.Deep.CutRange
namespace Go.Proofs.Qxb6500326aGreat
set_option maxRecDepth 100000
set_option linter.unusedVariables false
set_option linter.unusedSimpArgs false
open Go.RowKit Go.PlainAid
theorem world_cut {P : Program} {c : Code} {Q : Exit → Act → World → Prop} {a : Act} {w : World} (R : World → Prop) (hw : R w) (h : ∀ w', R w' → c.wp P Q a w') : c.wp P Q a w := h w hw
theorem fnOf_iff (L : List Int) (k : Nat) (h1 : 1 ≤ k) (h2 : k ≤ 10) : fnName k = L ↔ fnOf L = k := by
  constructor
  · intro e
    subst e
    have : k = 1 ∨ k = 2 ∨ k = 3 ∨ k = 4 ∨ k = 5 ∨ k = 6 ∨ k = 7 ∨ k = 8 ∨ k = 9 ∨ k = 10 := by omega
    rcases this with e | e | e | e | e | e | e | e | e | e <;> subst e <;> first | rfl | simp [fnName, fnOf]
  · intro e
    unfold fnOf at e
    repeat' split at e
    all_goals first | omega | skip
    all_goals (rename_i h; rw [← e]; subst h; rfl)
theorem fnOf_bd (L : List Int) : 0 ≤ fnOf L ∧ fnOf L ≤ 10 := by
  unfold fnOf
  repeat' split
  all_goals omega
def fnT (i0 e : Nat) (L : List Int) (k : Nat) : Tok := if 1 ≤ fnOf L ∧ fnOf L < (k : Int) then ⟨5, i0, e, 0, fnOf L, rz⟩ else ⟨3, i0, e, 0, 5, rz⟩
theorem fnT_one (i0 e : Nat) (L : List Int) : fnT i0 e L 1 = ⟨3, i0, e, 0, 5, rz⟩ := by unfold fnT; rw [if_neg (by omega)]
theorem fnT_hit {i0 e : Nat} {L : List Int} {k : Nat} (h1 : 1 ≤ k) (h : fnOf L = k) : fnT i0 e L (k + 1) = ⟨5, i0, e, 0, (k : Int), rz⟩ := by unfold fnT; rw [if_pos (by omega), h]
theorem fnT_miss {i0 e : Nat} {L : List Int} {k : Nat} (h : fnOf L ≠ k) : fnT i0 e L (k + 1) = fnT i0 e L k := by
  unfold fnT
  by_cases c : 1 ≤ fnOf L ∧ fnOf L < (k : Int)
  · rw [if_pos c, if_pos (by omega)]
  · rw [if_neg c, if_neg (by omega)]
theorem fnT_cells (i0 e : Nat) (L : List Int) (k : Nat) : (fnT i0 e L k).st = i0 ∧ (fnT i0 e L k).fin = e ∧ (fnT i0 e L k).op = 0 ∧ (fnT i0 e L k).r = rz := by
  unfold fnT; split <;> exact ⟨rfl, rfl, rfl, rfl⟩
section
variable {b : Nat → Int} {n i0 e : Nat} {L : List Int} {q : Int} {r : Ref} (he : wordEnd b n i0 = e) (hL : cut b i0 e = L) (hA : autoL L 0 rz = (q, r))
include he hL hA
theorem lexW_ref (hq : q = 4 ∨ q = 5) : lexWord b n i0 = ⟨4, i0, e, 0, 0, ⟨r.col, r.row - 1, r.absC, r.absR⟩⟩ := by
  have h := auto_ref L
  rw [hA] at h
  unfold autoE at h
  rw [if_pos hq] at h
  unfold lexWord
  simp only
  rw [he, hL, ← h]
theorem lexW_not (hq : ¬ (q = 4 ∨ q = 5)) : lexWord b n i0 = if L = wTrue then ⟨2, i0, e, 2, 1, rz⟩ else if L = wFalse then ⟨2, i0, e, 2, 0, rz⟩ else fnT i0 e L 11 := by
  have h := auto_ref L
  rw [hA] at h
  unfold autoE at h
  rw [if_neg hq] at h
  unfold lexWord
  simp only
  rw [he, hL, ← h]
  simp only
  split
  · rfl
  · split
    · rfl
    · have := fnOf_bd L
      unfold fnT
      by_cases c : fnOf L = 0
      · rw [if_pos c, if_neg (by omega)]
      · rw [if_neg c, if_pos (by omega)]
end
theorem stepP_2 {q c : Int} (h : stepP q c = 2) : 65 ≤ c ∧ c ≤ 90 := by
  unfold stepP at h
  repeat' split at h
  all_goals first | omega | skip
  rename_i hc; exact isCap_iff.1 hc
theorem stepP_45 {q c : Int} (h : stepP q c = 4 ∨ stepP q c = 5) : 48 ≤ c ∧ c ≤ 57 := by
  unfold stepP at h
  repeat' split at h
  all_goals first | omega | skip
  all_goals (rename_i hc; first | exact isDig_iff.1 hc | omega)
theorem ne_beq' {a c : Int} (h : a ≠ c) : (a == c) = false := by simpa using h
abbrev wdT (i0 e : Nat) (r : Ref) : Tok := ⟨4, i0, e, 0, 0, r⟩
set_option maxRecDepth 100000 in
set_option maxHeartbeats 8000000 in
theorem word_tok (s : ByteArray) (i0 : Nat) (w : World) (hs : s.size ≤ 40) (hi : i0 ≤ s.size) :
    Calls Tryz.prog 188 #[.string s, I i0] w fun e w' => e = .returned (tkV (lexWord (bt s) s.size i0)) ∧ Fr S0 w w' := by
  have hb := get_bt s
  have hsa : ((i0 : Int)).toNat = i0 := by simp
  go_enter Tryz.func188, Tryz.ntmps188
  go_wp2_with fail
  go_loopw [6, 7] (fun qq cc wr => ∃ (e : Nat) (q : Int) (r : Ref), qq = I q ∧ i0 ≤ e ∧ e ≤ s.size ∧ wordEnd (bt s) s.size e = wordEnd (bt s) s.size i0 ∧ autoL (cut (bt s) i0 e) 0 rz = (q, r) ∧ AutoOK q r ∧ Row wr (w.heap.size + 1) 9 (tkC (wdT i0 e r)) ∧ Row wr w.heap.size 9 (tkC tok0) ∧ Fr S0 w wr) (fun _ _ wr => s.size - cellN wr ⟨w.heap.size + 1, 2, none⟩)
  case atStart =>
    refine ⟨i0, 0, rz, rfl, Nat.le_refl _, hi, rfl, by unfold cut; rw [Nat.sub_self]; rfl, ⟨by decide, by decide, Int.le_refl _, fun _ => rfl, fun e => absurd e (by decide), by decide⟩, ?_, (tk_new w tok0 (H := w.heap.size) rfl).alloc _, ((Fr.refl _ _).alloc _).alloc _⟩
    exact tk_new (w.alloc (.cells (tkA tok0) 213)) (wdT i0 i0 rz) (H := w.heap.size + 1) (by simp)
  case round =>
    obtain ⟨e, q, r, rfl, g1, g2, g3, hau, hOK, hT, hz, hfr⟩ := hrel
    have c0 := hT.cell 0 (by omega)
    have c1 := hT.cell 1 (by omega)
    have c2 := hT.cell 2 (by omega)
    have c3 := hT.cell 3 (by omega)
    have c4 := hT.cell 4 (by omega)
    have c5 := hT.cell 5 (by omega)
    have c6 := hT.cell 6 (by omega)
    have c7 := hT.cell 7 (by omega)
    have c8 := hT.cell 8 (by omega)
    have z0 := hT.frozen 0
    have z2 := hT.frozen 2
    have z3 := hT.frozen 3
    have z4 := hT.frozen 4
    have z5 := hT.frozen 5
    have z6 := hT.frozen 6
    have z7 := hT.frozen 7
    have z8 := hT.frozen 8
    simp only [tkC] at c0 c1 c2 c3 c4 c5 c6 c7 c8
    have hTb := Bx.mk hT
    have hcn : Bx (cellN wr ⟨w.heap.size + 1, 2, none⟩ = e) := Bx.mk (cellN_tk hT)
    have hexit : ¬ (e < s.size ∧ wordy (bt s e) = true) → Bx (wordEnd (bt s) s.size i0 = e) := fun h => Bx.mk (g3.symm.trans (runF_fix2 h))
    have hrr0 := hOK.r0
    have hrr9 := hOK.hi
    have hq0 := hOK.q0
    have hq6 := hOK.q6
    by_cases hlt : e < s.size
    · have hd : decide ((e : Int) < (s.size : Int)) = true := decide_eq_true (by omega)
      have hcb1 := bt_nonneg s e
      have hcb2 := bt_le s e
      by_cases hwd : wordy (bt s e) = true
      · have hD : Bx (∀ wx, Calls Tryz.prog 187 #[Y (bt s e)] wx fun e w' => e = .returned (.bool true) ∧ wx = w') := Bx.mk (fun wx => by have := wordy_any (bt s e) wx hcb1 hcb2; rw [hwd] at this; exact this)
        have hg3 : Bx (wordEnd (bt s) s.size (e + 1) = wordEnd (bt s) s.size i0) := Bx.mk ((runF_step hlt hwd).symm.trans g3)
        have hau2 : autoL (cut (bt s) i0 (e + 1)) 0 rz = (stepP q (bt s e), refP (stepP q (bt s e)) (bt s e) r) := by rw [cut_succ _ g1, auto_append, hau]; rfl
        have hOK2 := autoOK_step hOK (bt s e)
        have hS0 := fun wx => step_any q (bt s e) wx hq0 hq6 hcb1 hcb2
        have hzB := Bx.mk hz
        have hb2 := @stepP_2 q (bt s e)
        have hb45 := @stepP_45 q (bt s e)
        have hmid := hOK.mid
        have hlo := hOK.lo
        clear hwd g3 hT hz hexit hau
        have hx7 : stepP q (bt s e) = 0 ∨ stepP q (bt s e) = 1 ∨ stepP q (bt s e) = 2 ∨ stepP q (bt s e) = 3 ∨ stepP q (bt s e) = 4 ∨ stepP q (bt s e) = 5 ∨ stepP q (bt s e) = 6 := by have h0 := hOK2.q0; have h6 := hOK2.q6; omega
        rcases hx7 with hx | hx | hx | hx | hx | hx | hx
        · rw [hx] at hau2 hOK2 hS0 hb2 hb45
          have hS := Bx.mk hS0
          have hauB := Bx.mk hau2
          have hOKB := Bx.mk hOK2
          have hT2 : Bx (Row (wr.setCell ⟨w.heap.size + 1, 2, none⟩ (I ((e : Int) + 1))) (w.heap.size + 1) 9 (tkC (wdT i0 (e + 1) (refP 0 (bt s e) r)))) := Bx.mk ((hTb.out.set 2 _).congr (nine rfl rfl rfl rfl rfl rfl rfl rfl rfl))
          clear hx hau2 hOK2 hS0 hb2 hb45 hmid hlo hOK
          go_wp2_with (first | (go_at_call 187; refine (hD.out _).mono ?_; clear hD; rintro e' w' ⟨rfl, rfl⟩) | (go_at_call 221; refine (hS.out _).mono ?_; clear hS; rintro e' w' ⟨rfl, rfl⟩))
          go_roundw
          case rel => exact ⟨e + 1, 0, _, rfl, by omega, by omega, hg3.out, hauB.out, hOKB.out, hT2.out, hzB.out.set_other (p := ⟨w.heap.size + 1, 2, none⟩) (by simp) _, hfr.setCell (p := ⟨w.heap.size + 1, 2, none⟩) (.inr (by simp)) _⟩
          case measure =>
            rw [hcn.out, cellN_tk hT2.out]
            show s.size - (e + 1) < s.size - e
            omega
        · rw [hx] at hau2 hOK2 hS0 hb2 hb45
          have hS := Bx.mk hS0
          have hauB := Bx.mk hau2
          have hOKB := Bx.mk hOK2
          have hT2 : Bx (Row ((wr.setCell ⟨w.heap.size + 1, 7, none⟩ (.bool true)).setCell ⟨w.heap.size + 1, 2, none⟩ (I ((e : Int) + 1))) (w.heap.size + 1) 9 (tkC (wdT i0 (e + 1) (refP 1 (bt s e) r)))) := Bx.mk (((hTb.out.set 7 _).set 2 _).congr (nine rfl rfl rfl rfl rfl rfl rfl rfl rfl))
          clear hx hau2 hOK2 hS0 hb2 hb45 hmid hlo hOK
          go_wp2_with (first | (go_at_call 187; refine (hD.out _).mono ?_; clear hD; rintro e' w' ⟨rfl, rfl⟩) | (go_at_call 221; refine (hS.out _).mono ?_; clear hS; rintro e' w' ⟨rfl, rfl⟩))
          go_roundw
          case rel => exact ⟨e + 1, 1, _, rfl, by omega, by omega, hg3.out, hauB.out, hOKB.out, hT2.out, (hzB.out.set_other (p := ⟨w.heap.size + 1, 7, none⟩) (by simp) _).set_other (p := ⟨w.heap.size + 1, 2, none⟩) (by simp) _, (hfr.setCell (p := ⟨w.heap.size + 1, 7, none⟩) (.inr (by simp)) _).setCell (p := ⟨w.heap.size + 1, 2, none⟩) (.inr (by simp)) _⟩
          case measure =>
            rw [hcn.out, cellN_tk hT2.out]
            show s.size - (e + 1) < s.size - e
            omega
        · rw [hx] at hau2 hOK2 hS0 hb2 hb45
          have hS := Bx.mk hS0
          have hauB := Bx.mk hau2
          have hOKB := Bx.mk hOK2
          obtain ⟨b1, b2⟩ := hb2 rfl
          have hT2 : Bx (Row ((wr.setCell ⟨w.heap.size + 1, 5, none⟩ (I (bt s e - 65))).setCell ⟨w.heap.size + 1, 2, none⟩ (I ((e : Int) + 1))) (w.heap.size + 1) 9 (tkC (wdT i0 (e + 1) (refP 2 (bt s e) r)))) := Bx.mk (((hTb.out.set 5 _).set 2 _).congr (nine rfl rfl rfl rfl rfl rfl rfl rfl rfl))
          clear hx hau2 hOK2 hS0 hb2 hb45 hmid hlo hOK
          go_wp2_with (first | (go_at_call 187; refine (hD.out _).mono ?_; clear hD; rintro e' w' ⟨rfl, rfl⟩) | (go_at_call 221; refine (hS.out _).mono ?_; clear hS; rintro e' w' ⟨rfl, rfl⟩))
          go_roundw
          case rel => exact ⟨e + 1, 2, _, rfl, by omega, by omega, hg3.out, hauB.out, hOKB.out, hT2.out, (hzB.out.set_other (p := ⟨w.heap.size + 1, 5, none⟩) (by simp) _).set_other (p := ⟨w.heap.size + 1, 2, none⟩) (by simp) _, (hfr.setCell (p := ⟨w.heap.size + 1, 5, none⟩) (.inr (by simp)) _).setCell (p := ⟨w.heap.size + 1, 2, none⟩) (.inr (by simp)) _⟩
          case measure =>
            rw [hcn.out, cellN_tk hT2.out]
            show s.size - (e + 1) < s.size - e
            omega
        · rw [hx] at hau2 hOK2 hS0 hb2 hb45
          have hS := Bx.mk hS0
          have hauB := Bx.mk hau2
          have hOKB := Bx.mk hOK2
          have hT2 : Bx (Row ((wr.setCell ⟨w.heap.size + 1, 8, none⟩ (.bool true)).setCell ⟨w.heap.size + 1, 2, none⟩ (I ((e : Int) + 1))) (w.heap.size + 1) 9 (tkC (wdT i0 (e + 1) (refP 3 (bt s e) r)))) := Bx.mk (((hTb.out.set 8 _).set 2 _).congr (nine rfl rfl rfl rfl rfl rfl rfl rfl rfl))
          clear hx hau2 hOK2 hS0 hb2 hb45 hmid hlo hOK
          go_wp2_with (first | (go_at_call 187; refine (hD.out _).mono ?_; clear hD; rintro e' w' ⟨rfl, rfl⟩) | (go_at_call 221; refine (hS.out _).mono ?_; clear hS; rintro e' w' ⟨rfl, rfl⟩))
          go_roundw
          case rel => exact ⟨e + 1, 3, _, rfl, by omega, by omega, hg3.out, hauB.out, hOKB.out, hT2.out, (hzB.out.set_other (p := ⟨w.heap.size + 1, 8, none⟩) (by simp) _).set_other (p := ⟨w.heap.size + 1, 2, none⟩) (by simp) _, (hfr.setCell (p := ⟨w.heap.size + 1, 8, none⟩) (.inr (by simp)) _).setCell (p := ⟨w.heap.size + 1, 2, none⟩) (.inr (by simp)) _⟩
          case measure =>
            rw [hcn.out, cellN_tk hT2.out]
            show s.size - (e + 1) < s.size - e
            omega
        · rw [hx] at hau2 hOK2 hS0 hb2 hb45
          have hS := Bx.mk hS0
          have hauB := Bx.mk hau2
          have hOKB := Bx.mk hOK2
          obtain ⟨b1, b2⟩ := hb45 (by omega)
          have hT2 : Bx (Row ((wr.setCell ⟨w.heap.size + 1, 6, none⟩ (I (r.row * 10 + (bt s e - 48)))).setCell ⟨w.heap.size + 1, 2, none⟩ (I ((e : Int) + 1))) (w.heap.size + 1) 9 (tkC (wdT i0 (e + 1) (refP 4 (bt s e) r)))) := Bx.mk (((hTb.out.set 6 _).set 2 _).congr (nine rfl rfl rfl rfl rfl rfl rfl rfl rfl))
          clear hx hau2 hOK2 hS0 hb2 hb45 hmid hlo hOK
          go_wp2_with (first | (go_at_call 187; refine (hD.out _).mono ?_; clear hD; rintro e' w' ⟨rfl, rfl⟩) | (go_at_call 221; refine (hS.out _).mono ?_; clear hS; rintro e' w' ⟨rfl, rfl⟩))
          go_roundw
          case rel => exact ⟨e + 1, 4, _, rfl, by omega, by omega, hg3.out, hauB.out, hOKB.out, hT2.out, (hzB.out.set_other (p := ⟨w.heap.size + 1, 6, none⟩) (by simp) _).set_other (p := ⟨w.heap.size + 1, 2, none⟩) (by simp) _, (hfr.setCell (p := ⟨w.heap.size + 1, 6, none⟩) (.inr (by simp)) _).setCell (p := ⟨w.heap.size + 1, 2, none⟩) (.inr (by simp)) _⟩
          case measure =>
            rw [hcn.out, cellN_tk hT2.out]
            show s.size - (e + 1) < s.size - e
            omega
        · rw [hx] at hau2 hOK2 hS0 hb2 hb45
          have hS := Bx.mk hS0
          have hauB := Bx.mk hau2
          have hOKB := Bx.mk hOK2
          obtain ⟨b1, b2⟩ := hb45 (by omega)
          have hT2 : Bx (Row ((wr.setCell ⟨w.heap.size + 1, 6, none⟩ (I (r.row * 10 + (bt s e - 48)))).setCell ⟨w.heap.size + 1, 2, none⟩ (I ((e : Int) + 1))) (w.heap.size + 1) 9 (tkC (wdT i0 (e + 1) (refP 5 (bt s e) r)))) := Bx.mk (((hTb.out.set 6 _).set 2 _).congr (nine rfl rfl rfl rfl rfl rfl rfl rfl rfl))
          clear hx hau2 hOK2 hS0 hb2 hb45 hmid hlo hOK
          go_wp2_with (first | (go_at_call 187; refine (hD.out _).mono ?_; clear hD; rintro e' w' ⟨rfl, rfl⟩) | (go_at_call 221; refine (hS.out _).mono ?_; clear hS; rintro e' w' ⟨rfl, rfl⟩))
          go_roundw
          case rel => exact ⟨e + 1, 5, _, rfl, by omega, by omega, hg3.out, hauB.out, hOKB.out, hT2.out, (hzB.out.set_other (p := ⟨w.heap.size + 1, 6, none⟩) (by simp) _).set_other (p := ⟨w.heap.size + 1, 2, none⟩) (by simp) _, (hfr.setCell (p := ⟨w.heap.size + 1, 6, none⟩) (.inr (by simp)) _).setCell (p := ⟨w.heap.size + 1, 2, none⟩) (.inr (by simp)) _⟩
          case measure =>
            rw [hcn.out, cellN_tk hT2.out]
            show s.size - (e + 1) < s.size - e
            omega
        · rw [hx] at hau2 hOK2 hS0 hb2 hb45
          have hS := Bx.mk hS0
          have hauB := Bx.mk hau2
          have hOKB := Bx.mk hOK2
          have hT2 : Bx (Row (wr.setCell ⟨w.heap.size + 1, 2, none⟩ (I ((e : Int) + 1))) (w.heap.size + 1) 9 (tkC (wdT i0 (e + 1) (refP 6 (bt s e) r)))) := Bx.mk ((hTb.out.set 2 _).congr (nine rfl rfl rfl rfl rfl rfl rfl rfl rfl))
          clear hx hau2 hOK2 hS0 hb2 hb45 hmid hlo hOK
          go_wp2_with (first | (go_at_call 187; refine (hD.out _).mono ?_; clear hD; rintro e' w' ⟨rfl, rfl⟩) | (go_at_call 221; refine (hS.out _).mono ?_; clear hS; rintro e' w' ⟨rfl, rfl⟩))
          go_roundw
          case rel => exact ⟨e + 1, 6, _, rfl, by omega, by omega, hg3.out, hauB.out, hOKB.out, hT2.out, hzB.out.set_other (p := ⟨w.heap.size + 1, 2, none⟩) (by simp) _, hfr.setCell (p := ⟨w.heap.size + 1, 2, none⟩) (.inr (by simp)) _⟩
          case measure =>
            rw [hcn.out, cellN_tk hT2.out]
            show s.size - (e + 1) < s.size - e
            omega
      · have hD : Bx (∀ wx, Calls Tryz.prog 187 #[Y (bt s e)] wx fun e w' => e = .returned (.bool false) ∧ wx = w') := Bx.mk (fun wx => by have := wordy_any (bt s e) wx hcb1 hcb2; rw [Bool.eq_false_iff.2 hwd] at this; exact this)
        have hx := hexit (fun c => hwd c.2)
        have hex : s.extract i0 e = bs (cut (bt s) i0 e) := extract_cut s i0 e g1 g2
        have hLb := cut_bytes s i0 e
        have hxs : (s.extract i0 e).size = e - i0 := by rw [ByteArray.size_extract]; omega
        have hLl : (cut (bt s) i0 e).length = e - i0 := by unfold cut; simp
        have hR1 := Bx.mk (lexW_ref (b := bt s) (n := s.size) hx.out rfl hau)
        have hR2 := Bx.mk (lexW_not (b := bt s) (n := s.size) hx.out rfl hau)
        have hea : ((e : Int)).toNat = e := by simp
        have hzB := Bx.mk hz
        generalize cut (bt s) i0 e = L at *
        clear hT hau hOK g3 hexit hwd
        clear hz
        by_cases h45 : q = 4 ∨ q = 5
        · have hres := hR1.out h45
          have e45 : q = 4 ∨ (q ≠ 4 ∧ q = 5) := by omega
          obtain ⟨TT, hTT⟩ : ∃ TT : Tok, TT = ⟨4, i0, e, 0, 0, ⟨r.col, r.row - 1, r.absC, r.absR⟩⟩ := ⟨_, rfl⟩
          have hres := Bx.mk (hres.trans hTT.symm)
          have hTTB := Bx.mk hTT
          clear hR1 hR2 hex hxs hLl hTT h45
          rcases e45 with e4 | ⟨e4, e5⟩
          · subst e4
            go_upto_region 19 with (first | (go_at_call 187; refine (hD.out _).mono ?_; clear hD; rintro e' w' ⟨rfl, rfl⟩))
            refine world_cut (fun wz => Row wz (w.heap.size + 1) 9 (tkC TT) ∧ Row wz w.heap.size 9 (tkC tok0) ∧ Fr S0 w wz) ⟨by rw [hTTB.out]; exact (hTb.out.set 6 (I (r.row - 1))).congr (nine rfl rfl rfl rfl rfl rfl rfl rfl rfl), hzB.out.set_other (p := ⟨w.heap.size + 1, 6, none⟩) (by simp) _, hfr.setCell (p := ⟨w.heap.size + 1, 6, none⟩) (.inr (by simp)) _⟩ ?_
            clear c0 c1 c2 c3 c4 c5 c6 c7 c8 z0 z2 z3 z4 z5 z6 z7 z8
            clear hTb hzB hfr hcn
            rintro wz ⟨hTz, hZz, hfz⟩
            obtain ⟨c0, c1, c2, c3, c4, c5, c6, c7, c8⟩ := hTz.tk
            obtain ⟨i0', i1', i2', i3', i4', i5', i6', i7', i8'⟩ := hZz.tk
            have y0 := hZz.frozen 0
            have y1 := hZz.frozen 1
            have y2 := hZz.frozen 2
            have y3 := hZz.frozen 3
            have y4 := hZz.frozen 4
            have y5 := hZz.frozen 5
            have y6 := hZz.frozen 6
            have y7 := hZz.frozen 7
            have y8 := hZz.frozen 8
            have z0 := hTz.frozen 0
            have z2 := hTz.frozen 2
            have z3 := hTz.frozen 3
            have z4 := hTz.frozen 4
            have z5 := hTz.frozen 5
            have z6 := hTz.frozen 6
            have z7 := hTz.frozen 7
            have z8 := hTz.frozen 8
            have hZB := Bx.mk hZz
            clear hTz hZz
            go_wp2_with fail
            rw [hres.out]
            refine ret_tok (p := 4) (g := w.heap.size) (t := TT) rfl rfl (tk_sets hZB.out TT) rfl ?_
            exact ⟨rfl, sets_fr (.inr (Nat.le_refl _)) (tkA TT).toList _ 0 hfz⟩
          · subst e5
            go_upto_region 19 with (first | (go_at_call 187; refine (hD.out _).mono ?_; clear hD; rintro e' w' ⟨rfl, rfl⟩))
            refine world_cut (fun wz => Row wz (w.heap.size + 1) 9 (tkC TT) ∧ Row wz w.heap.size 9 (tkC tok0) ∧ Fr S0 w wz) ⟨by rw [hTTB.out]; exact (hTb.out.set 6 (I (r.row - 1))).congr (nine rfl rfl rfl rfl rfl rfl rfl rfl rfl), hzB.out.set_other (p := ⟨w.heap.size + 1, 6, none⟩) (by simp) _, hfr.setCell (p := ⟨w.heap.size + 1, 6, none⟩) (.inr (by simp)) _⟩ ?_
            clear c0 c1 c2 c3 c4 c5 c6 c7 c8 z0 z2 z3 z4 z5 z6 z7 z8
            clear hTb hzB hfr hcn
            rintro wz ⟨hTz, hZz, hfz⟩
            obtain ⟨c0, c1, c2, c3, c4, c5, c6, c7, c8⟩ := hTz.tk
            obtain ⟨i0', i1', i2', i3', i4', i5', i6', i7', i8'⟩ := hZz.tk
            have y0 := hZz.frozen 0
            have y1 := hZz.frozen 1
            have y2 := hZz.frozen 2
            have y3 := hZz.frozen 3
            have y4 := hZz.frozen 4
            have y5 := hZz.frozen 5
            have y6 := hZz.frozen 6
            have y7 := hZz.frozen 7
            have y8 := hZz.frozen 8
            have z0 := hTz.frozen 0
            have z2 := hTz.frozen 2
            have z3 := hTz.frozen 3
            have z4 := hTz.frozen 4
            have z5 := hTz.frozen 5
            have z6 := hTz.frozen 6
            have z7 := hTz.frozen 7
            have z8 := hTz.frozen 8
            have hZB := Bx.mk hZz
            clear hTz hZz
            go_wp2_with fail
            rw [hres.out]
            refine ret_tok (p := 4) (g := w.heap.size) (t := TT) rfl rfl (tk_sets hZB.out TT) rfl ?_
            exact ⟨rfl, sets_fr (.inr (Nat.le_refl _)) (tkA TT).toList _ 0 hfz⟩
        · have hres := hR2.out h45
          have n4 : (q == 4) = false := ne_beq' (by omega)
          have n5 : (q == 5) = false := ne_beq' (by omega)
          clear hR1 hR2 h45
          go_upto_region 21 with (first | (go_at_call 187; refine (hD.out _).mono ?_; clear hD; rintro e' w' ⟨rfl, rfl⟩))
          refine world_cut (fun wz => Row wz (w.heap.size + 1) 9 (tkC (wdT i0 e rz)) ∧ Row wz w.heap.size 9 (tkC tok0) ∧ Fr S0 w wz) ⟨(sets_row [I 0, I 0, .bool false, .bool false] wr 5 _ hTb.out).congr (nine rfl rfl rfl rfl rfl rfl rfl rfl rfl), (oneBlock wr (w.heap.size + 1) 5 [I 0, I 0, .bool false, .bool false]).row hzB.out (by simp), sets_fr (.inr (by simp)) [I 0, I 0, .bool false, .bool false] wr 5 hfr⟩ ?_
          clear c0 c1 c2 c3 c4 c5 c6 c7 c8 z0 z2 z3 z4 z5 z6 z7 z8
          clear hTb hzB hfr hcn
          rintro wz ⟨hTz, hZz, hfz⟩
          obtain ⟨c0, c1, c2, c3, c4, c5, c6, c7, c8⟩ := hTz.tk
          have z0 := hTz.frozen 0
          have z3 := hTz.frozen 3
          have z4 := hTz.frozen 4
          have hTB := Bx.mk hTz
          have hZB := Bx.mk hZz
          clear hTz hZz
          by_cases hTr : L = wTrue
          · have hlen : e - i0 = 4 := by rw [← hLl, hTr]; rfl
            rw [if_pos hTr] at hres
            obtain ⟨TT, hTT⟩ : ∃ TT : Tok, TT = ⟨2, i0, e, 2, 1, rz⟩ := ⟨_, rfl⟩
            have hres := Bx.mk (hres.trans hTT.symm)
            have hTTB := Bx.mk hTT
            have q1 : ((s.extract i0 e).toList == [84, 82, 85, 69]) = true := by rw [hex]; exact is_true hTr
            have q3 : ((bs L).toList == [84, 82, 85, 69]) = true := is_true hTr
            have q2 : ((s.extract i0 e).size : Int) = 4 := by omega
            have q4 : ((bs L).size : Int) = 4 := by rw [← hex]; exact q2
            clear hTr hLl hxs hlen hTT
            go_upto_region 24 with fail
            refine world_cut (fun wz' => Row wz' (w.heap.size + 1) 9 (tkC TT) ∧ Row wz' w.heap.size 9 (tkC tok0) ∧ Fr S0 w wz') ⟨by rw [hTTB.out]; exact (((hTB.out.set 0 (I 2)).set 3 (I 2)).set 4 (I 1)).congr (nine rfl rfl rfl rfl rfl rfl rfl rfl rfl), ((hZB.out.set_other (p := ⟨w.heap.size + 1, 0, none⟩) (by simp) _).set_other (p := ⟨w.heap.size + 1, 3, none⟩) (by simp) _).set_other (p := ⟨w.heap.size + 1, 4, none⟩) (by simp) _, ((hfz.setCell (p := ⟨w.heap.size + 1, 0, none⟩) (.inr (by simp)) _).setCell (p := ⟨w.heap.size + 1, 3, none⟩) (.inr (by simp)) _).setCell (p := ⟨w.heap.size + 1, 4, none⟩) (.inr (by simp)) _⟩ ?_
            clear c0 c1 c2 c3 c4 c5 c6 c7 c8 z0 z3 z4 hTB hZB hfz
            rintro wy ⟨hTz, hZz, hfz⟩
            obtain ⟨c0, c1, c2, c3, c4, c5, c6, c7, c8⟩ := hTz.tk
            obtain ⟨i0', i1', i2', i3', i4', i5', i6', i7', i8'⟩ := hZz.tk
            have y0 := hZz.frozen 0
            have y1 := hZz.frozen 1
            have y2 := hZz.frozen 2
            have y3 := hZz.frozen 3
            have y4 := hZz.frozen 4
            have y5 := hZz.frozen 5
            have y6 := hZz.frozen 6
            have y7 := hZz.frozen 7
            have y8 := hZz.frozen 8
            have z0 := hTz.frozen 0
            have z2 := hTz.frozen 2
            have z3 := hTz.frozen 3
            have z4 := hTz.frozen 4
            have z5 := hTz.frozen 5
            have z6 := hTz.frozen 6
            have z7 := hTz.frozen 7
            have z8 := hTz.frozen 8
            have hZB := Bx.mk hZz
            clear hTz hZz
            go_wp2_with fail
            rw [hres.out]
            refine ret_tok (p := 4) (g := w.heap.size) (t := TT) rfl rfl (tk_sets hZB.out TT) rfl ?_
            exact ⟨rfl, sets_fr (.inr (Nat.le_refl _)) (tkA TT).toList _ 0 hfz⟩
          · rw [if_neg hTr] at hres
            have p1 : ((bs L).toList == [84, 82, 85, 69]) = false := no_true hLb hTr
            have p1' : ((s.extract i0 e).toList == [84, 82, 85, 69]) = false := by rw [hex]; exact p1
            by_cases hFa : L = wFalse
            · have hlen : e - i0 = 5 := by rw [← hLl, hFa]; rfl
              rw [if_pos hFa] at hres
              obtain ⟨TT, hTT⟩ : ∃ TT : Tok, TT = ⟨2, i0, e, 2, 0, rz⟩ := ⟨_, rfl⟩
              have hres := Bx.mk (hres.trans hTT.symm)
              have hTTB := Bx.mk hTT
              have q1 : ((s.extract i0 e).toList == [70, 65, 76, 83, 69]) = true := by rw [hex]; exact is_false hFa
              have q3 : ((bs L).toList == [70, 65, 76, 83, 69]) = true := is_false hFa
              have q2 : ((s.extract i0 e).size : Int) = 5 := by omega
              have q4 : ((bs L).size : Int) = 5 := by rw [← hex]; exact q2
              clear hTr hFa hLl hxs hlen hTT
              go_upto_region 24 with fail
              refine world_cut (fun wz' => Row wz' (w.heap.size + 1) 9 (tkC TT) ∧ Row wz' w.heap.size 9 (tkC tok0) ∧ Fr S0 w wz') ⟨by rw [hTTB.out]; exact (((hTB.out.set 0 (I 2)).set 3 (I 2)).set 4 (I 0)).congr (nine rfl rfl rfl rfl rfl rfl rfl rfl rfl), ((hZB.out.set_other (p := ⟨w.heap.size + 1, 0, none⟩) (by simp) _).set_other (p := ⟨w.heap.size + 1, 3, none⟩) (by simp) _).set_other (p := ⟨w.heap.size + 1, 4, none⟩) (by simp) _, ((hfz.setCell (p := ⟨w.heap.size + 1, 0, none⟩) (.inr (by simp)) _).setCell (p := ⟨w.heap.size + 1, 3, none⟩) (.inr (by simp)) _).setCell (p := ⟨w.heap.size + 1, 4, none⟩) (.inr (by simp)) _⟩ ?_
              clear c0 c1 c2 c3 c4 c5 c6 c7 c8 z0 z3 z4 hTB hZB hfz
              rintro wy ⟨hTz, hZz, hfz⟩
              obtain ⟨c0, c1, c2, c3, c4, c5, c6, c7, c8⟩ := hTz.tk
              obtain ⟨i0', i1', i2', i3', i4', i5', i6', i7', i8'⟩ := hZz.tk
              have y0 := hZz.frozen 0
              have y1 := hZz.frozen 1
              have y2 := hZz.frozen 2
              have y3 := hZz.frozen 3
              have y4 := hZz.frozen 4
              have y5 := hZz.frozen 5
              have y6 := hZz.frozen 6
              have y7 := hZz.frozen 7
              have y8 := hZz.frozen 8
              have z0 := hTz.frozen 0
              have z2 := hTz.frozen 2
              have z3 := hTz.frozen 3
              have z4 := hTz.frozen 4
              have z5 := hTz.frozen 5
              have z6 := hTz.frozen 6
              have z7 := hTz.frozen 7
              have z8 := hTz.frozen 8
              have hZB := Bx.mk hZz
              clear hTz hZz
              go_wp2_with fail
              rw [hres.out]
              refine ret_tok (p := 4) (g := w.heap.size) (t := TT) rfl rfl (tk_sets hZB.out TT) rfl ?_
              exact ⟨rfl, sets_fr (.inr (Nat.le_refl _)) (tkA TT).toList _ 0 hfz⟩
            · rw [if_neg hFa] at hres
              have hres := Bx.mk hres
              have q1 : ((bs L).toList == [70, 65, 76, 83, 69]) = false := no_false hLb hFa
              have q1' : ((s.extract i0 e).toList == [70, 65, 76, 83, 69]) = false := by rw [hex]; exact q1
              clear hTr hFa hLl hxs
              go_wp2_with fail
              go_loopw [9] (fun ff wr => ∃ k : Nat, 1 ≤ k ∧ k ≤ 11 ∧ ff = I k ∧ Row wr (w.heap.size + 1) 9 (tkC (fnT i0 e L k)) ∧ Row wr w.heap.size 9 (tkC tok0) ∧ Fr S0 w wr) (fun ff _ => 11 - (intOf ff).toNat)
              case atStart =>
                exact ⟨1, by omega, by omega, rfl, ((hTB.out.set 0 (I 3)).set 4 (I 5)).congr (us := tkC (fnT i0 e L 1)) (by rw [fnT_one]; exact nine rfl rfl rfl rfl rfl rfl rfl rfl rfl), (hZB.out.set_other (p := ⟨w.heap.size + 1, 0, none⟩) (by simp) (I 3)).set_other (p := ⟨w.heap.size + 1, 4, none⟩) (by simp) (I 5), (hfz.setCell (p := ⟨w.heap.size + 1, 0, none⟩) (.inr (by simp)) (I 3)).setCell (p := ⟨w.heap.size + 1, 4, none⟩) (.inr (by simp)) (I 5)⟩
              case round =>
                clear c0 c1 c2 c3 c4 c5 c6 c7 c8 z0 z3 z4 hTB hZB hfz p1 p1' q1 q1' n4 n5
                obtain ⟨k, k1, k2, rfl, hT, hz, hfr⟩ := hrel
                have d0 := hT.cell 0 (by omega)
                have d4 := hT.cell 4 (by omega)
                have u0 := hT.frozen 0
                have u4 := hT.frozen 4
                simp only [tkC] at d0 d4
                have hTb := Bx.mk hT
                have hzB := Bx.mk hz
                by_cases hk10 : k ≤ 10
                · have hkd : decide ((k : Int) ≤ 10) = true := decide_eq_true (by omega)
                  have hif := fnOf_iff L k k1 hk10
                  clear hT hz
                  by_cases he : fnName k = L
                  · have hed : ((bs (fnName k)).toList == (bs L).toList) = true := beq_bs_true he
                    have hT2 : Bx (Row ((wr.setCell ⟨w.heap.size + 1, 0, none⟩ (I 5)).setCell ⟨w.heap.size + 1, 4, none⟩ (I k)) (w.heap.size + 1) 9 (tkC (fnT i0 e L (k + 1)))) := Bx.mk (((hTb.out.set 0 (I 5)).set 4 (I k)).congr (by
                      rw [fnT_hit k1 (hif.1 he)]
                      obtain ⟨e1, e2, e3, e4⟩ := fnT_cells i0 e L k
                      exact nine rfl (by show I _ = I _; rw [e1]) (by show I _ = I _; rw [e2]) (by show I _ = I _; rw [e3]) rfl (by show I _ = I _; rw [e4]) (by show I _ = I _; rw [e4]) (by show Value.bool _ = Value.bool _; rw [e4]) (by show Value.bool _ = Value.bool _; rw [e4])))
                    clear hif he
                    go_wp2_with (first | (go_at_call 181; refine (fn_any _ _).mono ?_; rintro e' w' ⟨rfl, rfl⟩))
                    go_roundw
                    case rel => exact ⟨k + 1, by omega, by omega, by go_num, hT2.out, (hzB.out.set_other (p := ⟨w.heap.size + 1, 0, none⟩) (by simp) _).set_other (p := ⟨w.heap.size + 1, 4, none⟩) (by simp) _, (hfr.setCell (p := ⟨w.heap.size + 1, 0, none⟩) (.inr (by simp)) _).setCell (p := ⟨w.heap.size + 1, 4, none⟩) (.inr (by simp)) _⟩
                    case measure => simp [intOf]; omega
                  · have hed : ((bs (fnName k)).toList == (bs L).toList) = false := beq_bs_false (fnName_bytes _) hLb he
                    have hT2 : Bx (Row wr (w.heap.size + 1) 9 (tkC (fnT i0 e L (k + 1)))) := Bx.mk (by rw [fnT_miss (fun c => he (hif.2 c))]; exact hTb.out)
                    clear hif he
                    go_wp2_with (first | (go_at_call 181; refine (fn_any _ _).mono ?_; rintro e' w' ⟨rfl, rfl⟩))
                    go_roundw
                    case rel => exact ⟨k + 1, by omega, by omega, by go_num, hT2.out, hzB.out, hfr⟩
                    case measure => simp [intOf]; omega
                · have hk11 : k = 11 := by omega
                  subst hk11
                  clear d0 d4 u0 u4
                  obtain ⟨TT, hTT⟩ : ∃ TT, fnT i0 e L 11 = TT := ⟨_, rfl⟩
                  have hres2 := Bx.mk (hres.out.trans hTT)
                  rw [hTT] at hT
                  clear hTT hTb
                  obtain ⟨d0, d1, d2, d3, d4, d5, d6, d7, d8⟩ := hT.tk
                  obtain ⟨i0', i1', i2', i3', i4', i5', i6', i7', i8'⟩ := hz.tk
                  have y0 := hz.frozen 0
                  have y1 := hz.frozen 1
                  have y2 := hz.frozen 2
                  have y3 := hz.frozen 3
                  have y4 := hz.frozen 4
                  have y5 := hz.frozen 5
                  have y6 := hz.frozen 6
                  have y7 := hz.frozen 7
                  have y8 := hz.frozen 8
                  clear hT hz
                  go_wp2_with fail
                  rw [hres2.out]
                  refine ret_tok (p := 4) (g := w.heap.size) (t := TT) rfl rfl (tk_sets hzB.out TT) rfl ?_
                  exact ⟨rfl, sets_fr (.inr (Nat.le_refl _)) (tkA TT).toList _ 0 hfr⟩
    · have hd : decide ((e : Int) < (s.size : Int)) = false := decide_eq_false (by omega)
      have hx := hexit (fun c => hlt c.1)
      have hex : s.extract i0 e = bs (cut (bt s) i0 e) := extract_cut s i0 e g1 g2
      have hLb := cut_bytes s i0 e
      have hxs : (s.extract i0 e).size = e - i0 := by rw [ByteArray.size_extract]; omega
      have hLl : (cut (bt s) i0 e).length = e - i0 := by unfold cut; simp
      have hR1 := Bx.mk (lexW_ref (b := bt s) (n := s.size) hx.out rfl hau)
      have hR2 := Bx.mk (lexW_not (b := bt s) (n := s.size) hx.out rfl hau)
      have hea : ((e : Int)).toNat = e := by simp
      have hzB := Bx.mk hz
      generalize cut (bt s) i0 e = L at *
      clear hT hau hOK g3 hexit
      clear hz
      by_cases h45 : q = 4 ∨ q = 5
      · have hres := hR1.out h45
        have e45 : q = 4 ∨ (q ≠ 4 ∧ q = 5) := by omega
        obtain ⟨TT, hTT⟩ : ∃ TT : Tok, TT = ⟨4, i0, e, 0, 0, ⟨r.col, r.row - 1, r.absC, r.absR⟩⟩ := ⟨_, rfl⟩
        have hres := Bx.mk (hres.trans hTT.symm)
        have hTTB := Bx.mk hTT
        clear hR1 hR2 hex hxs hLl hTT h45
        rcases e45 with e4 | ⟨e4, e5⟩
        · subst e4
          go_upto_region 19 with fail
          refine world_cut (fun wz => Row wz (w.heap.size + 1) 9 (tkC TT) ∧ Row wz w.heap.size 9 (tkC tok0) ∧ Fr S0 w wz) ⟨by rw [hTTB.out]; exact (hTb.out.set 6 (I (r.row - 1))).congr (nine rfl rfl rfl rfl rfl rfl rfl rfl rfl), hzB.out.set_other (p := ⟨w.heap.size + 1, 6, none⟩) (by simp) _, hfr.setCell (p := ⟨w.heap.size + 1, 6, none⟩) (.inr (by simp)) _⟩ ?_
          clear c0 c1 c2 c3 c4 c5 c6 c7 c8 z0 z2 z3 z4 z5 z6 z7 z8
          clear hTb hzB hfr hcn
          rintro wz ⟨hTz, hZz, hfz⟩
          obtain ⟨c0, c1, c2, c3, c4, c5, c6, c7, c8⟩ := hTz.tk
          obtain ⟨i0', i1', i2', i3', i4', i5', i6', i7', i8'⟩ := hZz.tk
          have y0 := hZz.frozen 0
          have y1 := hZz.frozen 1
          have y2 := hZz.frozen 2
          have y3 := hZz.frozen 3
          have y4 := hZz.frozen 4
          have y5 := hZz.frozen 5
          have y6 := hZz.frozen 6
          have y7 := hZz.frozen 7
          have y8 := hZz.frozen 8
          have z0 := hTz.frozen 0
          have z2 := hTz.frozen 2
          have z3 := hTz.frozen 3
          have z4 := hTz.frozen 4
          have z5 := hTz.frozen 5
          have z6 := hTz.frozen 6
          have z7 := hTz.frozen 7
          have z8 := hTz.frozen 8
          have hZB := Bx.mk hZz
          clear hTz hZz
          go_wp2_with fail
          rw [hres.out]
          refine ret_tok (p := 4) (g := w.heap.size) (t := TT) rfl rfl (tk_sets hZB.out TT) rfl ?_
          exact ⟨rfl, sets_fr (.inr (Nat.le_refl _)) (tkA TT).toList _ 0 hfz⟩
        · subst e5
          go_upto_region 19 with fail
          refine world_cut (fun wz => Row wz (w.heap.size + 1) 9 (tkC TT) ∧ Row wz w.heap.size 9 (tkC tok0) ∧ Fr S0 w wz) ⟨by rw [hTTB.out]; exact (hTb.out.set 6 (I (r.row - 1))).congr (nine rfl rfl rfl rfl rfl rfl rfl rfl rfl), hzB.out.set_other (p := ⟨w.heap.size + 1, 6, none⟩) (by simp) _, hfr.setCell (p := ⟨w.heap.size + 1, 6, none⟩) (.inr (by simp)) _⟩ ?_
          clear c0 c1 c2 c3 c4 c5 c6 c7 c8 z0 z2 z3 z4 z5 z6 z7 z8
          clear hTb hzB hfr hcn
          rintro wz ⟨hTz, hZz, hfz⟩
          obtain ⟨c0, c1, c2, c3, c4, c5, c6, c7, c8⟩ := hTz.tk
          obtain ⟨i0', i1', i2', i3', i4', i5', i6', i7', i8'⟩ := hZz.tk
          have y0 := hZz.frozen 0
          have y1 := hZz.frozen 1
          have y2 := hZz.frozen 2
          have y3 := hZz.frozen 3
          have y4 := hZz.frozen 4
          have y5 := hZz.frozen 5
          have y6 := hZz.frozen 6
          have y7 := hZz.frozen 7
          have y8 := hZz.frozen 8
          have z0 := hTz.frozen 0
          have z2 := hTz.frozen 2
          have z3 := hTz.frozen 3
          have z4 := hTz.frozen 4
          have z5 := hTz.frozen 5
          have z6 := hTz.frozen 6
          have z7 := hTz.frozen 7
          have z8 := hTz.frozen 8
          have hZB := Bx.mk hZz
          clear hTz hZz
          go_wp2_with fail
          rw [hres.out]
          refine ret_tok (p := 4) (g := w.heap.size) (t := TT) rfl rfl (tk_sets hZB.out TT) rfl ?_
          exact ⟨rfl, sets_fr (.inr (Nat.le_refl _)) (tkA TT).toList _ 0 hfz⟩
      · have hres := hR2.out h45
        have n4 : (q == 4) = false := ne_beq' (by omega)
        have n5 : (q == 5) = false := ne_beq' (by omega)
        clear hR1 hR2 h45
        go_upto_region 21 with fail
        refine world_cut (fun wz => Row wz (w.heap.size + 1) 9 (tkC (wdT i0 e rz)) ∧ Row wz w.heap.size 9 (tkC tok0) ∧ Fr S0 w wz) ⟨(sets_row [I 0, I 0, .bool false, .bool false] wr 5 _ hTb.out).congr (nine rfl rfl rfl rfl rfl rfl rfl rfl rfl), (oneBlock wr (w.heap.size + 1) 5 [I 0, I 0, .bool false, .bool false]).row hzB.out (by simp), sets_fr (.inr (by simp)) [I 0, I 0, .bool false, .bool false] wr 5 hfr⟩ ?_
        clear c0 c1 c2 c3 c4 c5 c6 c7 c8 z0 z2 z3 z4 z5 z6 z7 z8
        clear hTb hzB hfr hcn
        rintro wz ⟨hTz, hZz, hfz⟩
        obtain ⟨c0, c1, c2, c3, c4, c5, c6, c7, c8⟩ := hTz.tk
        have z0 := hTz.frozen 0
        have z3 := hTz.frozen 3
        have z4 := hTz.frozen 4
        have hTB := Bx.mk hTz
        have hZB := Bx.mk hZz
        clear hTz hZz
        by_cases hTr : L = wTrue
        · have hlen : e - i0 = 4 := by rw [← hLl, hTr]; rfl
          rw [if_pos hTr] at hres
          obtain ⟨TT, hTT⟩ : ∃ TT : Tok, TT = ⟨2, i0, e, 2, 1, rz⟩ := ⟨_, rfl⟩
          have hres := Bx.mk (hres.trans hTT.symm)
          have hTTB := Bx.mk hTT
          have q1 : ((s.extract i0 e).toList == [84, 82, 85, 69]) = true := by rw [hex]; exact is_true hTr
          have q3 : ((bs L).toList == [84, 82, 85, 69]) = true := is_true hTr
          have q2 : ((s.extract i0 e).size : Int) = 4 := by omega
          have q4 : ((bs L).size : Int) = 4 := by rw [← hex]; exact q2
          clear hTr hLl hxs hlen hTT
          go_upto_region 24 with fail
          refine world_cut (fun wz' => Row wz' (w.heap.size + 1) 9 (tkC TT) ∧ Row wz' w.heap.size 9 (tkC tok0) ∧ Fr S0 w wz') ⟨by rw [hTTB.out]; exact (((hTB.out.set 0 (I 2)).set 3 (I 2)).set 4 (I 1)).congr (nine rfl rfl rfl rfl rfl rfl rfl rfl rfl), ((hZB.out.set_other (p := ⟨w.heap.size + 1, 0, none⟩) (by simp) _).set_other (p := ⟨w.heap.size + 1, 3, none⟩) (by simp) _).set_other (p := ⟨w.heap.size + 1, 4, none⟩) (by simp) _, ((hfz.setCell (p := ⟨w.heap.size + 1, 0, none⟩) (.inr (by simp)) _).setCell (p := ⟨w.heap.size + 1, 3, none⟩) (.inr (by simp)) _).setCell (p := ⟨w.heap.size + 1, 4, none⟩) (.inr (by simp)) _⟩ ?_
          clear c0 c1 c2 c3 c4 c5 c6 c7 c8 z0 z3 z4 hTB hZB hfz
          rintro wy ⟨hTz, hZz, hfz⟩
          obtain ⟨c0, c1, c2, c3, c4, c5, c6, c7, c8⟩ := hTz.tk
          obtain ⟨i0', i1', i2', i3', i4', i5', i6', i7', i8'⟩ := hZz.tk
          have y0 := hZz.frozen 0
          have y1 := hZz.frozen 1
          have y2 := hZz.frozen 2
          have y3 := hZz.frozen 3
          have y4 := hZz.frozen 4
          have y5 := hZz.frozen 5
          have y6 := hZz.frozen 6
          have y7 := hZz.frozen 7
          have y8 := hZz.frozen 8
          have z0 := hTz.frozen 0
          have z2 := hTz.frozen 2
          have z3 := hTz.frozen 3
          have z4 := hTz.frozen 4
          have z5 := hTz.frozen 5
          have z6 := hTz.frozen 6
          have z7 := hTz.frozen 7
          have z8 := hTz.frozen 8
          have hZB := Bx.mk hZz
          clear hTz hZz
          go_wp2_with fail
          rw [hres.out]
          refine ret_tok (p := 4) (g := w.heap.size) (t := TT) rfl rfl (tk_sets hZB.out TT) rfl ?_
          exact ⟨rfl, sets_fr (.inr (Nat.le_refl _)) (tkA TT).toList _ 0 hfz⟩
        · rw [if_neg hTr] at hres
          have p1 : ((bs L).toList == [84, 82, 85, 69]) = false := no_true hLb hTr
          have p1' : ((s.extract i0 e).toList == [84, 82, 85, 69]) = false := by rw [hex]; exact p1
          by_cases hFa : L = wFalse
          · have hlen : e - i0 = 5 := by rw [← hLl, hFa]; rfl
            rw [if_pos hFa] at hres
            obtain ⟨TT, hTT⟩ : ∃ TT : Tok, TT = ⟨2, i0, e, 2, 0, rz⟩ := ⟨_, rfl⟩
            have hres := Bx.mk (hres.trans hTT.symm)
            have hTTB := Bx.mk hTT
            have q1 : ((s.extract i0 e).toList == [70, 65, 76, 83, 69]) = true := by rw [hex]; exact is_false hFa
            have q3 : ((bs L).toList == [70, 65, 76, 83, 69]) = true := is_false hFa
            have q2 : ((s.extract i0 e).size : Int) = 5 := by omega
            have q4 : ((bs L).size : Int) = 5 := by rw [← hex]; exact q2
            clear hTr hFa hLl hxs hlen hTT
            go_upto_region 24 with fail
            refine world_cut (fun wz' => Row wz' (w.heap.size + 1) 9 (tkC TT) ∧ Row wz' w.heap.size 9 (tkC tok0) ∧ Fr S0 w wz') ⟨by rw [hTTB.out]; exact (((hTB.out.set 0 (I 2)).set 3 (I 2)).set 4 (I 0)).congr (nine rfl rfl rfl rfl rfl rfl rfl rfl rfl), ((hZB.out.set_other (p := ⟨w.heap.size + 1, 0, none⟩) (by simp) _).set_other (p := ⟨w.heap.size + 1, 3, none⟩) (by simp) _).set_other (p := ⟨w.heap.size + 1, 4, none⟩) (by simp) _, ((hfz.setCell (p := ⟨w.heap.size + 1, 0, none⟩) (.inr (by simp)) _).setCell (p := ⟨w.heap.size + 1, 3, none⟩) (.inr (by simp)) _).setCell (p := ⟨w.heap.size + 1, 4, none⟩) (.inr (by simp)) _⟩ ?_
            clear c0 c1 c2 c3 c4 c5 c6 c7 c8 z0 z3 z4 hTB hZB hfz
            rintro wy ⟨hTz, hZz, hfz⟩
            obtain ⟨c0, c1, c2, c3, c4, c5, c6, c7, c8⟩ := hTz.tk
            obtain ⟨i0', i1', i2', i3', i4', i5', i6', i7', i8'⟩ := hZz.tk
            have y0 := hZz.frozen 0
            have y1 := hZz.frozen 1
            have y2 := hZz.frozen 2
            have y3 := hZz.frozen 3
            have y4 := hZz.frozen 4
            have y5 := hZz.frozen 5
            have y6 := hZz.frozen 6
            have y7 := hZz.frozen 7
            have y8 := hZz.frozen 8
            have z0 := hTz.frozen 0
            have z2 := hTz.frozen 2
            have z3 := hTz.frozen 3
            have z4 := hTz.frozen 4
            have z5 := hTz.frozen 5
            have z6 := hTz.frozen 6
            have z7 := hTz.frozen 7
            have z8 := hTz.frozen 8
            have hZB := Bx.mk hZz
            clear hTz hZz
            go_wp2_with fail
            rw [hres.out]
            refine ret_tok (p := 4) (g := w.heap.size) (t := TT) rfl rfl (tk_sets hZB.out TT) rfl ?_
            exact ⟨rfl, sets_fr (.inr (Nat.le_refl _)) (tkA TT).toList _ 0 hfz⟩
          · rw [if_neg hFa] at hres
            have hres := Bx.mk hres
            have q1 : ((bs L).toList == [70, 65, 76, 83, 69]) = false := no_false hLb hFa
            have q1' : ((s.extract i0 e).toList == [70, 65, 76, 83, 69]) = false := by rw [hex]; exact q1
            clear hTr hFa hLl hxs
            go_wp2_with fail
            go_loopw [9] (fun ff wr => ∃ k : Nat, 1 ≤ k ∧ k ≤ 11 ∧ ff = I k ∧ Row wr (w.heap.size + 1) 9 (tkC (fnT i0 e L k)) ∧ Row wr w.heap.size 9 (tkC tok0) ∧ Fr S0 w wr) (fun ff _ => 11 - (intOf ff).toNat)
            case atStart =>
              exact ⟨1, by omega, by omega, rfl, ((hTB.out.set 0 (I 3)).set 4 (I 5)).congr (us := tkC (fnT i0 e L 1)) (by rw [fnT_one]; exact nine rfl rfl rfl rfl rfl rfl rfl rfl rfl), (hZB.out.set_other (p := ⟨w.heap.size + 1, 0, none⟩) (by simp) (I 3)).set_other (p := ⟨w.heap.size + 1, 4, none⟩) (by simp) (I 5), (hfz.setCell (p := ⟨w.heap.size + 1, 0, none⟩) (.inr (by simp)) (I 3)).setCell (p := ⟨w.heap.size + 1, 4, none⟩) (.inr (by simp)) (I 5)⟩
            case round =>
              clear c0 c1 c2 c3 c4 c5 c6 c7 c8 z0 z3 z4 hTB hZB hfz p1 p1' q1 q1' n4 n5
              obtain ⟨k, k1, k2, rfl, hT, hz, hfr⟩ := hrel
              have d0 := hT.cell 0 (by omega)
              have d4 := hT.cell 4 (by omega)
              have u0 := hT.frozen 0
              have u4 := hT.frozen 4
              simp only [tkC] at d0 d4
              have hTb := Bx.mk hT
              have hzB := Bx.mk hz
              by_cases hk10 : k ≤ 10
              · have hkd : decide ((k : Int) ≤ 10) = true := decide_eq_true (by omega)
                have hif := fnOf_iff L k k1 hk10
                clear hT hz
                by_cases he : fnName k = L
                · have hed : ((bs (fnName k)).toList == (bs L).toList) = true := beq_bs_true he
                  have hT2 : Bx (Row ((wr.setCell ⟨w.heap.size + 1, 0, none⟩ (I 5)).setCell ⟨w.heap.size + 1, 4, none⟩ (I k)) (w.heap.size + 1) 9 (tkC (fnT i0 e L (k + 1)))) := Bx.mk (((hTb.out.set 0 (I 5)).set 4 (I k)).congr (by
                    rw [fnT_hit k1 (hif.1 he)]
                    obtain ⟨e1, e2, e3, e4⟩ := fnT_cells i0 e L k
                    exact nine rfl (by show I _ = I _; rw [e1]) (by show I _ = I _; rw [e2]) (by show I _ = I _; rw [e3]) rfl (by show I _ = I _; rw [e4]) (by show I _ = I _; rw [e4]) (by show Value.bool _ = Value.bool _; rw [e4]) (by show Value.bool _ = Value.bool _; rw [e4])))
                  clear hif he
                  go_wp2_with (first | (go_at_call 181; refine (fn_any _ _).mono ?_; rintro e' w' ⟨rfl, rfl⟩))
                  go_roundw
                  case rel => exact ⟨k + 1, by omega, by omega, by go_num, hT2.out, (hzB.out.set_other (p := ⟨w.heap.size + 1, 0, none⟩) (by simp) _).set_other (p := ⟨w.heap.size + 1, 4, none⟩) (by simp) _, (hfr.setCell (p := ⟨w.heap.size + 1, 0, none⟩) (.inr (by simp)) _).setCell (p := ⟨w.heap.size + 1, 4, none⟩) (.inr (by simp)) _⟩
                  case measure => simp [intOf]; omega
                · have hed : ((bs (fnName k)).toList == (bs L).toList) = false := beq_bs_false (fnName_bytes _) hLb he
                  have hT2 : Bx (Row wr (w.heap.size + 1) 9 (tkC (fnT i0 e L (k + 1)))) := Bx.mk (by rw [fnT_miss (fun c => he (hif.2 c))]; exact hTb.out)
                  clear hif he
                  go_wp2_with (first | (go_at_call 181; refine (fn_any _ _).mono ?_; rintro e' w' ⟨rfl, rfl⟩))
                  go_roundw
                  case rel => exact ⟨k + 1, by omega, by omega, by go_num, hT2.out, hzB.out, hfr⟩
                  case measure => simp [intOf]; omega
              · have hk11 : k = 11 := by omega
                subst hk11
                clear d0 d4 u0 u4
                obtain ⟨TT, hTT⟩ : ∃ TT, fnT i0 e L 11 = TT := ⟨_, rfl⟩
                have hres2 := Bx.mk (hres.out.trans hTT)
                rw [hTT] at hT
                clear hTT hTb
                obtain ⟨d0, d1, d2, d3, d4, d5, d6, d7, d8⟩ := hT.tk
                obtain ⟨i0', i1', i2', i3', i4', i5', i6', i7', i8'⟩ := hz.tk
                have y0 := hz.frozen 0
                have y1 := hz.frozen 1
                have y2 := hz.frozen 2
                have y3 := hz.frozen 3
                have y4 := hz.frozen 4
                have y5 := hz.frozen 5
                have y6 := hz.frozen 6
                have y7 := hz.frozen 7
                have y8 := hz.frozen 8
                clear hT hz
                go_wp2_with fail
                rw [hres2.out]
                refine ret_tok (p := 4) (g := w.heap.size) (t := TT) rfl rfl (tk_sets hzB.out TT) rfl ?_
                exact ⟨rfl, sets_fr (.inr (Nat.le_refl _)) (tkA TT).toList _ 0 hfr⟩
end Go.Proofs.Qxb6500326aGreat
