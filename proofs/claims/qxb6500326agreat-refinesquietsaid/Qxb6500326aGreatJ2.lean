import Derived.Test.Qxb6500326aGreatJ1
namespace Go.Proofs.Qxb6500326aGreat
set_option maxRecDepth 100000
set_option linter.unusedVariables false
set_option linter.unusedSimpArgs false
open Go.RowKit Go.PlainAid

/-! ### the model's document -/
def bmC (M : YA) (vp vn : Value) : Nat → Value
  | 0 => pt M.me
  | 1 => vp
  | _ => vn
theorem Fr.col {P : Nat → Prop} {w w1 w2 : World} {ρ ρ1 : Nat → Nat} (h : Fr (fun k => P (ρ k)) w w1) (hx : Ext w ρ ρ1) (k : Fr (fun k => P (ρ1 k)) w1 w2) : Fr (fun k => P (ρ k)) w w2 :=
  h.step k (fun x h1 => by
    rcases Nat.lt_or_ge x w.heap.size with h2 | h2
    · rw [hx x h2] at h1; exact .inl h1
    · exact .inr h2)
section
variable {w w' : World} {ρ ρ' : Nat → Nat} {M : YA} {T : Tx} {mk : Nat}
set_option maxHeartbeats 4000000 in
theorem snap_any (w : World) (hc : w.cell? ⟨mk, 0, none⟩ = some (pt M.me)) (hl : mk < w.heap.size) (hY : YB w ρ M T) : Calls Tryz.prog 36 #[pt mk] w fun e w' => ∃ k, e = .returned (sl k 24 24) ∧ w.heap.size ≤ k ∧ k < w'.heap.size ∧ Row w' k 24 (fun j => .string (T j)) ∧ Fr S0 w w' := by
  have kk1 := mk38
  generalize hA : MS = A1 at kk1
  replace hA := Bx.mk hA
  have hN1 : Bx (Row (w.alloc (.cells A1 9)) w.heap.size 24 (fun _ => .string es)) := ⟨ms_row hA.out w rfl⟩
  have hf1 := Bx.mk ((Fr.refl S0 w).alloc (.cells A1 9))
  replace hY := Bx.mk hY
  have hR : Bx (∀ wx, Fr S0 w wx → ∀ k : Nat, k < 24 → Calls Tryz.prog 42 #[pt M.me, I k] wx fun e w' => e = .returned (.string (T k)) ∧ wx = w') := ⟨fun wx hx k hk => by
    have := yb_raw (hY.out.fr hx (fun _ _ e => e) (Ext.refl _ _)) (k : Int)
    rw [rawP_at hk] at this; exact this⟩
  have hcB : Bx (∀ wx, Fr S0 w wx → wx.cell? ⟨mk, 0, none⟩ = some (pt M.me) ∧ mk < wx.heap.size) := ⟨fun wx hx => ⟨by rw [hx.cell (a := ⟨mk, 0, none⟩) hl (fun e => e)]; exact hc, by have := hx.size; omega⟩⟩
  clear hc hl
  go_enter Tryz.func36, Tryz.ntmps36
  go_wp2_with fail
  generalize hHH : w.heap.size = Hs at *
  have hHw : Bx (w.heap.size ≤ Hs) := ⟨by omega⟩
  replace hHH := Bx.mk hHH
  go_loopw [4] (fun c wr => ∃ k : Nat, k ≤ 24 ∧ c = I (k : Int) ∧ Bx (Row wr Hs 24 (fun i => .string (bufT T k i))) ∧ Bx (Fr S0 w wr)) (fun c _ => 24 - (intOf c).toNat)
  case atStart => exact ⟨0, by omega, rfl, ⟨hN1.out.congr (fun i hi => by unfold bufT; rw [if_neg (by omega)])⟩, hf1⟩
  case round =>
    clear hN1 hf1
    obtain ⟨k, hk, rfl, hN, hf⟩ := hrel
    cases hlt : decide ((k : Int) < 24)
    · have hk24 : Bx (k = 24) := ⟨by simp at hlt; omega⟩
      go_wp2_with fail
      go_ret
      exact ⟨Hs, rfl, by rw [← hHH.out]; exact Nat.le_refl _, hN.out.lt, hN.out.congr (fun i hi => by unfold bufT; rw [if_pos (by rw [hk24.out]; exact hi)]), hf.out⟩
    · have hk24 : k < 24 := by simp at hlt; omega
      have hkI : (k : Int) < 24 := by omega
      obtain ⟨c0, hl⟩ := hcB.out wr hf.out
      have hv := Bx.mk (hR.out wr hf.out k hk24)
      have m0 := hN.out.cell k hk24
      have z0 := hN.out.frozen k
      have hlw := hN.out.lt
      have hN2 : Bx (Row (wr.setCell ⟨Hs, k, none⟩ (.string (T k))) Hs 24 (fun i => .string (bufT T (k + 1) i))) := ⟨(hN.out.set k _).congr (fun i _ => by rw [← bufT_step]; unfold upd; split <;> rfl)⟩
      have hf2 : Bx (Fr S0 w (wr.setCell ⟨Hs, k, none⟩ (.string (T k)))) := ⟨hf.out.setCell (p := ⟨Hs, k, none⟩) (.inr hHw.out) _⟩
      generalize T k = y at hv hN2 hf2
      go_wp2_with (first | (go_at_call 42; refine hv.out.mono ?_; clear hv; rintro e _ ⟨rfl, rfl⟩))
      go_roundw
      case rel => exact ⟨k + 1, by omega, by go_num, hN2, hf2⟩
      case measure => simp [intOf]; omega
theorem toK_all {S : Tx} (hS : TxO S) (hT : TxO T) : toK S T 24 = S := funext fun c => by
  unfold toK
  split
  · rfl
  · rw [hS.out c (by omega), hT.out c (by omega)]
theorem toK_zero (S T : Tx) : toK S T 0 = T := funext fun c => by unfold toK; rw [if_neg (by omega)]
theorem toK_next (S T : Tx) (k : Nat) : upd (toK S T k) k (S k) = toK S T (k + 1) := funext fun c => toK_step S T k c
set_option maxHeartbeats 8000000 in
theorem put_any {S : Tx} {ks : Nat} (w : World) (hc : w.cell? ⟨mk, 0, none⟩ = some (pt M.me)) (hl : mk < w.heap.size) (hm : ρ mk = 8) (hY : YB w ρ M T) (hT : TxO T) (hS : TxO S) (hr : Row w ks 24 (fun j => .string (S j))) (hk0 : ρ ks = 0) :
    Calls Tryz.prog 41 #[pt mk, sl ks 24 24] w fun e w' => e = .returned (.tuple #[]) ∧ (∃ ρ', Ext w ρ ρ' ∧ YB w' ρ' M S) ∧ Fr (Cq ρ 2) w w' := by
  have hk02 : Bx (¬ Cq ρ 2 ks) := ⟨fun e => by rw [show ρ ks = 2 from e] at hk0; cases hk0⟩
  have hm2 : Bx (¬ Cq ρ 2 mk) := ⟨fun e => by rw [show ρ mk = 2 from e] at hm; cases hm⟩
  have hcB : Bx (∀ wx, Fr (Cq ρ 2) w wx → wx.cell? ⟨mk, 0, none⟩ = some (pt M.me) ∧ mk < wx.heap.size ∧ Row wx ks 24 (fun j => .string (S j))) := ⟨fun wx hx => ⟨by rw [hx.cell (a := ⟨mk, 0, none⟩) hl hm2.out]; exact hc, by have := hx.size; omega, hx.row hr hk02.out⟩⟩
  replace hY := Bx.mk hY
  replace hT := Bx.mk hT
  replace hS := Bx.mk hS
  clear hc hl hr hk0 hm
  go_enter Tryz.func41, Tryz.ntmps41
  go_wp2_with fail
  go_loopw [4] (fun c wr => ∃ k : Nat, k ≤ 24 ∧ c = I (k : Int) ∧ Bx (∃ ρ1, Ext w ρ ρ1 ∧ YB wr ρ1 M (toK S T k)) ∧ Bx (Fr (Cq ρ 2) w wr)) (fun c _ => 24 - (intOf c).toNat)
  case atStart => exact ⟨0, by omega, rfl, ⟨⟨ρ, Ext.refl _ _, by rw [toK_zero]; exact hY.out⟩⟩, ⟨Fr.refl _ _⟩⟩
  case round =>
    clear hY
    obtain ⟨k, hk, rfl, hE, hf⟩ := hrel
    obtain ⟨ρ1, hx1, hY1⟩ := hE.out
    replace hx1 := Bx.mk hx1
    replace hY1 := Bx.mk hY1
    cases hlt : decide ((k : Int) < 24)
    · have hk24 : Bx (k = 24) := ⟨by simp at hlt; omega⟩
      go_wp2_with fail
      go_end0
      refine ⟨rfl, ⟨ρ1, hx1.out, ?_⟩, hf.out⟩
      have := hY1.out
      rw [hk24.out, toK_all hS.out hT.out] at this
      exact this
    · have hk24 : k < 24 := by simp at hlt; omega
      have hkI : (k : Int) < 24 := by omega
      obtain ⟨c0, hl, hr⟩ := hcB.out wr hf.out
      have m0 := hr.cell k hk24
      have hlw := hr.lt
      clear hr
      have hv : Bx (Calls Tryz.prog 37 #[pt M.me, I k, .string (S k)] wr.drew (DidM wr.drew ρ1 (Cq ρ1 2) 0 (fun w' ρ' => YB w' ρ' M (toK S T (k + 1))))) := ⟨by
        have := yb_set (hY1.out.fr ((Fr.refl S0 wr).drew) (fun _ _ e => e) (Ext.refl _ _)) (k : Int) (S k)
        rw [setP_ok hk24 (hS.out.size k)] at this
        unfold setT at this
        rw [if_pos (setP_ok hk24 (hS.out.size k))] at this
        have e2 : upd (toK S T k) (k : Int).toNat (S k) = toK S T (k + 1) := toK_next S T k
        rw [e2] at this
        exact this⟩
      generalize S k = y at m0 hv
      go_wp2_with fail
      refine region_cut (fun w' => Bx ((∃ ρ2, Ext w ρ ρ2 ∧ YB w' ρ2 M (toK S T (k + 1))) ∧ Fr (Cq ρ 2) w w')) ?_
      apply Exists.intro
      apply And.intro
      · go_region_with (first | (go_at_call 37; refine hv.out.mono ?_; rintro e w2 ⟨rfl, ⟨ρ2, hx2, hq⟩, hfq⟩))
        all_goals exact ⟨rfl, ⟨⟨ρ2, hx1.out.trans (w' := wr) hx2 hf.out.size, hq⟩, Fr.col (P := fun n => n = 2) (hf.out.drew) hx1.out hfq⟩⟩
      rintro wq ⟨hX2, hf2⟩
      replace hX2 := Bx.mk hX2
      replace hf2 := Bx.mk hf2
      clear c0 hl m0 hlw hv hE hf hY1
      go_wp2_with fail
      go_roundw
      case rel => exact ⟨k + 1, by omega, by go_num, hX2, hf2⟩
      case measure => simp [intOf]; omega
end
end Go.Proofs.Qxb6500326aGreat
