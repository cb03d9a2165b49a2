import Derived.Test.Qxb6500326aGreatW14
namespace Go.Proofs.Qxb6500326aGreat
set_option maxRecDepth 100000
set_option linter.unusedVariables false
set_option linter.unusedSimpArgs false
open Go.RowKit Go.PlainAid
theorem numVal_small {b : Nat → Int} {i k : Nat} (hk : k < 9) (h : ∀ j, i ≤ j → j < i + k → isDig (b j) = true) : 0 ≤ numVal b i k ∧ numVal b i k < 100000000 := by
  have := numVal_bd k (by omega) h
  refine ⟨this.1, Int.lt_of_lt_of_le this.2 ?_⟩
  have h2 : 10 ^ k ≤ 10 ^ 8 := Nat.pow_le_pow_right (by omega) (by omega)
  omega
set_option maxRecDepth 100000 in
set_option maxHeartbeats 8000000 in
theorem atom_dig (r : Nat) (s : ByteArray) (hs : s.size ≤ 40) (ranges : Bool) (st : PS) (l : PS × Int) (v : Value) (w : World) 
    (hL : Bx (Calls Tryz.prog 143 #[pt r] w fun e w' => e = .returned (Y l.2) ∧ RD w' r s l.1 v ∧ Fr (Up r) w w' ∧ st.i ≤ l.1.i ∧ l.1.i ≤ s.size))
    (hsk : st.i ≤ l.1.i) (hsl : l.1.i ≤ s.size) (d1 : 48 ≤ l.2) (d2 : l.2 ≤ 57) (R : PS × Int) (hRes : Bx (R = if 9 < digEnd (bt s) s.size l.1.i - l.1.i then ((l.1.go (digEnd (bt s) s.size l.1.i)).fail 4 l.1.i, -1) else (l.1.go (digEnd (bt s) s.size l.1.i)).add (nNum (numVal (bt s) l.1.i (digEnd (bt s) s.size l.1.i - l.1.i))))) :
    Calls Tryz.prog 234 #[pt r, .bool ranges] w (RC r s w st R) := by
  have hb := get_bt s
  go_enter Tryz.func234, Tryz.ntmps234

  go_wp2_with (first
    | (go_at_call 143; refine hL.out.mono ?_; clear hL; rintro e w1 ⟨rfl, hR1, hf1, -, -⟩; have hR1 := Bx.mk hR1; have c1 := hR1.out.row.cell 1 (by omega); have z1 := hR1.out.row.frozen 1; have c0 := hR1.out.row.cell 0 (by omega); simp only [rdC] at c1 c0))

  go_loopw [7] (fun vv wr => ∃ i : Nat, l.1.i ≤ i ∧ i ≤ s.size ∧ digEnd (bt s) s.size i = digEnd (bt s) s.size l.1.i ∧ vv = I (numVal (bt s) l.1.i (i - l.1.i)) ∧ (∀ j, l.1.i ≤ j → j < i → isDig (bt s j) = true) ∧ RD wr r s (l.1.go i) v ∧ Fr (Up r) w wr) (fun _ wr => s.size - cellN wr ⟨r, 1, none⟩)
  case atStart => exact ⟨l.1.i, Nat.le_refl _, hsl, rfl, by simp [numVal], fun j a b => by omega, hR1.out, hf1⟩
  case round =>
    clear c0 c1 z1 hR1 hf1
    obtain ⟨i, g1, g2, g3, rfl, gd, hR, hfr⟩ := hrel
    have c0 := hR.row.cell 0 (by omega)
    have c1 := hR.row.cell 1 (by omega)
    have z1 := hR.row.frozen 1
    simp only [rdC, PS.go] at c0 c1
    have hRb := Bx.mk hR
    have hcn : Bx (cellN wr ⟨r, 1, none⟩ = i) := Bx.mk (by unfold cellN; rw [c1]; simp)
    clear hR
    by_cases hlt : i < s.size
    · have hd : decide ((i : Int) < (s.size : Int)) = true := decide_eq_true (by omega)
      have hcb1 := bt_nonneg s i
      have hcb2 := bt_le s i
      by_cases e1 : 48 ≤ bt s i
      · have e1d : decide ((48 : Int) ≤ bt s i) = true := decide_eq_true e1
        by_cases e2 : bt s i ≤ 57
        · have e2d : decide (bt s i ≤ (57 : Int)) = true := decide_eq_true e2
          have hdg : isDig (bt s i) = true := isDig_iff.2 ⟨e1, e2⟩
          have hg3 : Bx (digEnd (bt s) s.size (i + 1) = digEnd (bt s) s.size l.1.i) := Bx.mk ((runF_step hlt hdg).symm.trans g3)
          have gdB : Bx (∀ j, l.1.i ≤ j → j < i + 1 → isDig (bt s j) = true) := Bx.mk (fun j a b => by
            rcases Nat.lt_or_ge j i with h | h
            · exact gd j a h
            · rw [show j = i from by omega]; exact hdg)
          clear hdg g3
          by_cases h9 : i - l.1.i < 9
          · have t9 : decide ((i : Int) - (l.1.i : Int) < 9) = true := decide_eq_true (by omega)
            have hsm := numVal_small (b := bt s) (i := l.1.i) h9 (fun j a b => gd j a (by omega))
            have hnv : Bx (numVal (bt s) l.1.i (i + 1 - l.1.i) = numVal (bt s) l.1.i (i - l.1.i) * 10 + (bt s i - 48)) := Bx.mk (by
              rw [show i + 1 - l.1.i = (i - l.1.i) + 1 from by omega]
              simp only [numVal]
              rw [if_pos h9, show l.1.i + (i - l.1.i) = i from by omega])
            clear h9 gd
            generalize numVal (bt s) l.1.i (i - l.1.i) = V at *
            obtain ⟨sm1, sm2⟩ := hsm
            go_wp2_with fail
            go_quiet (fail)
            go_wp2_with fail
            go_quiet (fail)
            go_wp2_with fail
            go_roundw
            case rel => exact ⟨i + 1, by omega, by omega, hg3.out, by rw [hnv.out], gdB.out, (hRb.out.drewN _).go' (i + 1) (by omega), (hfr.drewN _).inc 1 _⟩
            case measure =>
              rw [hcn.out, ((hRb.out.drewN _).go' (i + 1) (show ((i : Int) + 1) = ((i + 1 : Nat) : Int) by omega)).cellN]
              show s.size - (i + 1) < s.size - i
              omega
          · have t9 : decide ((i : Int) - (l.1.i : Int) < 9) = false := decide_eq_false (by omega)
            have hnv : Bx (numVal (bt s) l.1.i (i + 1 - l.1.i) = numVal (bt s) l.1.i (i - l.1.i)) := Bx.mk (by
              rw [show i + 1 - l.1.i = (i - l.1.i) + 1 from by omega]
              simp only [numVal]
              rw [if_neg h9])
            clear h9 gd
            generalize numVal (bt s) l.1.i (i - l.1.i) = V at *
            go_wp2_with fail
            go_quiet (fail)
            go_wp2_with fail
            go_roundw
            case rel => exact ⟨i + 1, by omega, by omega, hg3.out, by rw [hnv.out], gdB.out, (hRb.out.drewN _).go' (i + 1) (by omega), (hfr.drewN _).inc 1 _⟩
            case measure =>
              rw [hcn.out, ((hRb.out.drewN _).go' (i + 1) (show ((i : Int) + 1) = ((i + 1 : Nat) : Int) by omega)).cellN]
              show s.size - (i + 1) < s.size - i
              omega
        · have e2d : decide (bt s i ≤ (57 : Int)) = false := decide_eq_false e2
          have e3 : 57 < bt s i := by omega
          have hN := Bx.mk (show ¬ (i < s.size ∧ isDig (bt s i) = true) from fun e => e2 (isDig_iff.1 e.2).2)
          clear e2 gd
          have hend : Bx (digEnd (bt s) s.size l.1.i = i) := Bx.mk (by rw [← g3]; exact runF_fix2 hN.out)
          have hr2 := hRes.out
          rw [hend.out] at hr2
          clear g3 hRes
          by_cases h9 : 9 < i - l.1.i
          · have t9 : decide ((9 : Int) < (i : Int) - (l.1.i : Int)) = true := decide_eq_true (by omega)
            rw [if_pos h9] at hr2
            have hr3 := Bx.mk hr2
            clear h9 hend hr2
            go_wp2_with fail
            go_quiet (fail)
            go_wp2_with (first
              | (go_at_call 144; refine (fail_any r s (l.1.go i) _ 4 l.1.i _ (hRb.out.drewN _)).mono ?_; rintro e w2 ⟨rfl, hR2, hf2⟩))
            
            go_ret
            rw [hr3.out]
            exact ⟨_, rfl, hR2, (hfr.drewN _).trans hf2, by rw [fail_i]; show st.i ≤ i; omega, by rw [fail_i]; exact g2⟩
          · have t9 : decide ((9 : Int) < (i : Int) - (l.1.i : Int)) = false := decide_eq_false (by omega)
            rw [if_neg h9] at hr2
            have hr3 := Bx.mk hr2
            clear h9 hend hr2
            go_wp2_with fail
            go_quiet (fail)
            go_wp2_with (first
              | (go_at_call 173; refine (add_any r s (l.1.go i) _ (nNum (numVal (bt s) l.1.i (i - l.1.i))) _ (hRb.out.drewN _) (by show i ≤ 40; omega)).mono ?_; rintro e w2 ⟨v2, rfl, hR2, hf2⟩))
            
            go_ret
            rw [hr3.out]
            exact ⟨_, rfl, hR2, (hfr.drewN _).trans hf2, by rw [add_i]; show st.i ≤ i; omega, by rw [add_i]; exact g2⟩
      · have e1d : decide ((48 : Int) ≤ bt s i) = false := decide_eq_false e1
        have e3 : bt s i < 48 := by omega
        have hN := Bx.mk (show ¬ (i < s.size ∧ isDig (bt s i) = true) from fun e => e1 (isDig_iff.1 e.2).1)
        clear e1 gd
        have hend : Bx (digEnd (bt s) s.size l.1.i = i) := Bx.mk (by rw [← g3]; exact runF_fix2 hN.out)
        have hr2 := hRes.out
        rw [hend.out] at hr2
        clear g3 hRes
        by_cases h9 : 9 < i - l.1.i
        · have t9 : decide ((9 : Int) < (i : Int) - (l.1.i : Int)) = true := decide_eq_true (by omega)
          rw [if_pos h9] at hr2
          have hr3 := Bx.mk hr2
          clear h9 hend hr2
          go_wp2_with fail
          go_quiet (fail)
          go_wp2_with (first
            | (go_at_call 144; refine (fail_any r s (l.1.go i) _ 4 l.1.i _ (hRb.out.drewN _)).mono ?_; rintro e w2 ⟨rfl, hR2, hf2⟩))
          
          go_ret
          rw [hr3.out]
          exact ⟨_, rfl, hR2, (hfr.drewN _).trans hf2, by rw [fail_i]; show st.i ≤ i; omega, by rw [fail_i]; exact g2⟩
        · have t9 : decide ((9 : Int) < (i : Int) - (l.1.i : Int)) = false := decide_eq_false (by omega)
          rw [if_neg h9] at hr2
          have hr3 := Bx.mk hr2
          clear h9 hend hr2
          go_wp2_with fail
          go_quiet (fail)
          go_wp2_with (first
            | (go_at_call 173; refine (add_any r s (l.1.go i) _ (nNum (numVal (bt s) l.1.i (i - l.1.i))) _ (hRb.out.drewN _) (by show i ≤ 40; omega)).mono ?_; rintro e w2 ⟨v2, rfl, hR2, hf2⟩))
          
          go_ret
          rw [hr3.out]
          exact ⟨_, rfl, hR2, (hfr.drewN _).trans hf2, by rw [add_i]; show st.i ≤ i; omega, by rw [add_i]; exact g2⟩
    · have hii : i = s.size := by omega
      have hd : decide ((i : Int) < (s.size : Int)) = false := decide_eq_false (by omega)
      have hdn : decide (i < s.size) = false := decide_eq_false (by omega)
      have hN := Bx.mk (show ¬ (i < s.size ∧ isDig (bt s i) = true) from fun e => hlt e.1)
      clear hlt gd
      have hiB := Bx.mk hii
      clear hii
      have hend : Bx (digEnd (bt s) s.size l.1.i = i) := Bx.mk (by rw [← g3]; exact runF_fix2 hN.out)
      have hr2 := hRes.out
      rw [hend.out] at hr2
      clear g3 hRes
      by_cases h9 : 9 < i - l.1.i
      · have t9 : decide ((9 : Int) < (i : Int) - (l.1.i : Int)) = true := decide_eq_true (by omega)
        rw [if_pos h9] at hr2
        have hr3 := Bx.mk hr2
        clear h9 hend hr2
        go_wp2_with fail
        go_quiet (fail)
        go_wp2_with (first
          | (go_at_call 144; refine (fail_any r s (l.1.go i) _ 4 l.1.i _ (hRb.out.drewN _)).mono ?_; rintro e w2 ⟨rfl, hR2, hf2⟩))
        
        go_ret
        rw [hr3.out]
        exact ⟨_, rfl, hR2, (hfr.drewN _).trans hf2, by rw [fail_i]; show st.i ≤ i; omega, by rw [fail_i]; exact g2⟩
      · have t9 : decide ((9 : Int) < (i : Int) - (l.1.i : Int)) = false := decide_eq_false (by omega)
        rw [if_neg h9] at hr2
        have hr3 := Bx.mk hr2
        clear h9 hend hr2
        go_wp2_with fail
        go_quiet (fail)
        go_wp2_with (first
          | (go_at_call 173; refine (add_any r s (l.1.go i) _ (nNum (numVal (bt s) l.1.i (i - l.1.i))) _ (hRb.out.drewN _) (by show i ≤ 40; omega)).mono ?_; rintro e w2 ⟨v2, rfl, hR2, hf2⟩))
        
        go_ret
        rw [hr3.out]
        exact ⟨_, rfl, hR2, (hfr.drewN _).trans hf2, by rw [add_i]; show st.i ≤ i; omega, by rw [add_i]; exact g2⟩
end Go.Proofs.Qxb6500326aGreat
