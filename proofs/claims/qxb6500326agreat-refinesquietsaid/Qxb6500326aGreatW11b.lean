import Derived.Test.Qxb6500326aGreatW11
namespace Go.Proofs.Qxb6500326aGreat
set_option maxRecDepth 100000
set_option linter.unusedVariables false
set_option linter.unusedSimpArgs false
open Go.RowKit Go.PlainAid
set_option maxRecDepth 100000 in
set_option maxHeartbeats 4000000 in
theorem expr_60 (r : Nat) (s : ByteArray) (hs : s.size ≤ 40) (ex : Bool → PS → PS × Int) (F f : Nat) (st : PS) (u l : PS × Int) (w : World) (ranges : Bool) (h1 : st.i ≤ u.1.i) (h2 : s.size - st.i < f)
    (hch : Bx (Calls Tryz.prog 171 #[pt r, I 2, .bool ranges] w (RC r s w st u)))
    (hL : Bx (∀ v w, RD w r s u.1 v → Calls Tryz.prog 143 #[pt r] w fun e w' => e = .returned (Y l.2) ∧ RD w' r s l.1 v ∧ Fr (Up r) w w'))
    (hc : l.2 = 60) (hp1 : l.1.i < s.size) (hsk : u.1.i ≤ l.1.i) (hirB : Bx (isRange l.1.n u.2 = false))
    (hfit : l.1.i + (cmpOp l.2 (nextB (bt s) s.size l.1.i)).2 ≤ s.size)
    (hrec : ∀ v w, RD w r s (l.1.go (l.1.i + (cmpOp l.2 (nextB (bt s) s.size l.1.i)).2)) v → (l.1.go (l.1.i + (cmpOp l.2 (nextB (bt s) s.size l.1.i)).2)).i ≤ s.size → s.size - (l.1.go (l.1.i + (cmpOp l.2 (nextB (bt s) s.size l.1.i)).2)).i < f → Calls Tryz.prog 171 #[pt r, I 2, .bool false] w (RC r s w (l.1.go (l.1.i + (cmpOp l.2 (nextB (bt s) s.size l.1.i)).2)) (chain2 (bt s) s.size ex F false (l.1.go (l.1.i + (cmpOp l.2 (nextB (bt s) s.size l.1.i)).2))))) :
    Calls Tryz.prog 142 #[pt r, .bool ranges] w (RC r s w st ((chain2 (bt s) s.size ex F false (l.1.go (l.1.i + (cmpOp l.2 (nextB (bt s) s.size l.1.i)).2))).1.add (nBin (cmpOp l.2 (nextB (bt s) s.size l.1.i)).1 u.2 (chain2 (bt s) s.size ex F false (l.1.go (l.1.i + (cmpOp l.2 (nextB (bt s) s.size l.1.i)).2))).2))) := by
  have hb := get_bt s
  have t1 : (l.2 != 60) = false := by simp [hc]
  have t2 : (l.2 == 60) = true := by simp [hc]
  have t3 : (l.2 != 61) = true := by simp [hc]
  have t4 : (l.2 == 61) = false := by simp [hc]
  have t5 : (l.2 != 62) = true := by simp [hc]
  have t6 : (l.2 == 62) = false := by simp [hc]
  by_cases hn : l.1.i + 1 < s.size
  · by_cases hd : bt s (l.1.i + 1) = 61
    · have hnd : decide (((l.1.i : Int) + 1) < (s.size : Int)) = true := decide_eq_true (by omega)
      have d61 : (bt s (l.1.i + 1) == 61) = true := by simp [hd]
      have d62 : (bt s (l.1.i + 1) == 62) = false := by simp [hd]
      have hcm : Bx (cmpOp l.2 (nextB (bt s) s.size l.1.i) = (4, 2)) := Bx.mk (by rw [hc]; unfold nextB; simp [cmpOp, hn, hd])
      rw [hcm.out] at hrec hfit ⊢
      have hrec := Bx.mk (fun v w h => hrec v w h (by show l.1.i + 2 ≤ s.size; exact hfit) (by show s.size - (l.1.i + 2) < f; omega))
      generalize chain2 (bt s) s.size ex F false (l.1.go (l.1.i + 2)) = u2 at *
      have hcB := Bx.mk hc
      clear hc
      go_enter Tryz.func142, Tryz.ntmps142
      go_wp2_with (first
        | (go_at_call 171; refine hch.out.mono ?_; rintro e w1 ⟨v1, rfl, hR1, hf1, i1, i2⟩; have hR1 := Bx.mk hR1)
        | (go_at_call 143; refine (hL.out _ _ hR1.out).mono ?_; rintro e w2 ⟨rfl, hR2, hf2⟩; have hR2 := Bx.mk hR2)
        | (go_at_call 172; refine (isRange_any r s l.1 _ u.2 _ hR2.out).mono ?_; rintro e w3 ⟨rfl, rfl⟩; rw [hirB.out]; have c1 := hR2.out.row.cell 1 (by omega); have z1 := hR2.out.row.frozen 1; have c0 := hR2.out.row.cell 0 (by omega); simp only [rdC] at c1 c0))
      go_quiet (fail)
      go_wp2_with fail
      go_quiet (fail)
      go_wp2_with (first
        | (go_at_call 171; refine (hrec.out _ _ ((hR2.out.drewN _).go' (l.1.i + 2) (by omega))).mono ?_; rintro e w4 ⟨v4, rfl, hR4, hf4, i3, i4⟩; have hR4 := Bx.mk hR4)
        | (go_at_call 173; refine (add_any r s u2.1 v4 (nBin 4 u.2 u2.2) _ hR4.out (by omega)).mono ?_; rintro e w5 ⟨v5, rfl, hR5, hf5⟩; have hR5 := Bx.mk hR5))
      go_ret
      have i5 : l.1.i + 2 ≤ u2.1.i := i3
      exact ⟨v5, rfl, hR5.out, ((((hf1.trans hf2).drewN _).inc 1 _).trans hf4).trans hf5, by rw [add_i]; omega, by rw [add_i]; exact i4⟩
    · have e1 := hd
      clear hd
      by_cases hd : bt s (l.1.i + 1) = 62
      · have hnd : decide (((l.1.i : Int) + 1) < (s.size : Int)) = true := decide_eq_true (by omega)
        have d61 : (bt s (l.1.i + 1) == 61) = false := by simp [hd]
        have d62 : (bt s (l.1.i + 1) == 62) = true := by simp [hd]
        have hcm : Bx (cmpOp l.2 (nextB (bt s) s.size l.1.i) = (2, 2)) := Bx.mk (by rw [hc]; unfold nextB; simp [cmpOp, hn, hd])
        rw [hcm.out] at hrec hfit ⊢
        have hrec := Bx.mk (fun v w h => hrec v w h (by show l.1.i + 2 ≤ s.size; exact hfit) (by show s.size - (l.1.i + 2) < f; omega))
        generalize chain2 (bt s) s.size ex F false (l.1.go (l.1.i + 2)) = u2 at *
        have hcB := Bx.mk hc
        clear hc
        go_enter Tryz.func142, Tryz.ntmps142
        go_wp2_with (first
          | (go_at_call 171; refine hch.out.mono ?_; rintro e w1 ⟨v1, rfl, hR1, hf1, i1, i2⟩; have hR1 := Bx.mk hR1)
          | (go_at_call 143; refine (hL.out _ _ hR1.out).mono ?_; rintro e w2 ⟨rfl, hR2, hf2⟩; have hR2 := Bx.mk hR2)
          | (go_at_call 172; refine (isRange_any r s l.1 _ u.2 _ hR2.out).mono ?_; rintro e w3 ⟨rfl, rfl⟩; rw [hirB.out]; have c1 := hR2.out.row.cell 1 (by omega); have z1 := hR2.out.row.frozen 1; have c0 := hR2.out.row.cell 0 (by omega); simp only [rdC] at c1 c0))
        go_quiet (fail)
        go_wp2_with fail
        go_quiet (fail)
        go_wp2_with (first
          | (go_at_call 171; refine (hrec.out _ _ ((hR2.out.drewN _).go' (l.1.i + 2) (by omega))).mono ?_; rintro e w4 ⟨v4, rfl, hR4, hf4, i3, i4⟩; have hR4 := Bx.mk hR4)
          | (go_at_call 173; refine (add_any r s u2.1 v4 (nBin 2 u.2 u2.2) _ hR4.out (by omega)).mono ?_; rintro e w5 ⟨v5, rfl, hR5, hf5⟩; have hR5 := Bx.mk hR5))
        go_ret
        have i5 : l.1.i + 2 ≤ u2.1.i := i3
        exact ⟨v5, rfl, hR5.out, ((((hf1.trans hf2).drewN _).inc 1 _).trans hf4).trans hf5, by rw [add_i]; omega, by rw [add_i]; exact i4⟩
      · have e2 := hd
        have hnd : decide (((l.1.i : Int) + 1) < (s.size : Int)) = true := decide_eq_true (by omega)
        have d61 : (bt s (l.1.i + 1) == 61) = false := by simpa using e1
        have d62 : (bt s (l.1.i + 1) == 62) = false := by simpa using e2
        have hcm : Bx (cmpOp l.2 (nextB (bt s) s.size l.1.i) = (3, 1)) := Bx.mk (by rw [hc]; unfold nextB; simp [cmpOp, hn, e1, e2])
        rw [hcm.out] at hrec hfit ⊢
        have hrec := Bx.mk (fun v w h => hrec v w h (by show l.1.i + 1 ≤ s.size; exact hfit) (by show s.size - (l.1.i + 1) < f; omega))
        generalize chain2 (bt s) s.size ex F false (l.1.go (l.1.i + 1)) = u2 at *
        have hcB := Bx.mk hc
        clear hc
        go_enter Tryz.func142, Tryz.ntmps142
        go_wp2_with (first
          | (go_at_call 171; refine hch.out.mono ?_; rintro e w1 ⟨v1, rfl, hR1, hf1, i1, i2⟩; have hR1 := Bx.mk hR1)
          | (go_at_call 143; refine (hL.out _ _ hR1.out).mono ?_; rintro e w2 ⟨rfl, hR2, hf2⟩; have hR2 := Bx.mk hR2)
          | (go_at_call 172; refine (isRange_any r s l.1 _ u.2 _ hR2.out).mono ?_; rintro e w3 ⟨rfl, rfl⟩; rw [hirB.out]; have c1 := hR2.out.row.cell 1 (by omega); have z1 := hR2.out.row.frozen 1; have c0 := hR2.out.row.cell 0 (by omega); simp only [rdC] at c1 c0))
        go_quiet (fail)
        go_wp2_with fail
        go_quiet (fail)
        go_wp2_with (first
          | (go_at_call 171; refine (hrec.out _ _ ((hR2.out.drewN _).go' (l.1.i + 1) (by omega))).mono ?_; rintro e w4 ⟨v4, rfl, hR4, hf4, i3, i4⟩; have hR4 := Bx.mk hR4)
          | (go_at_call 173; refine (add_any r s u2.1 v4 (nBin 3 u.2 u2.2) _ hR4.out (by omega)).mono ?_; rintro e w5 ⟨v5, rfl, hR5, hf5⟩; have hR5 := Bx.mk hR5))
        go_ret
        have i5 : l.1.i + 1 ≤ u2.1.i := i3
        exact ⟨v5, rfl, hR5.out, ((((hf1.trans hf2).drewN _).inc 1 _).trans hf4).trans hf5, by rw [add_i]; omega, by rw [add_i]; exact i4⟩
  · have hnd : decide (((l.1.i : Int) + 1) < (s.size : Int)) = false := decide_eq_false (by omega)
    have hcm : Bx (cmpOp l.2 (nextB (bt s) s.size l.1.i) = (3, 1)) := Bx.mk (by rw [hc]; unfold nextB; simp [cmpOp, hn])
    rw [hcm.out] at hrec hfit ⊢
    have hrec := Bx.mk (fun v w h => hrec v w h (by show l.1.i + 1 ≤ s.size; exact hfit) (by show s.size - (l.1.i + 1) < f; omega))
    generalize chain2 (bt s) s.size ex F false (l.1.go (l.1.i + 1)) = u2 at *
    have hcB := Bx.mk hc
    clear hc
    go_enter Tryz.func142, Tryz.ntmps142
    go_wp2_with (first
      | (go_at_call 171; refine hch.out.mono ?_; rintro e w1 ⟨v1, rfl, hR1, hf1, i1, i2⟩; have hR1 := Bx.mk hR1)
      | (go_at_call 143; refine (hL.out _ _ hR1.out).mono ?_; rintro e w2 ⟨rfl, hR2, hf2⟩; have hR2 := Bx.mk hR2)
      | (go_at_call 172; refine (isRange_any r s l.1 _ u.2 _ hR2.out).mono ?_; rintro e w3 ⟨rfl, rfl⟩; rw [hirB.out]; have c1 := hR2.out.row.cell 1 (by omega); have z1 := hR2.out.row.frozen 1; have c0 := hR2.out.row.cell 0 (by omega); simp only [rdC] at c1 c0))
    go_quiet (fail)
    go_wp2_with fail

    go_wp2_with (first
      | (go_at_call 171; refine (hrec.out _ _ ((hR2.out.drewN _).go' (l.1.i + 1) (by omega))).mono ?_; rintro e w4 ⟨v4, rfl, hR4, hf4, i3, i4⟩; have hR4 := Bx.mk hR4)
      | (go_at_call 173; refine (add_any r s u2.1 v4 (nBin 3 u.2 u2.2) _ hR4.out (by omega)).mono ?_; rintro e w5 ⟨v5, rfl, hR5, hf5⟩; have hR5 := Bx.mk hR5))
    go_ret
    have i5 : l.1.i + 1 ≤ u2.1.i := i3
    exact ⟨v5, rfl, hR5.out, ((((hf1.trans hf2).drewN _).inc 1 _).trans hf4).trans hf5, by rw [add_i]; omega, by rw [add_i]; exact i4⟩
end Go.Proofs.Qxb6500326aGreat
