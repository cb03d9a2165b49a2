import Derived.Test.Qxb6500326aGreatW11a
import Derived.Test.Qxb6500326aGreatW11b
import Derived.Test.Qxb6500326aGreatW11c
namespace Go.Proofs.Qxb6500326aGreat
set_option maxRecDepth 100000
set_option linter.unusedVariables false
set_option linter.unusedSimpArgs false
open Go.RowKit Go.PlainAid
set_option maxRecDepth 100000 in
set_option maxHeartbeats 4000000 in
theorem expr_any (r : Nat) (s : ByteArray) (hs : s.size ≤ 40) (ex : Bool → PS → PS × Int) (F f : Nat)
    (hch : ∀ ranges st v w, RD w r s st v → st.i ≤ s.size → s.size - st.i < f → Calls Tryz.prog 171 #[pt r, I 2, .bool ranges] w (RC r s w st (chain2 (bt s) s.size ex F ranges st)))
    (hmono : ∀ ranges st, st.i ≤ s.size → st.i ≤ (chain2 (bt s) s.size ex F ranges st).1.i ∧ (chain2 (bt s) s.size ex F ranges st).1.i ≤ s.size) :
    OK1 142 r s (exprM (bt s) s.size ex F) f := by
  intro ranges st v w h h1 h2
  have hcu := Bx.mk (hch ranges st v w h h1 h2)
  have hm := hmono ranges st h1
  rw [exprM_eq (bt s) s.size ex F ranges st _ _ rfl rfl]
  generalize hu : chain2 (bt s) s.size ex F ranges st = u at *
  have hL := Bx.mk (fun v w h => (look_any r s u.1 v w h hm.2 hs))
  have hpos := Bx.mk (look_pos (b := bt s) (n := s.size) (st := u.1))
  have hli := look_i (bt s) s.size u.1
  have hsk := le_skip (b := bt s) (n := s.size) u.1.i
  have hsl := skip_le (b := bt s) (n := s.size) hm.2
  rw [← hli] at hsk hsl
  clear hli h hu
  generalize u.1.look (bt s) s.size = l at *
  by_cases hc : isCmp l.2 = true
  · rw [if_pos hc]
    rw [isCmp_iff] at hc
    have hp1 := (hpos.out (by omega)).1
    cases hir : isRange l.1.n u.2
    · rw [if_neg (by decide)]
      rcases hc with hc | hc | hc
      · exact expr_61 r s hs ex F f st u l w ranges hm.1 h2 hcu hL hc hp1 hsk (Bx.mk hir) (cmpOp_fits hp1) (fun v w h => hch false _ v w h)
      · exact expr_60 r s hs ex F f st u l w ranges hm.1 h2 hcu hL hc hp1 hsk (Bx.mk hir) (cmpOp_fits hp1) (fun v w h => hch false _ v w h)
      · exact expr_62 r s hs ex F f st u l w ranges hm.1 h2 hcu hL hc hp1 hsk (Bx.mk hir) (cmpOp_fits hp1) (fun v w h => hch false _ v w h)
    · rw [if_pos rfl]
      have hirB := Bx.mk hir
      have hchB := Bx.mk hch
      clear hch hmono hir
      rcases hc with hc | hc | hc
      · have t1 : (l.2 != 60) = true := by simp [hc]
        have t2 : (l.2 != 61) = false := by simp [hc]
        have t3 : (l.2 != 62) = true := by simp [hc]
        clear hc
        go_enter Tryz.func142, Tryz.ntmps142
        go_wp2_with (first
          | (go_at_call 171; refine hcu.out.mono ?_; rintro e w1 ⟨v1, rfl, hR1, hf1, i1, i2⟩; have hR1 := Bx.mk hR1)
          | (go_at_call 143; refine (hL.out _ _ hR1.out).mono ?_; rintro e w2 ⟨rfl, hR2, hf2⟩; have hR2 := Bx.mk hR2)
          | (go_at_call 172; refine (isRange_any r s l.1 _ u.2 _ hR2.out).mono ?_; rintro e w3 ⟨rfl, rfl⟩; rw [hirB.out]; have c1 := hR2.out.row.cell 1 (by omega); simp only [rdC] at c1)
          | (go_at_call 144; refine (fail_any r s l.1 _ 3 l.1.i _ hR2.out).mono ?_; rintro e w4 ⟨rfl, hR4, hf4⟩))
        go_ret
        exact ⟨v1, rfl, hR4, (hf1.trans hf2).trans hf4, by rw [fail_i]; omega, by rw [fail_i]; omega⟩
      · have t1 : (l.2 != 60) = false := by simp [hc]
        have t2 : (l.2 != 61) = true := by simp [hc]
        have t3 : (l.2 != 62) = true := by simp [hc]
        clear hc
        go_enter Tryz.func142, Tryz.ntmps142
        go_wp2_with (first
          | (go_at_call 171; refine hcu.out.mono ?_; rintro e w1 ⟨v1, rfl, hR1, hf1, i1, i2⟩; have hR1 := Bx.mk hR1)
          | (go_at_call 143; refine (hL.out _ _ hR1.out).mono ?_; rintro e w2 ⟨rfl, hR2, hf2⟩; have hR2 := Bx.mk hR2)
          | (go_at_call 172; refine (isRange_any r s l.1 _ u.2 _ hR2.out).mono ?_; rintro e w3 ⟨rfl, rfl⟩; rw [hirB.out]; have c1 := hR2.out.row.cell 1 (by omega); simp only [rdC] at c1)
          | (go_at_call 144; refine (fail_any r s l.1 _ 3 l.1.i _ hR2.out).mono ?_; rintro e w4 ⟨rfl, hR4, hf4⟩))
        go_ret
        exact ⟨v1, rfl, hR4, (hf1.trans hf2).trans hf4, by rw [fail_i]; omega, by rw [fail_i]; omega⟩
      · have t1 : (l.2 != 60) = true := by simp [hc]
        have t2 : (l.2 != 61) = true := by simp [hc]
        have t3 : (l.2 != 62) = false := by simp [hc]
        clear hc
        go_enter Tryz.func142, Tryz.ntmps142
        go_wp2_with (first
          | (go_at_call 171; refine hcu.out.mono ?_; rintro e w1 ⟨v1, rfl, hR1, hf1, i1, i2⟩; have hR1 := Bx.mk hR1)
          | (go_at_call 143; refine (hL.out _ _ hR1.out).mono ?_; rintro e w2 ⟨rfl, hR2, hf2⟩; have hR2 := Bx.mk hR2)
          | (go_at_call 172; refine (isRange_any r s l.1 _ u.2 _ hR2.out).mono ?_; rintro e w3 ⟨rfl, rfl⟩; rw [hirB.out]; have c1 := hR2.out.row.cell 1 (by omega); simp only [rdC] at c1)
          | (go_at_call 144; refine (fail_any r s l.1 _ 3 l.1.i _ hR2.out).mono ?_; rintro e w4 ⟨rfl, hR4, hf4⟩))
        go_ret
        exact ⟨v1, rfl, hR4, (hf1.trans hf2).trans hf4, by rw [fail_i]; omega, by rw [fail_i]; omega⟩
  · rw [if_neg hc]
    have hc2 : ¬ (l.2 = 61 ∨ l.2 = 60 ∨ l.2 = 62) := fun e => hc (isCmp_iff.2 e)
    have t1 : (l.2 != 61) = true := by simp; omega
    have t2 : (l.2 != 60) = true := by simp; omega
    have t3 : (l.2 != 62) = true := by simp; omega
    clear hc hc2 hch hmono
    go_enter Tryz.func142, Tryz.ntmps142
    go_wp2_with (first
      | (go_at_call 171; refine hcu.out.mono ?_; rintro e w1 ⟨v1, rfl, hR1, hf1, i1, i2⟩; have hR1 := Bx.mk hR1)
      | (go_at_call 143; refine (hL.out _ _ hR1.out).mono ?_; rintro e w2 ⟨rfl, hR2, hf2⟩; have hR2 := Bx.mk hR2))
    go_ret
    exact ⟨v1, rfl, hR2.out, hf1.trans hf2, by show st.i ≤ l.1.i; omega, by show l.1.i ≤ s.size; omega⟩
end Go.Proofs.Qxb6500326aGreat
