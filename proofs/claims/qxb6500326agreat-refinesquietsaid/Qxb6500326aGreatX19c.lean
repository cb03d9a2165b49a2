import Derived.Test.Qxb6500326aGreatX18
namespace Go.Proofs.Qxb6500326aGreat
set_option maxRecDepth 100000
set_option linter.unusedVariables false
set_option linter.unusedSimpArgs false
open Go.RowKit Go.PlainAid
set_option maxRecDepth 100000 in
set_option maxHeartbeats 4000000 in
theorem after_1yy_close (B : FB) (b : Nat → Int) (n nt k : Nat) (st s0 : RS) (t : Tok) (w : World) (hnb0 : ∀ j, w.heap.size ≤ j → ¬ FmS B j)
    (hlk : Calls Tryz.prog 190 #[pt B.f] w (Ran w B b n nt k s0 (tkV t)))
    (d6 : (t.kind == 6) = true) (hs : ∀ wx, Calls Tryz.prog 191 #[I t.n] wx (fun e w' => e = .returned (I 1) ∧ wx = w'))
    (p2 : Int) (d2 : (p2 == 2) = true) (ht2 : ∀ wx, AF wx B b n nt k s0 → Calls Tryz.prog 192 #[pt B.f] wx (Ran wx B b n nt k s0 (I p2)))
    (s1 : RS) (hj2 : ∀ wx, AF wx B b n nt k s0 → Calls Tryz.prog 193 #[pt B.f] wx (Ran wx B b n nt k s1 (.tuple #[])))
    (p1 : Int) (d1 : (p1 == 1) = true) (ht1 : ∀ wx, AF wx B b n nt k s1 → Calls Tryz.prog 192 #[pt B.f] wx (Ran wx B b n nt k s1 (I p1)))
    (s2 : RS) (hj1 : ∀ wx, AF wx B b n nt k s1 → Calls Tryz.prog 193 #[pt B.f] wx (Ran wx B b n nt k s2 (.tuple #[])))
    (R : RS)
    (hcl : ∀ wx, AF wx B b n nt k s2 → Calls Tryz.prog 194 #[pt B.f, tkV t] wx (Turned wx B b n nt k s2 R)) :
    Calls Tryz.prog 160 #[pt B.f] w (Turned w B b n nt k st R) := by
  have hlk := Bx.mk hlk
  have hnb0 := Bx.mk hnb0
  have hs := Bx.mk hs
  have ht2 := Bx.mk ht2
  have hj2 := Bx.mk hj2
  have ht1 := Bx.mk ht1
  have hj1 := Bx.mk hj1
  have hcl := Bx.mk hcl
  go_enter Tryz.func160, Tryz.ntmps160
  go_wp2_with (first
        | (go_at_call 190; refine hlk.out.mono ?_; clear hlk; rintro e w1 ⟨rfl, hA1, hf1⟩; have hT1 := Bx.mk (tk_new w1 t rfl); have hA1 := Bx.mk (hA1.alloc (.cells (tkA t) 213)); have j0 := hT1.out.cell 0 (by omega); have j1 := hT1.out.cell 1 (by omega); have j4 := hT1.out.cell 4 (by omega); simp only [tkC] at j0 j1 j4)
        | (go_at_call 191; refine (hs.out _).mono ?_; clear hs; rintro e w' ⟨rfl, rfl⟩)
        | (go_at_call 192; refine (ht2.out _ hA1.out).mono ?_; clear ht2; rintro e w2 ⟨rfl, hA2, hf2⟩; have hT2 := Bx.mk (hf2.row hT1.out (hnb0.out _ (Nat.le_trans hf1.size (Nat.le_refl _)))); have hA2 := Bx.mk hA2; clear hA1; clear j0 j4 j1; have j0 := hT2.out.cell 0 (by omega); have j1 := hT2.out.cell 1 (by omega); have j4 := hT2.out.cell 4 (by omega); simp only [tkC] at j0 j1 j4)
        | (go_at_call 193; refine (hj2.out _ hA2.out).mono ?_; clear hj2; rintro e w3 ⟨rfl, hA3, hf3⟩; have hT3 := Bx.mk (hf3.row hT2.out (hnb0.out _ (Nat.le_trans hf1.size (Nat.le_refl _)))); have hA3 := Bx.mk hA3; clear hA2; clear j0 j4 j1; have j0 := hT3.out.cell 0 (by omega); have j1 := hT3.out.cell 1 (by omega); have j4 := hT3.out.cell 4 (by omega); simp only [tkC] at j0 j1 j4)
        | (go_at_call 192; refine (ht1.out _ hA3.out).mono ?_; clear ht1; rintro e w4 ⟨rfl, hA4, hf4⟩; have hT4 := Bx.mk (hf4.row hT3.out (hnb0.out _ (Nat.le_trans hf1.size (Nat.le_refl _)))); have hA4 := Bx.mk hA4; clear hA3; clear j0 j4 j1; have j0 := hT4.out.cell 0 (by omega); have j1 := hT4.out.cell 1 (by omega); have j4 := hT4.out.cell 4 (by omega); simp only [tkC] at j0 j1 j4)
        | (go_at_call 193; refine (hj1.out _ hA4.out).mono ?_; clear hj1; rintro e w5 ⟨rfl, hA5, hf5⟩; have hT5 := Bx.mk (hf5.row hT4.out (hnb0.out _ (Nat.le_trans hf1.size (Nat.le_refl _)))); have hA5 := Bx.mk hA5; clear hA4; clear j0 j4 j1; have j0 := hT5.out.cell 0 (by omega); have j1 := hT5.out.cell 1 (by omega); have j4 := hT5.out.cell 4 (by omega); simp only [tkC] at j0 j1 j4; clear j0 j4 j1; have j0 := hT5.out.cell 0 (by omega); have j1 := hT5.out.cell 1 (by omega); have j2 := hT5.out.cell 2 (by omega); have j3 := hT5.out.cell 3 (by omega); have j4 := hT5.out.cell 4 (by omega); have j5 := hT5.out.cell 5 (by omega); have j6 := hT5.out.cell 6 (by omega); have j7 := hT5.out.cell 7 (by omega); have j8 := hT5.out.cell 8 (by omega); simp only [tkC] at j0 j1 j2 j3 j4 j5 j6 j7 j8)
        | (go_at_call 194; refine (hcl.out _ hA5.out).mono ?_; clear hcl; rintro e w6 ⟨rfl, hT, hfz⟩))
  go_end0
  exact ⟨rfl, hT, (((((((Fr.refl _ _).trans hf1).alloc _).trans hf2).trans hf3).trans hf4).trans hf5).trans hfz⟩
set_option maxRecDepth 100000 in
set_option maxHeartbeats 4000000 in
theorem after_1ny_close (B : FB) (b : Nat → Int) (n nt k : Nat) (st s0 : RS) (t : Tok) (w : World) (hnb0 : ∀ j, w.heap.size ≤ j → ¬ FmS B j)
    (hlk : Calls Tryz.prog 190 #[pt B.f] w (Ran w B b n nt k s0 (tkV t)))
    (d6 : (t.kind == 6) = true) (hs : ∀ wx, Calls Tryz.prog 191 #[I t.n] wx (fun e w' => e = .returned (I 1) ∧ wx = w'))
    (p2 : Int) (d2 : (p2 == 2) = false) (ht2 : ∀ wx, AF wx B b n nt k s0 → Calls Tryz.prog 192 #[pt B.f] wx (Ran wx B b n nt k s0 (I p2)))
    (p1 : Int) (d1 : (p1 == 1) = true) (ht1 : ∀ wx, AF wx B b n nt k s0 → Calls Tryz.prog 192 #[pt B.f] wx (Ran wx B b n nt k s0 (I p1)))
    (s2 : RS) (hj1 : ∀ wx, AF wx B b n nt k s0 → Calls Tryz.prog 193 #[pt B.f] wx (Ran wx B b n nt k s2 (.tuple #[])))
    (R : RS)
    (hcl : ∀ wx, AF wx B b n nt k s2 → Calls Tryz.prog 194 #[pt B.f, tkV t] wx (Turned wx B b n nt k s2 R)) :
    Calls Tryz.prog 160 #[pt B.f] w (Turned w B b n nt k st R) := by
  have hlk := Bx.mk hlk
  have hnb0 := Bx.mk hnb0
  have hs := Bx.mk hs
  have ht2 := Bx.mk ht2
  have ht1 := Bx.mk ht1
  have hj1 := Bx.mk hj1
  have hcl := Bx.mk hcl
  go_enter Tryz.func160, Tryz.ntmps160
  go_wp2_with (first
        | (go_at_call 190; refine hlk.out.mono ?_; clear hlk; rintro e w1 ⟨rfl, hA1, hf1⟩; have hT1 := Bx.mk (tk_new w1 t rfl); have hA1 := Bx.mk (hA1.alloc (.cells (tkA t) 213)); have j0 := hT1.out.cell 0 (by omega); have j1 := hT1.out.cell 1 (by omega); have j4 := hT1.out.cell 4 (by omega); simp only [tkC] at j0 j1 j4)
        | (go_at_call 191; refine (hs.out _).mono ?_; clear hs; rintro e w' ⟨rfl, rfl⟩)
        | (go_at_call 192; refine (ht2.out _ hA1.out).mono ?_; clear ht2; rintro e w2 ⟨rfl, hA2, hf2⟩; have hT2 := Bx.mk (hf2.row hT1.out (hnb0.out _ (Nat.le_trans hf1.size (Nat.le_refl _)))); have hA2 := Bx.mk hA2; clear hA1; clear j0 j4 j1; have j0 := hT2.out.cell 0 (by omega); have j1 := hT2.out.cell 1 (by omega); have j4 := hT2.out.cell 4 (by omega); simp only [tkC] at j0 j1 j4)
        | (go_at_call 192; refine (ht1.out _ hA2.out).mono ?_; clear ht1; rintro e w3 ⟨rfl, hA3, hf3⟩; have hT3 := Bx.mk (hf3.row hT2.out (hnb0.out _ (Nat.le_trans hf1.size (Nat.le_refl _)))); have hA3 := Bx.mk hA3; clear hA2; clear j0 j4 j1; have j0 := hT3.out.cell 0 (by omega); have j1 := hT3.out.cell 1 (by omega); have j4 := hT3.out.cell 4 (by omega); simp only [tkC] at j0 j1 j4)
        | (go_at_call 193; refine (hj1.out _ hA3.out).mono ?_; clear hj1; rintro e w4 ⟨rfl, hA4, hf4⟩; have hT4 := Bx.mk (hf4.row hT3.out (hnb0.out _ (Nat.le_trans hf1.size (Nat.le_refl _)))); have hA4 := Bx.mk hA4; clear hA3; clear j0 j4 j1; have j0 := hT4.out.cell 0 (by omega); have j1 := hT4.out.cell 1 (by omega); have j4 := hT4.out.cell 4 (by omega); simp only [tkC] at j0 j1 j4; clear j0 j4 j1; have j0 := hT4.out.cell 0 (by omega); have j1 := hT4.out.cell 1 (by omega); have j2 := hT4.out.cell 2 (by omega); have j3 := hT4.out.cell 3 (by omega); have j4 := hT4.out.cell 4 (by omega); have j5 := hT4.out.cell 5 (by omega); have j6 := hT4.out.cell 6 (by omega); have j7 := hT4.out.cell 7 (by omega); have j8 := hT4.out.cell 8 (by omega); simp only [tkC] at j0 j1 j2 j3 j4 j5 j6 j7 j8)
        | (go_at_call 194; refine (hcl.out _ hA4.out).mono ?_; clear hcl; rintro e w5 ⟨rfl, hT, hfz⟩))
  go_end0
  exact ⟨rfl, hT, ((((((Fr.refl _ _).trans hf1).alloc _).trans hf2).trans hf3).trans hf4).trans hfz⟩
set_option maxRecDepth 100000 in
set_option maxHeartbeats 4000000 in
theorem after_0yy_close (B : FB) (b : Nat → Int) (n nt k : Nat) (st s0 : RS) (t : Tok) (w : World) (hnb0 : ∀ j, w.heap.size ≤ j → ¬ FmS B j)
    (hlk : Calls Tryz.prog 190 #[pt B.f] w (Ran w B b n nt k s0 (tkV t)))
    (d6 : (t.kind == 6) = false)
    (p2 : Int) (d2 : (p2 == 2) = true) (ht2 : ∀ wx, AF wx B b n nt k s0 → Calls Tryz.prog 192 #[pt B.f] wx (Ran wx B b n nt k s0 (I p2)))
    (s1 : RS) (hj2 : ∀ wx, AF wx B b n nt k s0 → Calls Tryz.prog 193 #[pt B.f] wx (Ran wx B b n nt k s1 (.tuple #[])))
    (p1 : Int) (d1 : (p1 == 1) = true) (ht1 : ∀ wx, AF wx B b n nt k s1 → Calls Tryz.prog 192 #[pt B.f] wx (Ran wx B b n nt k s1 (I p1)))
    (s2 : RS) (hj1 : ∀ wx, AF wx B b n nt k s1 → Calls Tryz.prog 193 #[pt B.f] wx (Ran wx B b n nt k s2 (.tuple #[])))
    (R : RS)
    (hcl : ∀ wx, AF wx B b n nt k s2 → Calls Tryz.prog 194 #[pt B.f, tkV t] wx (Turned wx B b n nt k s2 R)) :
    Calls Tryz.prog 160 #[pt B.f] w (Turned w B b n nt k st R) := by
  have hlk := Bx.mk hlk
  have hnb0 := Bx.mk hnb0
  have ht2 := Bx.mk ht2
  have hj2 := Bx.mk hj2
  have ht1 := Bx.mk ht1
  have hj1 := Bx.mk hj1
  have hcl := Bx.mk hcl
  go_enter Tryz.func160, Tryz.ntmps160
  go_wp2_with (first
        | (go_at_call 190; refine hlk.out.mono ?_; clear hlk; rintro e w1 ⟨rfl, hA1, hf1⟩; have hT1 := Bx.mk (tk_new w1 t rfl); have hA1 := Bx.mk (hA1.alloc (.cells (tkA t) 213)); have j0 := hT1.out.cell 0 (by omega); have j1 := hT1.out.cell 1 (by omega); have j4 := hT1.out.cell 4 (by omega); simp only [tkC] at j0 j1 j4)
        | (go_at_call 192; refine (ht2.out _ hA1.out).mono ?_; clear ht2; rintro e w2 ⟨rfl, hA2, hf2⟩; have hT2 := Bx.mk (hf2.row hT1.out (hnb0.out _ (Nat.le_trans hf1.size (Nat.le_refl _)))); have hA2 := Bx.mk hA2; clear hA1; clear j0 j4 j1; have j0 := hT2.out.cell 0 (by omega); have j1 := hT2.out.cell 1 (by omega); have j4 := hT2.out.cell 4 (by omega); simp only [tkC] at j0 j1 j4)
        | (go_at_call 193; refine (hj2.out _ hA2.out).mono ?_; clear hj2; rintro e w3 ⟨rfl, hA3, hf3⟩; have hT3 := Bx.mk (hf3.row hT2.out (hnb0.out _ (Nat.le_trans hf1.size (Nat.le_refl _)))); have hA3 := Bx.mk hA3; clear hA2; clear j0 j4 j1; have j0 := hT3.out.cell 0 (by omega); have j1 := hT3.out.cell 1 (by omega); have j4 := hT3.out.cell 4 (by omega); simp only [tkC] at j0 j1 j4)
        | (go_at_call 192; refine (ht1.out _ hA3.out).mono ?_; clear ht1; rintro e w4 ⟨rfl, hA4, hf4⟩; have hT4 := Bx.mk (hf4.row hT3.out (hnb0.out _ (Nat.le_trans hf1.size (Nat.le_refl _)))); have hA4 := Bx.mk hA4; clear hA3; clear j0 j4 j1; have j0 := hT4.out.cell 0 (by omega); have j1 := hT4.out.cell 1 (by omega); have j4 := hT4.out.cell 4 (by omega); simp only [tkC] at j0 j1 j4)
        | (go_at_call 193; refine (hj1.out _ hA4.out).mono ?_; clear hj1; rintro e w5 ⟨rfl, hA5, hf5⟩; have hT5 := Bx.mk (hf5.row hT4.out (hnb0.out _ (Nat.le_trans hf1.size (Nat.le_refl _)))); have hA5 := Bx.mk hA5; clear hA4; clear j0 j4 j1; have j0 := hT5.out.cell 0 (by omega); have j1 := hT5.out.cell 1 (by omega); have j4 := hT5.out.cell 4 (by omega); simp only [tkC] at j0 j1 j4; clear j0 j4 j1; have j0 := hT5.out.cell 0 (by omega); have j1 := hT5.out.cell 1 (by omega); have j2 := hT5.out.cell 2 (by omega); have j3 := hT5.out.cell 3 (by omega); have j4 := hT5.out.cell 4 (by omega); have j5 := hT5.out.cell 5 (by omega); have j6 := hT5.out.cell 6 (by omega); have j7 := hT5.out.cell 7 (by omega); have j8 := hT5.out.cell 8 (by omega); simp only [tkC] at j0 j1 j2 j3 j4 j5 j6 j7 j8)
        | (go_at_call 194; refine (hcl.out _ hA5.out).mono ?_; clear hcl; rintro e w6 ⟨rfl, hT, hfz⟩))
  go_end0
  exact ⟨rfl, hT, (((((((Fr.refl _ _).trans hf1).alloc _).trans hf2).trans hf3).trans hf4).trans hf5).trans hfz⟩
set_option maxRecDepth 100000 in
set_option maxHeartbeats 4000000 in
theorem after_0yn_close (B : FB) (b : Nat → Int) (n nt k : Nat) (st s0 : RS) (t : Tok) (w : World) (hnb0 : ∀ j, w.heap.size ≤ j → ¬ FmS B j)
    (hlk : Calls Tryz.prog 190 #[pt B.f] w (Ran w B b n nt k s0 (tkV t)))
    (d6 : (t.kind == 6) = false)
    (p2 : Int) (d2 : (p2 == 2) = true) (ht2 : ∀ wx, AF wx B b n nt k s0 → Calls Tryz.prog 192 #[pt B.f] wx (Ran wx B b n nt k s0 (I p2)))
    (s1 : RS) (hj2 : ∀ wx, AF wx B b n nt k s0 → Calls Tryz.prog 193 #[pt B.f] wx (Ran wx B b n nt k s1 (.tuple #[])))
    (p1 : Int) (d1 : (p1 == 1) = false) (ht1 : ∀ wx, AF wx B b n nt k s1 → Calls Tryz.prog 192 #[pt B.f] wx (Ran wx B b n nt k s1 (I p1)))
    (R : RS)
    (hcl : ∀ wx, AF wx B b n nt k s1 → Calls Tryz.prog 194 #[pt B.f, tkV t] wx (Turned wx B b n nt k s1 R)) :
    Calls Tryz.prog 160 #[pt B.f] w (Turned w B b n nt k st R) := by
  have hlk := Bx.mk hlk
  have hnb0 := Bx.mk hnb0
  have ht2 := Bx.mk ht2
  have hj2 := Bx.mk hj2
  have ht1 := Bx.mk ht1
  have hcl := Bx.mk hcl
  go_enter Tryz.func160, Tryz.ntmps160
  go_wp2_with (first
        | (go_at_call 190; refine hlk.out.mono ?_; clear hlk; rintro e w1 ⟨rfl, hA1, hf1⟩; have hT1 := Bx.mk (tk_new w1 t rfl); have hA1 := Bx.mk (hA1.alloc (.cells (tkA t) 213)); have j0 := hT1.out.cell 0 (by omega); have j1 := hT1.out.cell 1 (by omega); have j4 := hT1.out.cell 4 (by omega); simp only [tkC] at j0 j1 j4)
        | (go_at_call 192; refine (ht2.out _ hA1.out).mono ?_; clear ht2; rintro e w2 ⟨rfl, hA2, hf2⟩; have hT2 := Bx.mk (hf2.row hT1.out (hnb0.out _ (Nat.le_trans hf1.size (Nat.le_refl _)))); have hA2 := Bx.mk hA2; clear hA1; clear j0 j4 j1; have j0 := hT2.out.cell 0 (by omega); have j1 := hT2.out.cell 1 (by omega); have j4 := hT2.out.cell 4 (by omega); simp only [tkC] at j0 j1 j4)
        | (go_at_call 193; refine (hj2.out _ hA2.out).mono ?_; clear hj2; rintro e w3 ⟨rfl, hA3, hf3⟩; have hT3 := Bx.mk (hf3.row hT2.out (hnb0.out _ (Nat.le_trans hf1.size (Nat.le_refl _)))); have hA3 := Bx.mk hA3; clear hA2; clear j0 j4 j1; have j0 := hT3.out.cell 0 (by omega); have j1 := hT3.out.cell 1 (by omega); have j4 := hT3.out.cell 4 (by omega); simp only [tkC] at j0 j1 j4)
        | (go_at_call 192; refine (ht1.out _ hA3.out).mono ?_; clear ht1; rintro e w4 ⟨rfl, hA4, hf4⟩; have hT4 := Bx.mk (hf4.row hT3.out (hnb0.out _ (Nat.le_trans hf1.size (Nat.le_refl _)))); have hA4 := Bx.mk hA4; clear hA3; clear j0 j4 j1; have j0 := hT4.out.cell 0 (by omega); have j1 := hT4.out.cell 1 (by omega); have j4 := hT4.out.cell 4 (by omega); simp only [tkC] at j0 j1 j4; clear j0 j4 j1; have j0 := hT4.out.cell 0 (by omega); have j1 := hT4.out.cell 1 (by omega); have j2 := hT4.out.cell 2 (by omega); have j3 := hT4.out.cell 3 (by omega); have j4 := hT4.out.cell 4 (by omega); have j5 := hT4.out.cell 5 (by omega); have j6 := hT4.out.cell 6 (by omega); have j7 := hT4.out.cell 7 (by omega); have j8 := hT4.out.cell 8 (by omega); simp only [tkC] at j0 j1 j2 j3 j4 j5 j6 j7 j8)
        | (go_at_call 194; refine (hcl.out _ hA4.out).mono ?_; clear hcl; rintro e w5 ⟨rfl, hT, hfz⟩))
  go_end0
  exact ⟨rfl, hT, ((((((Fr.refl _ _).trans hf1).alloc _).trans hf2).trans hf3).trans hf4).trans hfz⟩
set_option maxRecDepth 100000 in
set_option maxHeartbeats 4000000 in
theorem after_0ny_close (B : FB) (b : Nat → Int) (n nt k : Nat) (st s0 : RS) (t : Tok) (w : World) (hnb0 : ∀ j, w.heap.size ≤ j → ¬ FmS B j)
    (hlk : Calls Tryz.prog 190 #[pt B.f] w (Ran w B b n nt k s0 (tkV t)))
    (d6 : (t.kind == 6) = false)
    (p2 : Int) (d2 : (p2 == 2) = false) (ht2 : ∀ wx, AF wx B b n nt k s0 → Calls Tryz.prog 192 #[pt B.f] wx (Ran wx B b n nt k s0 (I p2)))
    (p1 : Int) (d1 : (p1 == 1) = true) (ht1 : ∀ wx, AF wx B b n nt k s0 → Calls Tryz.prog 192 #[pt B.f] wx (Ran wx B b n nt k s0 (I p1)))
    (s2 : RS) (hj1 : ∀ wx, AF wx B b n nt k s0 → Calls Tryz.prog 193 #[pt B.f] wx (Ran wx B b n nt k s2 (.tuple #[])))
    (R : RS)
    (hcl : ∀ wx, AF wx B b n nt k s2 → Calls Tryz.prog 194 #[pt B.f, tkV t] wx (Turned wx B b n nt k s2 R)) :
    Calls Tryz.prog 160 #[pt B.f] w (Turned w B b n nt k st R) := by
  have hlk := Bx.mk hlk
  have hnb0 := Bx.mk hnb0
  have ht2 := Bx.mk ht2
  have ht1 := Bx.mk ht1
  have hj1 := Bx.mk hj1
  have hcl := Bx.mk hcl
  go_enter Tryz.func160, Tryz.ntmps160
  go_wp2_with (first
        | (go_at_call 190; refine hlk.out.mono ?_; clear hlk; rintro e w1 ⟨rfl, hA1, hf1⟩; have hT1 := Bx.mk (tk_new w1 t rfl); have hA1 := Bx.mk (hA1.alloc (.cells (tkA t) 213)); have j0 := hT1.out.cell 0 (by omega); have j1 := hT1.out.cell 1 (by omega); have j4 := hT1.out.cell 4 (by omega); simp only [tkC] at j0 j1 j4)
        | (go_at_call 192; refine (ht2.out _ hA1.out).mono ?_; clear ht2; rintro e w2 ⟨rfl, hA2, hf2⟩; have hT2 := Bx.mk (hf2.row hT1.out (hnb0.out _ (Nat.le_trans hf1.size (Nat.le_refl _)))); have hA2 := Bx.mk hA2; clear hA1; clear j0 j4 j1; have j0 := hT2.out.cell 0 (by omega); have j1 := hT2.out.cell 1 (by omega); have j4 := hT2.out.cell 4 (by omega); simp only [tkC] at j0 j1 j4)
        | (go_at_call 192; refine (ht1.out _ hA2.out).mono ?_; clear ht1; rintro e w3 ⟨rfl, hA3, hf3⟩; have hT3 := Bx.mk (hf3.row hT2.out (hnb0.out _ (Nat.le_trans hf1.size (Nat.le_refl _)))); have hA3 := Bx.mk hA3; clear hA2; clear j0 j4 j1; have j0 := hT3.out.cell 0 (by omega); have j1 := hT3.out.cell 1 (by omega); have j4 := hT3.out.cell 4 (by omega); simp only [tkC] at j0 j1 j4)
        | (go_at_call 193; refine (hj1.out _ hA3.out).mono ?_; clear hj1; rintro e w4 ⟨rfl, hA4, hf4⟩; have hT4 := Bx.mk (hf4.row hT3.out (hnb0.out _ (Nat.le_trans hf1.size (Nat.le_refl _)))); have hA4 := Bx.mk hA4; clear hA3; clear j0 j4 j1; have j0 := hT4.out.cell 0 (by omega); have j1 := hT4.out.cell 1 (by omega); have j4 := hT4.out.cell 4 (by omega); simp only [tkC] at j0 j1 j4; clear j0 j4 j1; have j0 := hT4.out.cell 0 (by omega); have j1 := hT4.out.cell 1 (by omega); have j2 := hT4.out.cell 2 (by omega); have j3 := hT4.out.cell 3 (by omega); have j4 := hT4.out.cell 4 (by omega); have j5 := hT4.out.cell 5 (by omega); have j6 := hT4.out.cell 6 (by omega); have j7 := hT4.out.cell 7 (by omega); have j8 := hT4.out.cell 8 (by omega); simp only [tkC] at j0 j1 j2 j3 j4 j5 j6 j7 j8)
        | (go_at_call 194; refine (hcl.out _ hA4.out).mono ?_; clear hcl; rintro e w5 ⟨rfl, hT, hfz⟩))
  go_end0
  exact ⟨rfl, hT, ((((((Fr.refl _ _).trans hf1).alloc _).trans hf2).trans hf3).trans hf4).trans hfz⟩
set_option maxRecDepth 100000 in
set_option maxHeartbeats 4000000 in
theorem after_0nn_close (B : FB) (b : Nat → Int) (n nt k : Nat) (st s0 : RS) (t : Tok) (w : World) (hnb0 : ∀ j, w.heap.size ≤ j → ¬ FmS B j)
    (hlk : Calls Tryz.prog 190 #[pt B.f] w (Ran w B b n nt k s0 (tkV t)))
    (d6 : (t.kind == 6) = false)
    (p2 : Int) (d2 : (p2 == 2) = false) (ht2 : ∀ wx, AF wx B b n nt k s0 → Calls Tryz.prog 192 #[pt B.f] wx (Ran wx B b n nt k s0 (I p2)))
    (p1 : Int) (d1 : (p1 == 1) = false) (ht1 : ∀ wx, AF wx B b n nt k s0 → Calls Tryz.prog 192 #[pt B.f] wx (Ran wx B b n nt k s0 (I p1)))
    (R : RS)
    (hcl : ∀ wx, AF wx B b n nt k s0 → Calls Tryz.prog 194 #[pt B.f, tkV t] wx (Turned wx B b n nt k s0 R)) :
    Calls Tryz.prog 160 #[pt B.f] w (Turned w B b n nt k st R) := by
  have hlk := Bx.mk hlk
  have hnb0 := Bx.mk hnb0
  have ht2 := Bx.mk ht2
  have ht1 := Bx.mk ht1
  have hcl := Bx.mk hcl
  go_enter Tryz.func160, Tryz.ntmps160
  go_wp2_with (first
        | (go_at_call 190; refine hlk.out.mono ?_; clear hlk; rintro e w1 ⟨rfl, hA1, hf1⟩; have hT1 := Bx.mk (tk_new w1 t rfl); have hA1 := Bx.mk (hA1.alloc (.cells (tkA t) 213)); have j0 := hT1.out.cell 0 (by omega); have j1 := hT1.out.cell 1 (by omega); have j4 := hT1.out.cell 4 (by omega); simp only [tkC] at j0 j1 j4)
        | (go_at_call 192; refine (ht2.out _ hA1.out).mono ?_; clear ht2; rintro e w2 ⟨rfl, hA2, hf2⟩; have hT2 := Bx.mk (hf2.row hT1.out (hnb0.out _ (Nat.le_trans hf1.size (Nat.le_refl _)))); have hA2 := Bx.mk hA2; clear hA1; clear j0 j4 j1; have j0 := hT2.out.cell 0 (by omega); have j1 := hT2.out.cell 1 (by omega); have j4 := hT2.out.cell 4 (by omega); simp only [tkC] at j0 j1 j4)
        | (go_at_call 192; refine (ht1.out _ hA2.out).mono ?_; clear ht1; rintro e w3 ⟨rfl, hA3, hf3⟩; have hT3 := Bx.mk (hf3.row hT2.out (hnb0.out _ (Nat.le_trans hf1.size (Nat.le_refl _)))); have hA3 := Bx.mk hA3; clear hA2; clear j0 j4 j1; have j0 := hT3.out.cell 0 (by omega); have j1 := hT3.out.cell 1 (by omega); have j4 := hT3.out.cell 4 (by omega); simp only [tkC] at j0 j1 j4; clear j0 j4 j1; have j0 := hT3.out.cell 0 (by omega); have j1 := hT3.out.cell 1 (by omega); have j2 := hT3.out.cell 2 (by omega); have j3 := hT3.out.cell 3 (by omega); have j4 := hT3.out.cell 4 (by omega); have j5 := hT3.out.cell 5 (by omega); have j6 := hT3.out.cell 6 (by omega); have j7 := hT3.out.cell 7 (by omega); have j8 := hT3.out.cell 8 (by omega); simp only [tkC] at j0 j1 j2 j3 j4 j5 j6 j7 j8)
        | (go_at_call 194; refine (hcl.out _ hA3.out).mono ?_; clear hcl; rintro e w4 ⟨rfl, hT, hfz⟩))
  go_end0
  exact ⟨rfl, hT, (((((Fr.refl _ _).trans hf1).alloc _).trans hf2).trans hf3).trans hfz⟩
end Go.Proofs.Qxb6500326aGreat
