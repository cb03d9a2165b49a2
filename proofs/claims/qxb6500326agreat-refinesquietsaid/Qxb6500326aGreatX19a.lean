import Derived.Test.Qxb6500326aGreatX18
namespace Go.Proofs.Qxb6500326aGreat
set_option maxRecDepth 100000
set_option linter.unusedVariables false
set_option linter.unusedSimpArgs false
open Go.RowKit Go.PlainAid
set_option maxRecDepth 100000 in
set_option maxHeartbeats 4000000 in
theorem after_3_neg (B : FB) (b : Nat → Int) (n nt k : Nat) (st s0 : RS) (t : Tok) (w : World) (hnb0 : ∀ j, w.heap.size ≤ j → ¬ FmS B j)
    (hlk : Calls Tryz.prog 190 #[pt B.f] w (Ran w B b n nt k s0 (tkV t)))
    (d6 : (t.kind == 6) = true) (hs : ∀ wx, Calls Tryz.prog 191 #[I t.n] wx (fun e w' => e = .returned (I 3) ∧ wx = w'))
    (R : RS)
    (q j : Nat) (v kd : Int) (hq : (q : Int) < 41)
    (dv : decide (0 ≤ v) = false) (hcell : ∀ wx, AF wx B b n nt k s0 → wx.cell? ⟨B.f, 6, none⟩ = some (sl B.v 41 41) ∧ wx.cell? ⟨B.f, 7, none⟩ = some (I ((q + 1 : Nat) : Int)) ∧ wx.cell? ⟨B.v, q, none⟩ = some (I v))
    (s3 s4 : RS) (htk : ∀ wx, AF wx B b n nt k s0 → Calls Tryz.prog 196 #[pt B.f] wx (Ran wx B b n nt (k + 1) s3 (.tuple #[]))) (hpu : ∀ wx, AF wx B b n nt (k + 1) s3 → Calls Tryz.prog 197 #[pt B.f, mkV ⟨2, t.n, 0, 0, 0⟩] wx (Ran wx B b n nt (k + 1) s4 (.tuple #[]))) (hse : ∀ wx, AF wx B b n nt (k + 1) s4 → (∃ y, wx.cell? ⟨B.f, 10, none⟩ = some (.bool y)) ∧ wx.frozen? ⟨B.f, 10, none⟩ = false ∧ AF (wx.setCell ⟨B.f, 10, none⟩ (.bool false)) B b n nt (k + 1) R) (hh : R.err = 0 → (R.done = false → k < k + 1) ∧ Hts (k + 1) (if R.hav = true then 1 else 0) R ∧ (R.hav = true → topk R.O ≠ 1)) :
    Calls Tryz.prog 160 #[pt B.f] w (Turned w B b n nt k st R) := by
  have hlk := Bx.mk hlk
  have hnb0 := Bx.mk hnb0
  have hs := Bx.mk hs
  have hcell := Bx.mk hcell
  have htk := Bx.mk htk
  have hpu := Bx.mk hpu
  have hse := Bx.mk hse
  have hh := Bx.mk hh
  go_enter Tryz.func160, Tryz.ntmps160
  go_wp2_with (first
        | (go_at_call 190; refine hlk.out.mono ?_; clear hlk; rintro e w1 ⟨rfl, hA1, hf1⟩; have hT1 := Bx.mk (tk_new w1 t rfl); have hA1 := Bx.mk (hA1.alloc (.cells (tkA t) 213)); have j0 := hT1.out.cell 0 (by omega); have j1 := hT1.out.cell 1 (by omega); have j4 := hT1.out.cell 4 (by omega); simp only [tkC] at j0 j1 j4)
        | (go_at_call 191; refine (hs.out _).mono ?_; clear hs; rintro e w' ⟨rfl, rfl⟩; obtain ⟨c6, c7, cv⟩ := hcell.out _ hA1.out; clear hcell))
  go_quiet (fail)
  go_wp2_with (first
    | (go_at_call 196; refine (htk.out _ (hA1.out.fr0 ((Fr.refl _ _).drewN _))).mono ?_; clear htk; rintro e w8 ⟨rfl, hA8, hf8⟩; have hT8 := Bx.mk (hf8.row hT1.out (hnb0.out _ (Nat.le_trans hf1.size (Nat.le_refl _)))); have hA8 := Bx.mk hA8; have i4 := hT8.out.cell 4 (by omega); simp only [tkC] at i4)
    | (go_at_call 197; refine (hpu.out _ hA8.out).mono ?_; clear hpu; rintro e w9 ⟨rfl, hA9, hf9⟩; obtain ⟨⟨y, c10⟩, z10, hS9⟩ := hse.out _ hA9; have hS9 := Bx.mk hS9))
  go_end0
  exact ⟨rfl, ⟨k + 1, hS9.out, by omega, hh.out⟩, ((((((Fr.refl _ _).trans hf1).alloc _).drewN _).trans hf8).trans hf9).fm 10 _⟩
set_option maxRecDepth 100000 in
set_option maxHeartbeats 4000000 in
theorem after_3_norange (B : FB) (b : Nat → Int) (n nt k : Nat) (st s0 : RS) (t : Tok) (w : World) (hnb0 : ∀ j, w.heap.size ≤ j → ¬ FmS B j)
    (hlk : Calls Tryz.prog 190 #[pt B.f] w (Ran w B b n nt k s0 (tkV t)))
    (d6 : (t.kind == 6) = true) (hs : ∀ wx, Calls Tryz.prog 191 #[I t.n] wx (fun e w' => e = .returned (I 3) ∧ wx = w'))
    (R : RS)
    (q j : Nat) (v kd : Int) (hq : (q : Int) < 41)
    (hj24 : (j : Int) < 24) (dk : (kd == 4) = false) (hcell : ∀ wx, AF wx B b n nt k s0 → wx.cell? ⟨B.f, 6, none⟩ = some (sl B.v 41 41) ∧ wx.cell? ⟨B.f, 7, none⟩ = some (I ((q + 1 : Nat) : Int)) ∧ wx.cell? ⟨B.v, q, none⟩ = some (I (j : Int)) ∧ wx.cell? ⟨B.f, 4, none⟩ = some (sl B.a 24 24) ∧ wx.cell? ⟨B.a, j * 13, none⟩ = some (I kd))
    (s3 s4 : RS) (htk : ∀ wx, AF wx B b n nt k s0 → Calls Tryz.prog 196 #[pt B.f] wx (Ran wx B b n nt (k + 1) s3 (.tuple #[]))) (hpu : ∀ wx, AF wx B b n nt (k + 1) s3 → Calls Tryz.prog 197 #[pt B.f, mkV ⟨2, t.n, 0, 0, 0⟩] wx (Ran wx B b n nt (k + 1) s4 (.tuple #[]))) (hse : ∀ wx, AF wx B b n nt (k + 1) s4 → (∃ y, wx.cell? ⟨B.f, 10, none⟩ = some (.bool y)) ∧ wx.frozen? ⟨B.f, 10, none⟩ = false ∧ AF (wx.setCell ⟨B.f, 10, none⟩ (.bool false)) B b n nt (k + 1) R) (hh : R.err = 0 → (R.done = false → k < k + 1) ∧ Hts (k + 1) (if R.hav = true then 1 else 0) R ∧ (R.hav = true → topk R.O ≠ 1)) :
    Calls Tryz.prog 160 #[pt B.f] w (Turned w B b n nt k st R) := by
  have hlk := Bx.mk hlk
  have hnb0 := Bx.mk hnb0
  have hs := Bx.mk hs
  have hcell := Bx.mk hcell
  have htk := Bx.mk htk
  have hpu := Bx.mk hpu
  have hse := Bx.mk hse
  have hh := Bx.mk hh
  go_enter Tryz.func160, Tryz.ntmps160
  go_wp2_with (first
        | (go_at_call 190; refine hlk.out.mono ?_; clear hlk; rintro e w1 ⟨rfl, hA1, hf1⟩; have hT1 := Bx.mk (tk_new w1 t rfl); have hA1 := Bx.mk (hA1.alloc (.cells (tkA t) 213)); have j0 := hT1.out.cell 0 (by omega); have j1 := hT1.out.cell 1 (by omega); have j4 := hT1.out.cell 4 (by omega); simp only [tkC] at j0 j1 j4)
        | (go_at_call 191; refine (hs.out _).mono ?_; clear hs; rintro e w' ⟨rfl, rfl⟩; obtain ⟨c6, c7, cv, c4, ck⟩ := hcell.out _ hA1.out; clear hcell))
  go_quiet (fail)
  go_wp2_with (first
    | (go_at_call 196; refine (htk.out _ (hA1.out.fr0 ((Fr.refl _ _).drewN _))).mono ?_; clear htk; rintro e w8 ⟨rfl, hA8, hf8⟩; have hT8 := Bx.mk (hf8.row hT1.out (hnb0.out _ (Nat.le_trans hf1.size (Nat.le_refl _)))); have hA8 := Bx.mk hA8; have i4 := hT8.out.cell 4 (by omega); simp only [tkC] at i4)
    | (go_at_call 197; refine (hpu.out _ hA8.out).mono ?_; clear hpu; rintro e w9 ⟨rfl, hA9, hf9⟩; obtain ⟨⟨y, c10⟩, z10, hS9⟩ := hse.out _ hA9; have hS9 := Bx.mk hS9))
  go_end0
  exact ⟨rfl, ⟨k + 1, hS9.out, by omega, hh.out⟩, ((((((Fr.refl _ _).trans hf1).alloc _).drewN _).trans hf8).trans hf9).fm 10 _⟩
set_option maxRecDepth 100000 in
set_option maxHeartbeats 4000000 in
theorem after_3_range (B : FB) (b : Nat → Int) (n nt k : Nat) (st s0 : RS) (t : Tok) (w : World) (hnb0 : ∀ j, w.heap.size ≤ j → ¬ FmS B j)
    (hlk : Calls Tryz.prog 190 #[pt B.f] w (Ran w B b n nt k s0 (tkV t)))
    (d6 : (t.kind == 6) = true) (hs : ∀ wx, Calls Tryz.prog 191 #[I t.n] wx (fun e w' => e = .returned (I 3) ∧ wx = w'))
    (R : RS)
    (q j : Nat) (v kd : Int) (hq : (q : Int) < 41)
    (hj24 : (j : Int) < 24) (dk : (kd == 4) = true) (hcell : ∀ wx, AF wx B b n nt k s0 → wx.cell? ⟨B.f, 6, none⟩ = some (sl B.v 41 41) ∧ wx.cell? ⟨B.f, 7, none⟩ = some (I ((q + 1 : Nat) : Int)) ∧ wx.cell? ⟨B.v, q, none⟩ = some (I (j : Int)) ∧ wx.cell? ⟨B.f, 4, none⟩ = some (sl B.a 24 24) ∧ wx.cell? ⟨B.a, j * 13, none⟩ = some (I kd))
    (hfl : ∀ wx, AF wx B b n nt k s0 → Calls Tryz.prog 195 #[pt B.f, I 3, I t.st] wx (Ran wx B b n nt k R (.tuple #[]))) (her : R.err ≠ 0) :
    Calls Tryz.prog 160 #[pt B.f] w (Turned w B b n nt k st R) := by
  have hlk := Bx.mk hlk
  have hnb0 := Bx.mk hnb0
  have hs := Bx.mk hs
  have hcell := Bx.mk hcell
  have hfl := Bx.mk hfl
  have her := Bx.mk her
  go_enter Tryz.func160, Tryz.ntmps160
  go_wp2_with (first
        | (go_at_call 190; refine hlk.out.mono ?_; clear hlk; rintro e w1 ⟨rfl, hA1, hf1⟩; have hT1 := Bx.mk (tk_new w1 t rfl); have hA1 := Bx.mk (hA1.alloc (.cells (tkA t) 213)); have j0 := hT1.out.cell 0 (by omega); have j1 := hT1.out.cell 1 (by omega); have j4 := hT1.out.cell 4 (by omega); simp only [tkC] at j0 j1 j4)
        | (go_at_call 191; refine (hs.out _).mono ?_; clear hs; rintro e w' ⟨rfl, rfl⟩; obtain ⟨c6, c7, cv, c4, ck⟩ := hcell.out _ hA1.out; clear hcell))
  go_quiet (fail)
  go_wp2_with (first | (go_at_call 195; refine (hfl.out _ (hA1.out.fr0 ((Fr.refl _ _).drewN _))).mono ?_; clear hfl; rintro e w9 ⟨rfl, hA9, hf9⟩))
  go_end0
  exact ⟨rfl, ⟨k, hA9, Nat.le_refl _, fun e => absurd e her.out⟩, ((((Fr.refl _ _).trans hf1).alloc _).drewN _).trans hf9⟩
set_option maxRecDepth 100000 in
set_option maxHeartbeats 4000000 in
theorem after_2y_neg (B : FB) (b : Nat → Int) (n nt k : Nat) (st s0 : RS) (t : Tok) (w : World) (hnb0 : ∀ j, w.heap.size ≤ j → ¬ FmS B j)
    (hlk : Calls Tryz.prog 190 #[pt B.f] w (Ran w B b n nt k s0 (tkV t)))
    (d6 : (t.kind == 6) = true) (hs : ∀ wx, Calls Tryz.prog 191 #[I t.n] wx (fun e w' => e = .returned (I 2) ∧ wx = w'))
    (p2 : Int) (d2 : (p2 == 2) = true) (ht2 : ∀ wx, AF wx B b n nt k s0 → Calls Tryz.prog 192 #[pt B.f] wx (Ran wx B b n nt k s0 (I p2)))
    (s1 : RS) (hj2 : ∀ wx, AF wx B b n nt k s0 → Calls Tryz.prog 193 #[pt B.f] wx (Ran wx B b n nt k s1 (.tuple #[])))
    (R : RS)
    (q j : Nat) (v kd : Int) (hq : (q : Int) < 41)
    (dv : decide (0 ≤ v) = false) (hcell : ∀ wx, AF wx B b n nt k s1 → wx.cell? ⟨B.f, 6, none⟩ = some (sl B.v 41 41) ∧ wx.cell? ⟨B.f, 7, none⟩ = some (I ((q + 1 : Nat) : Int)) ∧ wx.cell? ⟨B.v, q, none⟩ = some (I v))
    (s3 s4 : RS) (htk : ∀ wx, AF wx B b n nt k s1 → Calls Tryz.prog 196 #[pt B.f] wx (Ran wx B b n nt (k + 1) s3 (.tuple #[]))) (hpu : ∀ wx, AF wx B b n nt (k + 1) s3 → Calls Tryz.prog 197 #[pt B.f, mkV ⟨2, t.n, 0, 0, 0⟩] wx (Ran wx B b n nt (k + 1) s4 (.tuple #[]))) (hse : ∀ wx, AF wx B b n nt (k + 1) s4 → (∃ y, wx.cell? ⟨B.f, 10, none⟩ = some (.bool y)) ∧ wx.frozen? ⟨B.f, 10, none⟩ = false ∧ AF (wx.setCell ⟨B.f, 10, none⟩ (.bool false)) B b n nt (k + 1) R) (hh : R.err = 0 → (R.done = false → k < k + 1) ∧ Hts (k + 1) (if R.hav = true then 1 else 0) R ∧ (R.hav = true → topk R.O ≠ 1)) :
    Calls Tryz.prog 160 #[pt B.f] w (Turned w B b n nt k st R) := by
  have hlk := Bx.mk hlk
  have hnb0 := Bx.mk hnb0
  have hs := Bx.mk hs
  have ht2 := Bx.mk ht2
  have hj2 := Bx.mk hj2
  have hcell := Bx.mk hcell
  have htk := Bx.mk htk
  have hpu := Bx.mk hpu
  have hse := Bx.mk hse
  have hh := Bx.mk hh
  go_enter Tryz.func160, Tryz.ntmps160
  go_wp2_with (first
        | (go_at_call 190; refine hlk.out.mono ?_; clear hlk; rintro e w1 ⟨rfl, hA1, hf1⟩; have hT1 := Bx.mk (tk_new w1 t rfl); have hA1 := Bx.mk (hA1.alloc (.cells (tkA t) 213)); have j0 := hT1.out.cell 0 (by omega); have j1 := hT1.out.cell 1 (by omega); have j4 := hT1.out.cell 4 (by omega); simp only [tkC] at j0 j1 j4)
        | (go_at_call 191; refine (hs.out _).mono ?_; clear hs; rintro e w' ⟨rfl, rfl⟩)
        | (go_at_call 192; refine (ht2.out _ hA1.out).mono ?_; clear ht2; rintro e w2 ⟨rfl, hA2, hf2⟩; have hT2 := Bx.mk (hf2.row hT1.out (hnb0.out _ (Nat.le_trans hf1.size (Nat.le_refl _)))); have hA2 := Bx.mk hA2; clear hA1; clear j0 j4 j1; have j0 := hT2.out.cell 0 (by omega); have j1 := hT2.out.cell 1 (by omega); have j4 := hT2.out.cell 4 (by omega); simp only [tkC] at j0 j1 j4)
        | (go_at_call 193; refine (hj2.out _ hA2.out).mono ?_; clear hj2; rintro e w3 ⟨rfl, hA3, hf3⟩; have hT3 := Bx.mk (hf3.row hT2.out (hnb0.out _ (Nat.le_trans hf1.size (Nat.le_refl _)))); have hA3 := Bx.mk hA3; clear hA2; clear j0 j4 j1; have j0 := hT3.out.cell 0 (by omega); have j1 := hT3.out.cell 1 (by omega); have j4 := hT3.out.cell 4 (by omega); simp only [tkC] at j0 j1 j4; obtain ⟨c6, c7, cv⟩ := hcell.out _ hA3.out; clear hcell))
  go_quiet (fail)
  go_wp2_with (first
    | (go_at_call 196; refine (htk.out _ (hA3.out.fr0 ((Fr.refl _ _).drewN _))).mono ?_; clear htk; rintro e w8 ⟨rfl, hA8, hf8⟩; have hT8 := Bx.mk (hf8.row hT3.out (hnb0.out _ (Nat.le_trans hf1.size (Nat.le_refl _)))); have hA8 := Bx.mk hA8; have i4 := hT8.out.cell 4 (by omega); simp only [tkC] at i4)
    | (go_at_call 197; refine (hpu.out _ hA8.out).mono ?_; clear hpu; rintro e w9 ⟨rfl, hA9, hf9⟩; obtain ⟨⟨y, c10⟩, z10, hS9⟩ := hse.out _ hA9; have hS9 := Bx.mk hS9))
  go_end0
  exact ⟨rfl, ⟨k + 1, hS9.out, by omega, hh.out⟩, ((((((((Fr.refl _ _).trans hf1).alloc _).trans hf2).trans hf3).drewN _).trans hf8).trans hf9).fm 10 _⟩
set_option maxRecDepth 100000 in
set_option maxHeartbeats 4000000 in
theorem after_2y_norange (B : FB) (b : Nat → Int) (n nt k : Nat) (st s0 : RS) (t : Tok) (w : World) (hnb0 : ∀ j, w.heap.size ≤ j → ¬ FmS B j)
    (hlk : Calls Tryz.prog 190 #[pt B.f] w (Ran w B b n nt k s0 (tkV t)))
    (d6 : (t.kind == 6) = true) (hs : ∀ wx, Calls Tryz.prog 191 #[I t.n] wx (fun e w' => e = .returned (I 2) ∧ wx = w'))
    (p2 : Int) (d2 : (p2 == 2) = true) (ht2 : ∀ wx, AF wx B b n nt k s0 → Calls Tryz.prog 192 #[pt B.f] wx (Ran wx B b n nt k s0 (I p2)))
    (s1 : RS) (hj2 : ∀ wx, AF wx B b n nt k s0 → Calls Tryz.prog 193 #[pt B.f] wx (Ran wx B b n nt k s1 (.tuple #[])))
    (R : RS)
    (q j : Nat) (v kd : Int) (hq : (q : Int) < 41)
    (hj24 : (j : Int) < 24) (dk : (kd == 4) = false) (hcell : ∀ wx, AF wx B b n nt k s1 → wx.cell? ⟨B.f, 6, none⟩ = some (sl B.v 41 41) ∧ wx.cell? ⟨B.f, 7, none⟩ = some (I ((q + 1 : Nat) : Int)) ∧ wx.cell? ⟨B.v, q, none⟩ = some (I (j : Int)) ∧ wx.cell? ⟨B.f, 4, none⟩ = some (sl B.a 24 24) ∧ wx.cell? ⟨B.a, j * 13, none⟩ = some (I kd))
    (s3 s4 : RS) (htk : ∀ wx, AF wx B b n nt k s1 → Calls Tryz.prog 196 #[pt B.f] wx (Ran wx B b n nt (k + 1) s3 (.tuple #[]))) (hpu : ∀ wx, AF wx B b n nt (k + 1) s3 → Calls Tryz.prog 197 #[pt B.f, mkV ⟨2, t.n, 0, 0, 0⟩] wx (Ran wx B b n nt (k + 1) s4 (.tuple #[]))) (hse : ∀ wx, AF wx B b n nt (k + 1) s4 → (∃ y, wx.cell? ⟨B.f, 10, none⟩ = some (.bool y)) ∧ wx.frozen? ⟨B.f, 10, none⟩ = false ∧ AF (wx.setCell ⟨B.f, 10, none⟩ (.bool false)) B b n nt (k + 1) R) (hh : R.err = 0 → (R.done = false → k < k + 1) ∧ Hts (k + 1) (if R.hav = true then 1 else 0) R ∧ (R.hav = true → topk R.O ≠ 1)) :
    Calls Tryz.prog 160 #[pt B.f] w (Turned w B b n nt k st R) := by
  have hlk := Bx.mk hlk
  have hnb0 := Bx.mk hnb0
  have hs := Bx.mk hs
  have ht2 := Bx.mk ht2
  have hj2 := Bx.mk hj2
  have hcell := Bx.mk hcell
  have htk := Bx.mk htk
  have hpu := Bx.mk hpu
  have hse := Bx.mk hse
  have hh := Bx.mk hh
  go_enter Tryz.func160, Tryz.ntmps160
  go_wp2_with (first
        | (go_at_call 190; refine hlk.out.mono ?_; clear hlk; rintro e w1 ⟨rfl, hA1, hf1⟩; have hT1 := Bx.mk (tk_new w1 t rfl); have hA1 := Bx.mk (hA1.alloc (.cells (tkA t) 213)); have j0 := hT1.out.cell 0 (by omega); have j1 := hT1.out.cell 1 (by omega); have j4 := hT1.out.cell 4 (by omega); simp only [tkC] at j0 j1 j4)
        | (go_at_call 191; refine (hs.out _).mono ?_; clear hs; rintro e w' ⟨rfl, rfl⟩)
        | (go_at_call 192; refine (ht2.out _ hA1.out).mono ?_; clear ht2; rintro e w2 ⟨rfl, hA2, hf2⟩; have hT2 := Bx.mk (hf2.row hT1.out (hnb0.out _ (Nat.le_trans hf1.size (Nat.le_refl _)))); have hA2 := Bx.mk hA2; clear hA1; clear j0 j4 j1; have j0 := hT2.out.cell 0 (by omega); have j1 := hT2.out.cell 1 (by omega); have j4 := hT2.out.cell 4 (by omega); simp only [tkC] at j0 j1 j4)
        | (go_at_call 193; refine (hj2.out _ hA2.out).mono ?_; clear hj2; rintro e w3 ⟨rfl, hA3, hf3⟩; have hT3 := Bx.mk (hf3.row hT2.out (hnb0.out _ (Nat.le_trans hf1.size (Nat.le_refl _)))); have hA3 := Bx.mk hA3; clear hA2; clear j0 j4 j1; have j0 := hT3.out.cell 0 (by omega); have j1 := hT3.out.cell 1 (by omega); have j4 := hT3.out.cell 4 (by omega); simp only [tkC] at j0 j1 j4; obtain ⟨c6, c7, cv, c4, ck⟩ := hcell.out _ hA3.out; clear hcell))
  go_quiet (fail)
  go_wp2_with (first
    | (go_at_call 196; refine (htk.out _ (hA3.out.fr0 ((Fr.refl _ _).drewN _))).mono ?_; clear htk; rintro e w8 ⟨rfl, hA8, hf8⟩; have hT8 := Bx.mk (hf8.row hT3.out (hnb0.out _ (Nat.le_trans hf1.size (Nat.le_refl _)))); have hA8 := Bx.mk hA8; have i4 := hT8.out.cell 4 (by omega); simp only [tkC] at i4)
    | (go_at_call 197; refine (hpu.out _ hA8.out).mono ?_; clear hpu; rintro e w9 ⟨rfl, hA9, hf9⟩; obtain ⟨⟨y, c10⟩, z10, hS9⟩ := hse.out _ hA9; have hS9 := Bx.mk hS9))
  go_end0
  exact ⟨rfl, ⟨k + 1, hS9.out, by omega, hh.out⟩, ((((((((Fr.refl _ _).trans hf1).alloc _).trans hf2).trans hf3).drewN _).trans hf8).trans hf9).fm 10 _⟩
set_option maxRecDepth 100000 in
set_option maxHeartbeats 4000000 in
theorem after_2y_range (B : FB) (b : Nat → Int) (n nt k : Nat) (st s0 : RS) (t : Tok) (w : World) (hnb0 : ∀ j, w.heap.size ≤ j → ¬ FmS B j)
    (hlk : Calls Tryz.prog 190 #[pt B.f] w (Ran w B b n nt k s0 (tkV t)))
    (d6 : (t.kind == 6) = true) (hs : ∀ wx, Calls Tryz.prog 191 #[I t.n] wx (fun e w' => e = .returned (I 2) ∧ wx = w'))
    (p2 : Int) (d2 : (p2 == 2) = true) (ht2 : ∀ wx, AF wx B b n nt k s0 → Calls Tryz.prog 192 #[pt B.f] wx (Ran wx B b n nt k s0 (I p2)))
    (s1 : RS) (hj2 : ∀ wx, AF wx B b n nt k s0 → Calls Tryz.prog 193 #[pt B.f] wx (Ran wx B b n nt k s1 (.tuple #[])))
    (R : RS)
    (q j : Nat) (v kd : Int) (hq : (q : Int) < 41)
    (hj24 : (j : Int) < 24) (dk : (kd == 4) = true) (hcell : ∀ wx, AF wx B b n nt k s1 → wx.cell? ⟨B.f, 6, none⟩ = some (sl B.v 41 41) ∧ wx.cell? ⟨B.f, 7, none⟩ = some (I ((q + 1 : Nat) : Int)) ∧ wx.cell? ⟨B.v, q, none⟩ = some (I (j : Int)) ∧ wx.cell? ⟨B.f, 4, none⟩ = some (sl B.a 24 24) ∧ wx.cell? ⟨B.a, j * 13, none⟩ = some (I kd))
    (hfl : ∀ wx, AF wx B b n nt k s1 → Calls Tryz.prog 195 #[pt B.f, I 3, I t.st] wx (Ran wx B b n nt k R (.tuple #[]))) (her : R.err ≠ 0) :
    Calls Tryz.prog 160 #[pt B.f] w (Turned w B b n nt k st R) := by
  have hlk := Bx.mk hlk
  have hnb0 := Bx.mk hnb0
  have hs := Bx.mk hs
  have ht2 := Bx.mk ht2
  have hj2 := Bx.mk hj2
  have hcell := Bx.mk hcell
  have hfl := Bx.mk hfl
  have her := Bx.mk her
  go_enter Tryz.func160, Tryz.ntmps160
  go_wp2_with (first
        | (go_at_call 190; refine hlk.out.mono ?_; clear hlk; rintro e w1 ⟨rfl, hA1, hf1⟩; have hT1 := Bx.mk (tk_new w1 t rfl); have hA1 := Bx.mk (hA1.alloc (.cells (tkA t) 213)); have j0 := hT1.out.cell 0 (by omega); have j1 := hT1.out.cell 1 (by omega); have j4 := hT1.out.cell 4 (by omega); simp only [tkC] at j0 j1 j4)
        | (go_at_call 191; refine (hs.out _).mono ?_; clear hs; rintro e w' ⟨rfl, rfl⟩)
        | (go_at_call 192; refine (ht2.out _ hA1.out).mono ?_; clear ht2; rintro e w2 ⟨rfl, hA2, hf2⟩; have hT2 := Bx.mk (hf2.row hT1.out (hnb0.out _ (Nat.le_trans hf1.size (Nat.le_refl _)))); have hA2 := Bx.mk hA2; clear hA1; clear j0 j4 j1; have j0 := hT2.out.cell 0 (by omega); have j1 := hT2.out.cell 1 (by omega); have j4 := hT2.out.cell 4 (by omega); simp only [tkC] at j0 j1 j4)
        | (go_at_call 193; refine (hj2.out _ hA2.out).mono ?_; clear hj2; rintro e w3 ⟨rfl, hA3, hf3⟩; have hT3 := Bx.mk (hf3.row hT2.out (hnb0.out _ (Nat.le_trans hf1.size (Nat.le_refl _)))); have hA3 := Bx.mk hA3; clear hA2; clear j0 j4 j1; have j0 := hT3.out.cell 0 (by omega); have j1 := hT3.out.cell 1 (by omega); have j4 := hT3.out.cell 4 (by omega); simp only [tkC] at j0 j1 j4; obtain ⟨c6, c7, cv, c4, ck⟩ := hcell.out _ hA3.out; clear hcell))
  go_quiet (fail)
  go_wp2_with (first | (go_at_call 195; refine (hfl.out _ (hA3.out.fr0 ((Fr.refl _ _).drewN _))).mono ?_; clear hfl; rintro e w9 ⟨rfl, hA9, hf9⟩))
  go_end0
  exact ⟨rfl, ⟨k, hA9, Nat.le_refl _, fun e => absurd e her.out⟩, ((((((Fr.refl _ _).trans hf1).alloc _).trans hf2).trans hf3).drewN _).trans hf9⟩
set_option maxRecDepth 100000 in
set_option maxHeartbeats 4000000 in
theorem after_2n_neg (B : FB) (b : Nat → Int) (n nt k : Nat) (st s0 : RS) (t : Tok) (w : World) (hnb0 : ∀ j, w.heap.size ≤ j → ¬ FmS B j)
    (hlk : Calls Tryz.prog 190 #[pt B.f] w (Ran w B b n nt k s0 (tkV t)))
    (d6 : (t.kind == 6) = true) (hs : ∀ wx, Calls Tryz.prog 191 #[I t.n] wx (fun e w' => e = .returned (I 2) ∧ wx = w'))
    (p2 : Int) (d2 : (p2 == 2) = false) (ht2 : ∀ wx, AF wx B b n nt k s0 → Calls Tryz.prog 192 #[pt B.f] wx (Ran wx B b n nt k s0 (I p2)))
    (R : RS)
    (q j : Nat) (v kd : Int) (hq : (q : Int) < 41)
    (dv : decide (0 ≤ v) = false) (hcell : ∀ wx, AF wx B b n nt k s0 → wx.cell? ⟨B.f, 6, none⟩ = some (sl B.v 41 41) ∧ wx.cell? ⟨B.f, 7, none⟩ = some (I ((q + 1 : Nat) : Int)) ∧ wx.cell? ⟨B.v, q, none⟩ = some (I v))
    (s3 s4 : RS) (htk : ∀ wx, AF wx B b n nt k s0 → Calls Tryz.prog 196 #[pt B.f] wx (Ran wx B b n nt (k + 1) s3 (.tuple #[]))) (hpu : ∀ wx, AF wx B b n nt (k + 1) s3 → Calls Tryz.prog 197 #[pt B.f, mkV ⟨2, t.n, 0, 0, 0⟩] wx (Ran wx B b n nt (k + 1) s4 (.tuple #[]))) (hse : ∀ wx, AF wx B b n nt (k + 1) s4 → (∃ y, wx.cell? ⟨B.f, 10, none⟩ = some (.bool y)) ∧ wx.frozen? ⟨B.f, 10, none⟩ = false ∧ AF (wx.setCell ⟨B.f, 10, none⟩ (.bool false)) B b n nt (k + 1) R) (hh : R.err = 0 → (R.done = false → k < k + 1) ∧ Hts (k + 1) (if R.hav = true then 1 else 0) R ∧ (R.hav = true → topk R.O ≠ 1)) :
    Calls Tryz.prog 160 #[pt B.f] w (Turned w B b n nt k st R) := by
  have hlk := Bx.mk hlk
  have hnb0 := Bx.mk hnb0
  have hs := Bx.mk hs
  have ht2 := Bx.mk ht2
  have hcell := Bx.mk hcell
  have htk := Bx.mk htk
  have hpu := Bx.mk hpu
  have hse := Bx.mk hse
  have hh := Bx.mk hh
  go_enter Tryz.func160, Tryz.ntmps160
  go_wp2_with (first
        | (go_at_call 190; refine hlk.out.mono ?_; clear hlk; rintro e w1 ⟨rfl, hA1, hf1⟩; have hT1 := Bx.mk (tk_new w1 t rfl); have hA1 := Bx.mk (hA1.alloc (.cells (tkA t) 213)); have j0 := hT1.out.cell 0 (by omega); have j1 := hT1.out.cell 1 (by omega); have j4 := hT1.out.cell 4 (by omega); simp only [tkC] at j0 j1 j4)
        | (go_at_call 191; refine (hs.out _).mono ?_; clear hs; rintro e w' ⟨rfl, rfl⟩)
        | (go_at_call 192; refine (ht2.out _ hA1.out).mono ?_; clear ht2; rintro e w2 ⟨rfl, hA2, hf2⟩; have hT2 := Bx.mk (hf2.row hT1.out (hnb0.out _ (Nat.le_trans hf1.size (Nat.le_refl _)))); have hA2 := Bx.mk hA2; clear hA1; clear j0 j4 j1; have j0 := hT2.out.cell 0 (by omega); have j1 := hT2.out.cell 1 (by omega); have j4 := hT2.out.cell 4 (by omega); simp only [tkC] at j0 j1 j4; obtain ⟨c6, c7, cv⟩ := hcell.out _ hA2.out; clear hcell))
  go_quiet (fail)
  go_wp2_with (first
    | (go_at_call 196; refine (htk.out _ (hA2.out.fr0 ((Fr.refl _ _).drewN _))).mono ?_; clear htk; rintro e w8 ⟨rfl, hA8, hf8⟩; have hT8 := Bx.mk (hf8.row hT2.out (hnb0.out _ (Nat.le_trans hf1.size (Nat.le_refl _)))); have hA8 := Bx.mk hA8; have i4 := hT8.out.cell 4 (by omega); simp only [tkC] at i4)
    | (go_at_call 197; refine (hpu.out _ hA8.out).mono ?_; clear hpu; rintro e w9 ⟨rfl, hA9, hf9⟩; obtain ⟨⟨y, c10⟩, z10, hS9⟩ := hse.out _ hA9; have hS9 := Bx.mk hS9))
  go_end0
  exact ⟨rfl, ⟨k + 1, hS9.out, by omega, hh.out⟩, (((((((Fr.refl _ _).trans hf1).alloc _).trans hf2).drewN _).trans hf8).trans hf9).fm 10 _⟩
set_option maxRecDepth 100000 in
set_option maxHeartbeats 4000000 in
theorem after_2n_norange (B : FB) (b : Nat → Int) (n nt k : Nat) (st s0 : RS) (t : Tok) (w : World) (hnb0 : ∀ j, w.heap.size ≤ j → ¬ FmS B j)
    (hlk : Calls Tryz.prog 190 #[pt B.f] w (Ran w B b n nt k s0 (tkV t)))
    (d6 : (t.kind == 6) = true) (hs : ∀ wx, Calls Tryz.prog 191 #[I t.n] wx (fun e w' => e = .returned (I 2) ∧ wx = w'))
    (p2 : Int) (d2 : (p2 == 2) = false) (ht2 : ∀ wx, AF wx B b n nt k s0 → Calls Tryz.prog 192 #[pt B.f] wx (Ran wx B b n nt k s0 (I p2)))
    (R : RS)
    (q j : Nat) (v kd : Int) (hq : (q : Int) < 41)
    (hj24 : (j : Int) < 24) (dk : (kd == 4) = false) (hcell : ∀ wx, AF wx B b n nt k s0 → wx.cell? ⟨B.f, 6, none⟩ = some (sl B.v 41 41) ∧ wx.cell? ⟨B.f, 7, none⟩ = some (I ((q + 1 : Nat) : Int)) ∧ wx.cell? ⟨B.v, q, none⟩ = some (I (j : Int)) ∧ wx.cell? ⟨B.f, 4, none⟩ = some (sl B.a 24 24) ∧ wx.cell? ⟨B.a, j * 13, none⟩ = some (I kd))
    (s3 s4 : RS) (htk : ∀ wx, AF wx B b n nt k s0 → Calls Tryz.prog 196 #[pt B.f] wx (Ran wx B b n nt (k + 1) s3 (.tuple #[]))) (hpu : ∀ wx, AF wx B b n nt (k + 1) s3 → Calls Tryz.prog 197 #[pt B.f, mkV ⟨2, t.n, 0, 0, 0⟩] wx (Ran wx B b n nt (k + 1) s4 (.tuple #[]))) (hse : ∀ wx, AF wx B b n nt (k + 1) s4 → (∃ y, wx.cell? ⟨B.f, 10, none⟩ = some (.bool y)) ∧ wx.frozen? ⟨B.f, 10, none⟩ = false ∧ AF (wx.setCell ⟨B.f, 10, none⟩ (.bool false)) B b n nt (k + 1) R) (hh : R.err = 0 → (R.done = false → k < k + 1) ∧ Hts (k + 1) (if R.hav = true then 1 else 0) R ∧ (R.hav = true → topk R.O ≠ 1)) :
    Calls Tryz.prog 160 #[pt B.f] w (Turned w B b n nt k st R) := by
  have hlk := Bx.mk hlk
  have hnb0 := Bx.mk hnb0
  have hs := Bx.mk hs
  have ht2 := Bx.mk ht2
  have hcell := Bx.mk hcell
  have htk := Bx.mk htk
  have hpu := Bx.mk hpu
  have hse := Bx.mk hse
  have hh := Bx.mk hh
  go_enter Tryz.func160, Tryz.ntmps160
  go_wp2_with (first
        | (go_at_call 190; refine hlk.out.mono ?_; clear hlk; rintro e w1 ⟨rfl, hA1, hf1⟩; have hT1 := Bx.mk (tk_new w1 t rfl); have hA1 := Bx.mk (hA1.alloc (.cells (tkA t) 213)); have j0 := hT1.out.cell 0 (by omega); have j1 := hT1.out.cell 1 (by omega); have j4 := hT1.out.cell 4 (by omega); simp only [tkC] at j0 j1 j4)
        | (go_at_call 191; refine (hs.out _).mono ?_; clear hs; rintro e w' ⟨rfl, rfl⟩)
        | (go_at_call 192; refine (ht2.out _ hA1.out).mono ?_; clear ht2; rintro e w2 ⟨rfl, hA2, hf2⟩; have hT2 := Bx.mk (hf2.row hT1.out (hnb0.out _ (Nat.le_trans hf1.size (Nat.le_refl _)))); have hA2 := Bx.mk hA2; clear hA1; clear j0 j4 j1; have j0 := hT2.out.cell 0 (by omega); have j1 := hT2.out.cell 1 (by omega); have j4 := hT2.out.cell 4 (by omega); simp only [tkC] at j0 j1 j4; obtain ⟨c6, c7, cv, c4, ck⟩ := hcell.out _ hA2.out; clear hcell))
  go_quiet (fail)
  go_wp2_with (first
    | (go_at_call 196; refine (htk.out _ (hA2.out.fr0 ((Fr.refl _ _).drewN _))).mono ?_; clear htk; rintro e w8 ⟨rfl, hA8, hf8⟩; have hT8 := Bx.mk (hf8.row hT2.out (hnb0.out _ (Nat.le_trans hf1.size (Nat.le_refl _)))); have hA8 := Bx.mk hA8; have i4 := hT8.out.cell 4 (by omega); simp only [tkC] at i4)
    | (go_at_call 197; refine (hpu.out _ hA8.out).mono ?_; clear hpu; rintro e w9 ⟨rfl, hA9, hf9⟩; obtain ⟨⟨y, c10⟩, z10, hS9⟩ := hse.out _ hA9; have hS9 := Bx.mk hS9))
  go_end0
  exact ⟨rfl, ⟨k + 1, hS9.out, by omega, hh.out⟩, (((((((Fr.refl _ _).trans hf1).alloc _).trans hf2).drewN _).trans hf8).trans hf9).fm 10 _⟩
set_option maxRecDepth 100000 in
set_option maxHeartbeats 4000000 in
theorem after_2n_range (B : FB) (b : Nat → Int) (n nt k : Nat) (st s0 : RS) (t : Tok) (w : World) (hnb0 : ∀ j, w.heap.size ≤ j → ¬ FmS B j)
    (hlk : Calls Tryz.prog 190 #[pt B.f] w (Ran w B b n nt k s0 (tkV t)))
    (d6 : (t.kind == 6) = true) (hs : ∀ wx, Calls Tryz.prog 191 #[I t.n] wx (fun e w' => e = .returned (I 2) ∧ wx = w'))
    (p2 : Int) (d2 : (p2 == 2) = false) (ht2 : ∀ wx, AF wx B b n nt k s0 → Calls Tryz.prog 192 #[pt B.f] wx (Ran wx B b n nt k s0 (I p2)))
    (R : RS)
    (q j : Nat) (v kd : Int) (hq : (q : Int) < 41)
    (hj24 : (j : Int) < 24) (dk : (kd == 4) = true) (hcell : ∀ wx, AF wx B b n nt k s0 → wx.cell? ⟨B.f, 6, none⟩ = some (sl B.v 41 41) ∧ wx.cell? ⟨B.f, 7, none⟩ = some (I ((q + 1 : Nat) : Int)) ∧ wx.cell? ⟨B.v, q, none⟩ = some (I (j : Int)) ∧ wx.cell? ⟨B.f, 4, none⟩ = some (sl B.a 24 24) ∧ wx.cell? ⟨B.a, j * 13, none⟩ = some (I kd))
    (hfl : ∀ wx, AF wx B b n nt k s0 → Calls Tryz.prog 195 #[pt B.f, I 3, I t.st] wx (Ran wx B b n nt k R (.tuple #[]))) (her : R.err ≠ 0) :
    Calls Tryz.prog 160 #[pt B.f] w (Turned w B b n nt k st R) := by
  have hlk := Bx.mk hlk
  have hnb0 := Bx.mk hnb0
  have hs := Bx.mk hs
  have ht2 := Bx.mk ht2
  have hcell := Bx.mk hcell
  have hfl := Bx.mk hfl
  have her := Bx.mk her
  go_enter Tryz.func160, Tryz.ntmps160
  go_wp2_with (first
        | (go_at_call 190; refine hlk.out.mono ?_; clear hlk; rintro e w1 ⟨rfl, hA1, hf1⟩; have hT1 := Bx.mk (tk_new w1 t rfl); have hA1 := Bx.mk (hA1.alloc (.cells (tkA t) 213)); have j0 := hT1.out.cell 0 (by omega); have j1 := hT1.out.cell 1 (by omega); have j4 := hT1.out.cell 4 (by omega); simp only [tkC] at j0 j1 j4)
        | (go_at_call 191; refine (hs.out _).mono ?_; clear hs; rintro e w' ⟨rfl, rfl⟩)
        | (go_at_call 192; refine (ht2.out _ hA1.out).mono ?_; clear ht2; rintro e w2 ⟨rfl, hA2, hf2⟩; have hT2 := Bx.mk (hf2.row hT1.out (hnb0.out _ (Nat.le_trans hf1.size (Nat.le_refl _)))); have hA2 := Bx.mk hA2; clear hA1; clear j0 j4 j1; have j0 := hT2.out.cell 0 (by omega); have j1 := hT2.out.cell 1 (by omega); have j4 := hT2.out.cell 4 (by omega); simp only [tkC] at j0 j1 j4; obtain ⟨c6, c7, cv, c4, ck⟩ := hcell.out _ hA2.out; clear hcell))
  go_quiet (fail)
  go_wp2_with (first | (go_at_call 195; refine (hfl.out _ (hA2.out.fr0 ((Fr.refl _ _).drewN _))).mono ?_; clear hfl; rintro e w9 ⟨rfl, hA9, hf9⟩))
  go_end0
  exact ⟨rfl, ⟨k, hA9, Nat.le_refl _, fun e => absurd e her.out⟩, (((((Fr.refl _ _).trans hf1).alloc _).trans hf2).drewN _).trans hf9⟩
end Go.Proofs.Qxb6500326aGreat
