import Derived.Test.Qxb6500326aGreatX11
namespace Go.Proofs.Qxb6500326aGreat
set_option maxRecDepth 100000
set_option linter.unusedVariables false
set_option linter.unusedSimpArgs false
open Go.RowKit Go.PlainAid
theorem RowDrewN {w : World} {b n : Nat} {vs : Nat → Value} (h : Row w b n vs) (j : Nat) : Row (w.drewN j) b n vs := h
set_option maxRecDepth 100000 in
set_option maxHeartbeats 4000000 in
theorem ref_yes (B : FB) (b : Nat → Int) (n nt k : Nat) (st : RS) (t : Tok) (w : World) (h : AF w B b n nt k st) (hk0 : (lex b n st.pos).kind ≠ 0) (hts : Hts k 0 st) (hav : st.hav = false) (m : Mk) (O' : List Mk) (hO : st.O = m :: O') (hm : m.kind = 4) :
    Calls Tryz.prog 199 #[pt B.f, tkV t] w (Turned w B b n nt k st (st.ref b n t)) := by
  obtain ⟨hkn, hn41, hpn⟩ := h.kn
  obtain ⟨s1, h1⟩ : ∃ s1, st.take b n = s1 := ⟨_, rfl⟩
  obtain ⟨s2, h2⟩ : ∃ s2, s1.look b n = s2 := ⟨_, rfl⟩
  obtain ⟨s3, h3⟩ : ∃ s3, s2.take b n = s3 := ⟨_, rfl⟩
  obtain ⟨s4, h4⟩ : ∃ s4, s3.look b n = s4 := ⟨_, rfl⟩
  obtain ⟨s5, h5⟩ : ∃ s5, s4.take b n = s5 := ⟨_, rfl⟩
  obtain ⟨t1, e1⟩ : ∃ t1, lex b n s1.pos = t1 := ⟨_, rfl⟩
  obtain ⟨t2, e2⟩ : ∃ t2, lex b n s3.pos = t2 := ⟨_, rfl⟩
  have p1 : s1.pos ≤ n := by rw [← h1]; exact (lex_fin hpn).1
  have q1 : lex b n s2.pos = t1 := by rw [← h2, look_tok p1, e1]
  have p2 : s2.pos ≤ n := by rw [← h2, (look_V s1).2.2.2.1, lex_st p1]; exact skip_le p1
  have p3 : s3.pos ≤ n := by rw [← h3]; exact (lex_fin p2).1
  have q2 : lex b n s4.pos = t2 := by rw [← h4, look_tok p3, e2]
  have g1 : Hts (k + 1) 0 s1 := by rw [← h1]; exact hts.take
  have g2 : Hts (k + 1) 0 s2 := by rw [← h2]; exact g1.look
  have g3 : Hts (k + 2) 0 s3 := by rw [← h3]; exact g2.take
  have g4 : Hts (k + 2) 0 s4 := by rw [← h4]; exact g3.look
  have g5 : Hts (k + 3) 0 s5 := by rw [← h5]; exact g4.take
  have vl2 : s2.V.length < k + 1 := by rw [← h2, (look_V s1).1, ← h1]; show st.V.length < k + 1; have := hts.vk; omega
  have vl5 : s5.V.length < k + 3 := by rw [← h5]; show s4.V.length < k + 3; have := g4.vk; omega
  obtain ⟨p, hpl⟩ : ∃ p, st.O.length = p + 1 := ⟨O'.length, by rw [hO]; rfl⟩
  have hp41 : (p : Int) < 41 := by have := hts.ok; omega
  have lf : B.f < w.heap.size := by obtain ⟨F, hF, -⟩ := h; exact hF.row.lt
  have lo : B.o < w.heap.size := by obtain ⟨F, hF, -⟩ := h; exact hF.lts.2.2.2.2.1
  have hcs : w.cell? ⟨B.f, 9, none⟩ = some (I ((p + 1 : Nat) : Int)) ∧ w.cell? ⟨B.f, 8, none⟩ = some (sl B.o 41 41) ∧ w.cell? ⟨B.o, p * 5, none⟩ = some (I m.kind) ∧ w.cell? ⟨B.o, p * 5 + 1, none⟩ = some (I m.op) := by
    obtain ⟨F, hF, hR, -, -⟩ := h
    have a9 := hF.row.cell 9 (by omega)
    have a8 := hF.row.cell 8 (by omega)
    have hno := hR.nol
    obtain ⟨t1', t2', -⟩ := hR.topO hO
    have hp : F.no = p + 1 := by omega
    rw [hp, Nat.add_sub_cancel] at t2'
    have b0 := hF.ops.cell0 p (by omega) (by omega)
    have b1 := hF.ops.cell p 1 (by omega) (by omega)
    simp only [fmC] at a9 a8
    rw [hp] at a9
    rw [t2'] at b0 b1
    exact ⟨a9, a8, b0, b1⟩
  obtain ⟨c9, c8, k0, k1⟩ := hcs
  have x0 : decide ((0 : Int) < ((p + 1 : Nat) : Int)) = true := decide_eq_true (by omega)
  have x1 : decide ((0 : Int) < (p : Int) + 1) = true := decide_eq_true (by omega)
  have x2 : (0 : Int) < (p : Int) + 1 := by omega
  have hrg : rangesOf st.O = rangeOK m.op := by rw [hO]; show (if m.kind = 4 then rangeOK m.op else false) = _; rw [if_pos hm]
  have hmd : (m.kind == 4) = true := by simpa using hm
  have hrk0 : ∀ wx, Calls Tryz.prog 213 #[I m.op] wx fun e w' => e = .returned (.bool (rangeOK m.op)) ∧ w' = wx := fun wx => (rangeOK_any m.op wx).mono (fun e w' h => ⟨h.1, h.2.symm⟩)
  have hrk := Bx.mk hrk0
  have hdr : ∀ i j, AF (((w.alloc (.cells (tkA t) 213)).drewN i).drewN j) B b n nt k st := fun i j => ((h.alloc (.cells (tkA t) 213)).drewN i).drewN j
  have hdrB := Bx.mk hdr
  clear hO hm hpl hdr hrk0
  rw [ref_eq hrg h1 h2 h3 h4 h5 q1 q2]
  have hnb := Bx.mk (h.lts (Nat.le_refl w.heap.size))
  have hT0 := Bx.mk (tk_new w t rfl)
  have hAF0 := Bx.mk (h.alloc (.cells (tkA t) 213))
  have hTk : ∀ wx, AF wx B b n nt k st → Calls Tryz.prog 196 #[pt B.f] wx (Ran wx B b n nt (k + 1) s1 (.tuple #[])) := fun wx hx => by have := takeX B b n nt k st wx hx hk0; rw [h1] at this; exact this
  have hTk := Bx.mk hTk
  have hLk : ∀ wx, AF wx B b n nt (k + 1) s1 → Calls Tryz.prog 190 #[pt B.f] wx (Ran wx B b n nt (k + 1) s2 (tkV t1)) := fun wx hx => by have := lookX B b n nt (k + 1) s1 wx hx; rw [h2, e1] at this; exact this
  have hLk := Bx.mk hLk
  by_cases c1 : t1.kind = 58
  · rw [if_neg (by simpa using c1)]
    have d1 : (t1.kind != 58) = false := by simpa using c1
    have hTk2 : ∀ wx, AF wx B b n nt (k + 1) s2 → Calls Tryz.prog 196 #[pt B.f] wx (Ran wx B b n nt (k + 2) s3 (.tuple #[])) := fun wx hx => by have := takeX B b n nt (k + 1) s2 wx hx (by rw [q1, c1]; decide); rw [h3] at this; exact this
    have hTk2 := Bx.mk hTk2
    have hLk2 : ∀ wx, AF wx B b n nt (k + 2) s3 → Calls Tryz.prog 190 #[pt B.f] wx (Ran wx B b n nt (k + 2) s4 (tkV t2)) := fun wx hx => by have := lookX B b n nt (k + 2) s3 wx hx; rw [h4, e2] at this; exact this
    have hLk2 := Bx.mk hLk2
    by_cases c2 : t2.kind = 4
    · rw [if_neg (by simpa using c2)]
      have d2 : (t2.kind != 4) = false := by simpa using c2
      have hTk3 : ∀ wx, AF wx B b n nt (k + 2) s4 → Calls Tryz.prog 196 #[pt B.f] wx (Ran wx B b n nt (k + 3) s5 (.tuple #[])) := fun wx hx => by have := takeX B b n nt (k + 2) s4 wx hx (by rw [q2, c2]; decide); rw [h5] at this; exact this
      have hTk3 := Bx.mk hTk3
      cases hrb : rangeOK m.op
      · rw [if_neg (by decide)]
        have hfl := Bx.mk (fun wx hx => failX B b n nt (k + 3) s5 6 t.st wx hx)
        have her := Bx.mk (fail_errR s5 (e := 6) (by decide) t.st)
        rw [hrb] at hrk
        have hrB := Bx.mk hrb
        clear h1 h2 h3 h4 h5 e1 e2 q1 q2 p1 p2 p3 hts g1 g2 g3 g4 g5 h hk0 c1 c2 hrb hrg
        go_enter Tryz.func199, Tryz.ntmps199
        go_wp2_with fail
        go_quiet (fail)
        go_wp2_with fail
        go_quiet (first | (go_at_call 213; exact (hrk.out _).mono (fun e w' h => ⟨h.1, _, h.2⟩)))
        go_wp2_with (first
          | (go_at_call 196; refine (hTk.out _ (hAF0.out.drewN _)).mono ?_; clear hTk; rintro e w1 ⟨rfl, hA1, hf1⟩; have hA1 := Bx.mk hA1; have hT1 := Bx.mk (hf1.row (RowDrewN hT0.out _) hnb.out))
          | (go_at_call 190; refine (hLk.out _ hA1.out).mono ?_; clear hLk; rintro e w2 ⟨rfl, hA2, hf2⟩; have hT2 := Bx.mk ((hf2.row hT1.out hnb.out).alloc (.cells (tkA t1) 213)); have hA2 := Bx.mk (hA2.alloc (.cells (tkA t1) 213)); have j1 := hT2.out.cell 1 (by omega); have j5 := hT2.out.cell 5 (by omega); have j6 := hT2.out.cell 6 (by omega); have j7 := hT2.out.cell 7 (by omega); have j8 := hT2.out.cell 8 (by omega); simp only [tkC] at j1 j5 j6 j7 j8)
          | (go_at_call 196; refine (hTk2.out _ hA2.out).mono ?_; clear hTk2; rintro e w3 ⟨rfl, hA3, hf3⟩; have hA3 := Bx.mk hA3; have hT3 := Bx.mk (hf3.row hT2.out hnb.out))
          | (go_at_call 190; refine (hLk2.out _ hA3.out).mono ?_; clear hLk2; rintro e w4 ⟨rfl, hA4, hf4⟩; have hT4 := Bx.mk ((hf4.row hT3.out hnb.out).alloc (.cells (tkA t2) 213)); have hB4 := Bx.mk (tk_new w4 t2 rfl); have hb4 := Bx.mk (hA4.lts (Nat.le_refl w4.heap.size)); have hA4 := Bx.mk (hA4.alloc (.cells (tkA t2) 213)); clear j1 j5 j6 j7 j8; have j1 := hT4.out.cell 1 (by omega); have j5 := hT4.out.cell 5 (by omega); have j6 := hT4.out.cell 6 (by omega); have j7 := hT4.out.cell 7 (by omega); have j8 := hT4.out.cell 8 (by omega); simp only [tkC] at j1 j5 j6 j7 j8)
          | (go_at_call 196; refine (hTk3.out _ hA4.out).mono ?_; clear hTk3; rintro e w5 ⟨rfl, hA5, hf5⟩; have hA5 := Bx.mk hA5; have hT5 := Bx.mk (hf5.row hT4.out hnb.out); have hU5 := Bx.mk (hf5.row hB4.out hb4.out); clear j1 j5 j6 j7 j8; have j1 := hT5.out.cell 1 (by omega); have j5 := hT5.out.cell 5 (by omega); have j6 := hT5.out.cell 6 (by omega); have j7 := hT5.out.cell 7 (by omega); have j8 := hT5.out.cell 8 (by omega); simp only [tkC] at j1 j5 j6 j7 j8; have u5 := hU5.out.cell 5 (by omega); have u6 := hU5.out.cell 6 (by omega); have u7 := hU5.out.cell 7 (by omega); have u8 := hU5.out.cell 8 (by omega); simp only [tkC] at u5 u6 u7 u8)
          | (go_at_call 195; refine (hfl.out _ hA5.out).mono ?_; clear hfl; rintro e w6 ⟨rfl, hA6, hf6⟩))

        go_end0
        exact ⟨rfl, ⟨k + 3, hA6, by omega, fun e => absurd e her.out⟩, ((((((((((Fr.refl _ _).alloc _).drewN _).trans hf1).trans hf2).alloc _).trans hf3).trans hf4).alloc _).trans hf5).trans hf6⟩
      · rw [if_pos rfl]
        have hwh := Bx.mk (fun wx hx => wholeX B b n nt (k + 3) s5 (nRange t.r t2.r) wx hx (by have := hx.kn; have := g5.ok; omega) (by have := hx.kn; omega) g5.len)
        have hwt := Bx.mk (whole_hts g5 vl5 (nRange t.r t2.r))
        rw [hrb] at hrk
        have hrB := Bx.mk hrb
        clear h1 h2 h3 h4 h5 e1 e2 q1 q2 p1 p2 p3 hts g1 g2 g3 g4 g5 h hk0 c1 c2 hrb hrg
        go_enter Tryz.func199, Tryz.ntmps199
        go_wp2_with fail
        go_quiet (fail)
        go_wp2_with fail
        go_quiet (first | (go_at_call 213; exact (hrk.out _).mono (fun e w' h => ⟨h.1, _, h.2⟩)))
        go_wp2_with (first
          | (go_at_call 196; refine (hTk.out _ (hAF0.out.drewN _)).mono ?_; clear hTk; rintro e w1 ⟨rfl, hA1, hf1⟩; have hA1 := Bx.mk hA1; have hT1 := Bx.mk (hf1.row (RowDrewN hT0.out _) hnb.out))
          | (go_at_call 190; refine (hLk.out _ hA1.out).mono ?_; clear hLk; rintro e w2 ⟨rfl, hA2, hf2⟩; have hT2 := Bx.mk ((hf2.row hT1.out hnb.out).alloc (.cells (tkA t1) 213)); have hA2 := Bx.mk (hA2.alloc (.cells (tkA t1) 213)); have j1 := hT2.out.cell 1 (by omega); have j5 := hT2.out.cell 5 (by omega); have j6 := hT2.out.cell 6 (by omega); have j7 := hT2.out.cell 7 (by omega); have j8 := hT2.out.cell 8 (by omega); simp only [tkC] at j1 j5 j6 j7 j8)
          | (go_at_call 196; refine (hTk2.out _ hA2.out).mono ?_; clear hTk2; rintro e w3 ⟨rfl, hA3, hf3⟩; have hA3 := Bx.mk hA3; have hT3 := Bx.mk (hf3.row hT2.out hnb.out))
          | (go_at_call 190; refine (hLk2.out _ hA3.out).mono ?_; clear hLk2; rintro e w4 ⟨rfl, hA4, hf4⟩; have hT4 := Bx.mk ((hf4.row hT3.out hnb.out).alloc (.cells (tkA t2) 213)); have hB4 := Bx.mk (tk_new w4 t2 rfl); have hb4 := Bx.mk (hA4.lts (Nat.le_refl w4.heap.size)); have hA4 := Bx.mk (hA4.alloc (.cells (tkA t2) 213)); clear j1 j5 j6 j7 j8; have j1 := hT4.out.cell 1 (by omega); have j5 := hT4.out.cell 5 (by omega); have j6 := hT4.out.cell 6 (by omega); have j7 := hT4.out.cell 7 (by omega); have j8 := hT4.out.cell 8 (by omega); simp only [tkC] at j1 j5 j6 j7 j8)
          | (go_at_call 196; refine (hTk3.out _ hA4.out).mono ?_; clear hTk3; rintro e w5 ⟨rfl, hA5, hf5⟩; have hA5 := Bx.mk hA5; have hT5 := Bx.mk (hf5.row hT4.out hnb.out); have hU5 := Bx.mk (hf5.row hB4.out hb4.out); clear j1 j5 j6 j7 j8; have j1 := hT5.out.cell 1 (by omega); have j5 := hT5.out.cell 5 (by omega); have j6 := hT5.out.cell 6 (by omega); have j7 := hT5.out.cell 7 (by omega); have j8 := hT5.out.cell 8 (by omega); simp only [tkC] at j1 j5 j6 j7 j8; have u5 := hU5.out.cell 5 (by omega); have u6 := hU5.out.cell 6 (by omega); have u7 := hU5.out.cell 7 (by omega); have u8 := hU5.out.cell 8 (by omega); simp only [tkC] at u5 u6 u7 u8)
          | (go_at_call 198; refine (hwh.out _ hA5.out).mono ?_; clear hwh; rintro e w6 ⟨rfl, hA6, hf6⟩))

        go_end0
        exact ⟨rfl, ⟨k + 3, hA6, by omega, fun e => ⟨fun _ => by omega, by rw [hwt.out.2.1]; exact hwt.out.1, fun _ => hwt.out.2.2⟩⟩, ((((((((((Fr.refl _ _).alloc _).drewN _).trans hf1).trans hf2).alloc _).trans hf3).trans hf4).alloc _).trans hf5).trans hf6⟩
    · rw [if_pos c2]
      have d2 : (t2.kind != 4) = true := by simpa using c2
      have hfl := Bx.mk (fun wx hx => failX B b n nt (k + 2) s4 3 t2.st wx hx)
      have her := Bx.mk (fail_errR s4 (e := 3) (by decide) t2.st)
      clear h1 h2 h3 h4 h5 e1 e2 q1 q2 p1 p2 p3 hts g1 g2 g3 g4 g5 h hk0 c1 c2 hrg
      go_enter Tryz.func199, Tryz.ntmps199
      go_wp2_with fail
      go_quiet (fail)
      go_wp2_with fail
      go_quiet (first | (go_at_call 213; exact (hrk.out _).mono (fun e w' h => ⟨h.1, _, h.2⟩)))
      go_wp2_with (first
        | (go_at_call 196; refine (hTk.out _ (hAF0.out.drewN _)).mono ?_; clear hTk; rintro e w1 ⟨rfl, hA1, hf1⟩; have hA1 := Bx.mk hA1; have hT1 := Bx.mk (hf1.row (RowDrewN hT0.out _) hnb.out))
        | (go_at_call 190; refine (hLk.out _ hA1.out).mono ?_; clear hLk; rintro e w2 ⟨rfl, hA2, hf2⟩; have hT2 := Bx.mk ((hf2.row hT1.out hnb.out).alloc (.cells (tkA t1) 213)); have hA2 := Bx.mk (hA2.alloc (.cells (tkA t1) 213)); have j1 := hT2.out.cell 1 (by omega); have j5 := hT2.out.cell 5 (by omega); have j6 := hT2.out.cell 6 (by omega); have j7 := hT2.out.cell 7 (by omega); have j8 := hT2.out.cell 8 (by omega); simp only [tkC] at j1 j5 j6 j7 j8)
        | (go_at_call 196; refine (hTk2.out _ hA2.out).mono ?_; clear hTk2; rintro e w3 ⟨rfl, hA3, hf3⟩; have hA3 := Bx.mk hA3; have hT3 := Bx.mk (hf3.row hT2.out hnb.out))
        | (go_at_call 190; refine (hLk2.out _ hA3.out).mono ?_; clear hLk2; rintro e w4 ⟨rfl, hA4, hf4⟩; have hT4 := Bx.mk ((hf4.row hT3.out hnb.out).alloc (.cells (tkA t2) 213)); have hB4 := Bx.mk (tk_new w4 t2 rfl); have hb4 := Bx.mk (hA4.lts (Nat.le_refl w4.heap.size)); have hA4 := Bx.mk (hA4.alloc (.cells (tkA t2) 213)); clear j1 j5 j6 j7 j8; have j1 := hT4.out.cell 1 (by omega); have j5 := hT4.out.cell 5 (by omega); have j6 := hT4.out.cell 6 (by omega); have j7 := hT4.out.cell 7 (by omega); have j8 := hT4.out.cell 8 (by omega); simp only [tkC] at j1 j5 j6 j7 j8)
        | (go_at_call 195; refine (hfl.out _ hA4.out).mono ?_; clear hfl; rintro e w6 ⟨rfl, hA6, hf6⟩))

      go_end0
      exact ⟨rfl, ⟨k + 2, hA6, by omega, fun e => absurd e her.out⟩, (((((((((Fr.refl _ _).alloc _).drewN _).trans hf1).trans hf2).alloc _).trans hf3).trans hf4).alloc _).trans hf6⟩
  · rw [if_pos c1]
    have d1 : (t1.kind != 58) = true := by simpa using c1
    have hwh := Bx.mk (fun wx hx => wholeX B b n nt (k + 1) s2 (nRef t.r) wx hx (by have := hx.kn; have := g2.ok; omega) (by have := hx.kn; omega) g2.len)
    have hwt := Bx.mk (whole_hts g2 vl2 (nRef t.r))
    clear h1 h2 h3 h4 h5 e1 e2 q1 q2 p1 p2 p3 hts g1 g2 g3 g4 g5 h hk0 c1 hrg
    go_enter Tryz.func199, Tryz.ntmps199
    go_wp2_with fail
    go_quiet (fail)
    go_wp2_with fail
    go_quiet (first | (go_at_call 213; exact (hrk.out _).mono (fun e w' h => ⟨h.1, _, h.2⟩)))
    go_wp2_with (first
      | (go_at_call 196; refine (hTk.out _ (hAF0.out.drewN _)).mono ?_; clear hTk; rintro e w1 ⟨rfl, hA1, hf1⟩; have hA1 := Bx.mk hA1; have hT1 := Bx.mk (hf1.row (RowDrewN hT0.out _) hnb.out))
      | (go_at_call 190; refine (hLk.out _ hA1.out).mono ?_; clear hLk; rintro e w2 ⟨rfl, hA2, hf2⟩; have hT2 := Bx.mk ((hf2.row hT1.out hnb.out).alloc (.cells (tkA t1) 213)); have hA2 := Bx.mk (hA2.alloc (.cells (tkA t1) 213)); have j1 := hT2.out.cell 1 (by omega); have j5 := hT2.out.cell 5 (by omega); have j6 := hT2.out.cell 6 (by omega); have j7 := hT2.out.cell 7 (by omega); have j8 := hT2.out.cell 8 (by omega); simp only [tkC] at j1 j5 j6 j7 j8)
      | (go_at_call 198; refine (hwh.out _ hA2.out).mono ?_; clear hwh; rintro e w6 ⟨rfl, hA6, hf6⟩))

    go_end0
    exact ⟨rfl, ⟨k + 1, hA6, by omega, fun e => ⟨fun _ => by omega, by rw [hwt.out.2.1]; exact hwt.out.1, fun _ => hwt.out.2.2⟩⟩, ((((((Fr.refl _ _).alloc _).drewN _).trans hf1).trans hf2).alloc _).trans hf6⟩
theorem refX (B : FB) (b : Nat → Int) (n nt k : Nat) (st : RS) (t : Tok) (w : World) (h : AF w B b n nt k st) (hk0 : (lex b n st.pos).kind ≠ 0) (hts : Hts k 0 st) (hav : st.hav = false) :
    Calls Tryz.prog 199 #[pt B.f, tkV t] w (Turned w B b n nt k st (st.ref b n t)) := by
  cases hO : st.O with
  | nil => exact ref_nil B b n nt k st t w h hk0 hts hav hO
  | cons m O' =>
    by_cases hm : m.kind = 4
    · exact ref_yes B b n nt k st t w h hk0 hts hav m O' hO hm
    · exact ref_no B b n nt k st t w h hk0 hts hav m O' hO hm
end Go.Proofs.Qxb6500326aGreat
