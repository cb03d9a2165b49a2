import Derived.Test.Qxb6500326aGreatX9
namespace Go.Proofs.Qxb6500326aGreat
set_option maxRecDepth 100000
set_option linter.unusedVariables false
set_option linter.unusedSimpArgs false
open Go.RowKit Go.PlainAid
theorem AF.alloc {w : World} {B : FB} {b : Nat → Int} {n nt k : Nat} {st : RS} (h : AF w B b n nt k st) (o : Obj) : AF (w.alloc o) B b n nt k st := h.fr0 ((Fr.refl _ _).alloc o)
theorem AF.lts {w : World} {B : FB} {b : Nat → Int} {n nt k : Nat} {st : RS} (h : AF w B b n nt k st) {j : Nat} (hj : w.heap.size ≤ j) : ¬ FmS B j := by
  obtain ⟨F, hF, -⟩ := h; exact not_fm hF hj
theorem push_hav (st : RS) (m : Mk) : (st.push m).hav = st.hav ∧ (st.push m).err = st.err ∧ (st.push m).done = st.done := ⟨rfl, rfl, rfl⟩
theorem call_eq {b : Nat → Int} {n : Nat} {st : RS} {t t1 t2 : Tok} {s1 s2 s3 s4 : RS} (h1 : st.take b n = s1) (h2 : s1.look b n = s2) (h3 : s2.take b n = s3) (h4 : s3.look b n = s4) (e1 : lex b n s2.pos = t1) (e2 : lex b n s4.pos = t2) :
    st.call b n t = if t1.kind ≠ 40 then s2.fail 5 t.st else if t2.kind = 41 then s4.fail 6 t.st else s4.push ⟨4, t.n, t.st, 0, -1⟩ := by
  subst h1; subst h2; subst h3; subst h4; subst e1; subst e2; rfl
set_option maxRecDepth 100000 in
set_option maxHeartbeats 4000000 in
theorem callX (B : FB) (b : Nat → Int) (n nt k : Nat) (st : RS) (t : Tok) (w : World) (h : AF w B b n nt k st) (hk0 : (lex b n st.pos).kind ≠ 0) (hts : Hts k 0 st) (hav : st.hav = false) :
    Calls Tryz.prog 200 #[pt B.f, tkV t] w (Turned w B b n nt k st (st.call b n t)) := by
  obtain ⟨hkn, hn41, hpn⟩ := h.kn
  obtain ⟨s1, h1⟩ : ∃ s1, st.take b n = s1 := ⟨_, rfl⟩
  obtain ⟨s2, h2⟩ : ∃ s2, s1.look b n = s2 := ⟨_, rfl⟩
  obtain ⟨s3, h3⟩ : ∃ s3, s2.take b n = s3 := ⟨_, rfl⟩
  obtain ⟨s4, h4⟩ : ∃ s4, s3.look b n = s4 := ⟨_, rfl⟩
  obtain ⟨t1, e1⟩ : ∃ t1, lex b n s1.pos = t1 := ⟨_, rfl⟩
  obtain ⟨t2, e2⟩ : ∃ t2, lex b n s3.pos = t2 := ⟨_, rfl⟩
  have p1 : s1.pos ≤ n := by rw [← h1]; exact (lex_fin hpn).1
  have q1 : lex b n s2.pos = t1 := by rw [← h2, look_tok p1, e1]
  have p2 : s2.pos ≤ n := by rw [← h2, (look_V s1).2.2.2.1, lex_st p1]; exact skip_le p1
  have p3 : s3.pos ≤ n := by rw [← h3]; exact (lex_fin p2).1
  have q2 : lex b n s4.pos = t2 := by rw [← h4, look_tok p3, e2]
  have g1 : Hts (k + 1) 0 s1 := by rw [← h1]; exact hts.take
  have g2 : Hts (k + 1) 0 s2 := by rw [← h2]; exact g1.look
  have g3 : Hts (k + 2) 0 s3 := by rw [← h3]; exact g2.take
  have g4 : Hts (k + 2) 0 s4 := by rw [← h4]; exact g3.look
  have v2 : s2.hav = false := by rw [← h2, (look_V s1).2.2.2.2.1, ← h1]; exact hav
  have v4 : s4.hav = false := by rw [← h4, (look_V s3).2.2.2.2.1, ← h3]; exact v2
  have o4 : s4.O.length < k + 2 := by rw [← h4, (look_V s3).2.1, ← h3]; show s2.O.length < k + 2; have := g2.ok; omega
  rw [call_eq h1 h2 h3 h4 q1 q2]
  have hnb := Bx.mk (h.lts (Nat.le_refl w.heap.size))
  have hT0 := Bx.mk (tk_new w t rfl)
  have hTk := takeX B b n nt k st (w.alloc (.cells (tkA t) 213)) (h.alloc _) hk0
  rw [h1] at hTk
  have hTk := Bx.mk hTk
  have hLk : ∀ wx, AF wx B b n nt (k + 1) s1 → Calls Tryz.prog 190 #[pt B.f] wx (Ran wx B b n nt (k + 1) s2 (tkV t1)) := fun wx hx => by have := lookX B b n nt (k + 1) s1 wx hx; rw [h2, e1] at this; exact this
  have hLk := Bx.mk hLk
  by_cases c1 : t1.kind = 40
  · rw [if_neg (by simpa using c1)]
    have d1 : (t1.kind != 40) = false := by simpa using c1
    have hTk2 : ∀ wx, AF wx B b n nt (k + 1) s2 → Calls Tryz.prog 196 #[pt B.f] wx (Ran wx B b n nt (k + 2) s3 (.tuple #[])) := fun wx hx => by have := takeX B b n nt (k + 1) s2 wx hx (by rw [q1, c1]; decide); rw [h3] at this; exact this
    have hTk2 := Bx.mk hTk2
    have hLk2 : ∀ wx, AF wx B b n nt (k + 2) s3 → Calls Tryz.prog 190 #[pt B.f] wx (Ran wx B b n nt (k + 2) s4 (tkV t2)) := fun wx hx => by have := lookX B b n nt (k + 2) s3 wx hx; rw [h4, e2] at this; exact this
    have hLk2 := Bx.mk hLk2
    by_cases c2 : t2.kind = 41
    · rw [if_pos c2]
      have d2 : (t2.kind == 41) = true := by simpa using c2
      have hfl := Bx.mk (fun wx hx => failX B b n nt (k + 2) s4 6 t.st wx hx)
      have her := Bx.mk (fail_errR s4 (e := 6) (by decide) t.st)
      clear h1 h2 h3 h4 e1 e2 q1 q2 p1 p2 p3 hts g1 g2 g3 g4 h hk0 c1 c2
      go_enter Tryz.func200, Tryz.ntmps200
      go_wp2_with (first
        | (go_at_call 196; refine hTk.out.mono ?_; clear hTk; rintro e w1 ⟨rfl, hA1, hf1⟩; have hA1 := Bx.mk hA1; have hT1 := Bx.mk (hf1.row hT0.out hnb.out))
        | (go_at_call 190; refine (hLk.out _ hA1.out).mono ?_; clear hLk; rintro e w2 ⟨rfl, hA2, hf2⟩; have hT2 := Bx.mk ((hf2.row hT1.out hnb.out).alloc (.cells (tkA t1) 213)); have hA2 := Bx.mk (hA2.alloc (.cells (tkA t1) 213)); have hB2 := Bx.mk (tk_new w2 t1 rfl); have j1 := hT2.out.cell 1 (by omega); have j4 := hT2.out.cell 4 (by omega); simp only [tkC] at j1 j4)
        | (go_at_call 196; refine (hTk2.out _ hA2.out).mono ?_; clear hTk2; rintro e w3 ⟨rfl, hA3, hf3⟩; have hA3 := Bx.mk hA3; have hT3 := Bx.mk (hf3.row hT2.out hnb.out))
        | (go_at_call 190; refine (hLk2.out _ hA3.out).mono ?_; clear hLk2; rintro e w4 ⟨rfl, hA4, hf4⟩; have hT4 := Bx.mk ((hf4.row hT3.out hnb.out).alloc (.cells (tkA t2) 213)); have hA4 := Bx.mk (hA4.alloc (.cells (tkA t2) 213)); clear j1 j4; have j1 := hT4.out.cell 1 (by omega); have j4 := hT4.out.cell 4 (by omega); simp only [tkC] at j1 j4)
        | (go_at_call 195; refine (hfl.out _ hA4.out).mono ?_; clear hfl; rintro e w5 ⟨rfl, hA5, hf5⟩))

      go_end0
      exact ⟨rfl, ⟨k + 2, hA5, by omega, fun e => absurd e her.out⟩, ((((((Fr.refl _ _).alloc _).trans hf1).trans hf2).alloc _).trans hf3 |>.trans hf4).alloc _ |>.trans hf5⟩
    · rw [if_neg c2]
      have d2 : (t2.kind == 41) = false := by simpa using c2
      have hpu := Bx.mk (fun wx hx => pushX B b n nt (k + 2) s4 ⟨4, t.n, t.st, 0, -1⟩ wx hx (by have := hx.kn; omega))
      have hh := Bx.mk (g4.push ⟨4, t.n, t.st, 0, -1⟩ o4 (by show (4 : Int) ≠ 2; decide) (by show (0 : Int) ≤ 0 ∧ (0 : Int) ≤ _; omega) ⟨by show (1 : Int) ≤ _; simp, by show _ ≤ (4 : Int); simp⟩)
      have hv4 := Bx.mk v4
      clear h1 h2 h3 h4 e1 e2 q1 q2 p1 p2 p3 hts g1 g2 g3 g4 h hk0 c1 c2
      go_enter Tryz.func200, Tryz.ntmps200
      go_wp2_with (first
        | (go_at_call 196; refine hTk.out.mono ?_; clear hTk; rintro e w1 ⟨rfl, hA1, hf1⟩; have hA1 := Bx.mk hA1; have hT1 := Bx.mk (hf1.row hT0.out hnb.out))
        | (go_at_call 190; refine (hLk.out _ hA1.out).mono ?_; clear hLk; rintro e w2 ⟨rfl, hA2, hf2⟩; have hT2 := Bx.mk ((hf2.row hT1.out hnb.out).alloc (.cells (tkA t1) 213)); have hA2 := Bx.mk (hA2.alloc (.cells (tkA t1) 213)); have hB2 := Bx.mk (tk_new w2 t1 rfl); have j1 := hT2.out.cell 1 (by omega); have j4 := hT2.out.cell 4 (by omega); simp only [tkC] at j1 j4)
        | (go_at_call 196; refine (hTk2.out _ hA2.out).mono ?_; clear hTk2; rintro e w3 ⟨rfl, hA3, hf3⟩; have hA3 := Bx.mk hA3; have hT3 := Bx.mk (hf3.row hT2.out hnb.out))
        | (go_at_call 190; refine (hLk2.out _ hA3.out).mono ?_; clear hLk2; rintro e w4 ⟨rfl, hA4, hf4⟩; have hT4 := Bx.mk ((hf4.row hT3.out hnb.out).alloc (.cells (tkA t2) 213)); have hA4 := Bx.mk (hA4.alloc (.cells (tkA t2) 213)); clear j1 j4; have j1 := hT4.out.cell 1 (by omega); have j4 := hT4.out.cell 4 (by omega); simp only [tkC] at j1 j4)
        | (go_at_call 197; refine (hpu.out _ hA4.out).mono ?_; clear hpu; rintro e w5 ⟨rfl, hA5, hf5⟩))

      go_end0
      exact ⟨rfl, ⟨k + 2, hA5, by omega, fun e => ⟨fun _ => by omega, by rw [if_neg (by show ¬ s4.hav = true; rw [hv4.out]; decide)]; exact hh.out, fun e => absurd (show s4.hav = true from e) (by rw [hv4.out]; decide)⟩⟩, ((((((Fr.refl _ _).alloc _).trans hf1).trans hf2).alloc _).trans hf3 |>.trans hf4).alloc _ |>.trans hf5⟩
  · rw [if_pos c1]
    have d1 : (t1.kind != 40) = true := by simpa using c1
    have hfl := Bx.mk (fun wx hx => failX B b n nt (k + 1) s2 5 t.st wx hx)
    have her := Bx.mk (fail_errR s2 (e := 5) (by decide) t.st)
    clear h1 h2 h3 h4 e1 e2 q1 q2 p1 p2 p3 hts g1 g2 g3 g4 h hk0 c1
    go_enter Tryz.func200, Tryz.ntmps200
    go_wp2_with (first
      | (go_at_call 196; refine hTk.out.mono ?_; clear hTk; rintro e w1 ⟨rfl, hA1, hf1⟩; have hA1 := Bx.mk hA1; have hT1 := Bx.mk (hf1.row hT0.out hnb.out))
      | (go_at_call 190; refine (hLk.out _ hA1.out).mono ?_; clear hLk; rintro e w2 ⟨rfl, hA2, hf2⟩; have hT2 := Bx.mk ((hf2.row hT1.out hnb.out).alloc (.cells (tkA t1) 213)); have hA2 := Bx.mk (hA2.alloc (.cells (tkA t1) 213)); have hB2 := Bx.mk (tk_new w2 t1 rfl); have j1 := hT2.out.cell 1 (by omega); have j4 := hT2.out.cell 4 (by omega); simp only [tkC] at j1 j4)
      | (go_at_call 195; refine (hfl.out _ hA2.out).mono ?_; clear hfl; rintro e w5 ⟨rfl, hA5, hf5⟩))

    go_end0
    exact ⟨rfl, ⟨k + 1, hA5, by omega, fun e => absurd e her.out⟩, ((((Fr.refl _ _).alloc _).trans hf1).trans hf2).alloc _ |>.trans hf5⟩
end Go.Proofs.Qxb6500326aGreat
