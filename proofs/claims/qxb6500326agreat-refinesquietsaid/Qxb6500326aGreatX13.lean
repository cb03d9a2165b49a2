import Derived.Test.Qxb6500326aGreatX12
namespace Go.Proofs.Qxb6500326aGreat
set_option maxRecDepth 100000
set_option linter.unusedVariables false
set_option linter.unusedSimpArgs false
open Go.RowKit Go.PlainAid
theorem lex_fault {b : Nat → Int} {n i : Nat} (h : (lex b n i).kind = 3) : (lex b n i).n ≠ 0 := by
  rcases lex_cases (b := b) (n := n) i with ⟨_, _, e⟩ | ⟨_, _, _, e⟩ | ⟨_, _, _, e⟩ | ⟨_, _, _, e⟩
  · rw [e] at h; exact absurd h (by show ¬ (0 : Int) = 3; decide)
  · rw [e] at h ⊢
    unfold lexNum at h ⊢
    simp only at h ⊢
    split
    · show (4 : Int) ≠ 0; decide
    · rename_i hc; rw [if_neg hc] at h; exact absurd h (by show ¬ (2 : Int) = 3; decide)
  · rw [e] at h ⊢
    unfold lexWord at h ⊢
    simp only at h ⊢
    split
    · rename_i hc; rw [hc] at h; exact absurd h (by show ¬ (4 : Int) = 3; decide)
    · rename_i hc
      rw [hc] at h
      simp only at h
      split
      · rename_i hd; rw [if_pos hd] at h; exact absurd h (by show ¬ (2 : Int) = 3; decide)
      · rename_i hd
        rw [if_neg hd] at h
        split
        · rename_i he; rw [if_pos he] at h; exact absurd h (by show ¬ (2 : Int) = 3; decide)
        · rename_i he
          rw [if_neg he] at h
          split
          · show (5 : Int) ≠ 0; decide
          · rename_i hf; rw [if_neg hf] at h; exact absurd h (by show ¬ (5 : Int) = 3; decide)
  · rw [e] at h ⊢
    rcases lexSgn_cases (Ch b n i) (nextB b n (skip b n i)) (skip b n i) with ⟨hc, e2⟩ | ⟨hc, e2⟩ | ⟨hc, e2⟩ | ⟨hc, e2⟩ | ⟨hc, hd, e2⟩ | ⟨hc, hd, e2⟩ | ⟨hc, e2⟩ <;> rw [e2] at h ⊢
    · exact absurd (show Ch b n i = 3 from h) (by omega)
    · exact absurd h (by show ¬ (6 : Int) = 3; decide)
    · exact absurd h (by show ¬ (6 : Int) = 3; decide)
    · exact absurd h (by show ¬ (6 : Int) = 3; decide)
    · exact absurd h (by show ¬ (2 : Int) = 3; decide)
    · show (2 : Int) ≠ 0; decide
    · exact absurd h (by show ¬ (1 : Int) = 3; decide)
theorem atom_eq {b : Nat → Int} {n : Nat} {st s0 : RS} {t : Tok} (h0 : st.look b n = s0) (e : lex b n s0.pos = t) : st.atom b n =
    if t.kind = 2 then (s0.take b n).whole ⟨t.op, 0, -1, -1, t.n, rz, rz⟩
    else if t.kind = 4 then s0.ref b n t
    else if t.kind = 5 then s0.call b n t
    else if t.kind = 40 then (s0.take b n).push ⟨3, 0, 0, 0, 0⟩
    else if t.kind = 3 then s0.fail t.n t.st
    else if t.kind ≠ 6 ∨ t.n ≠ 8 then s0.fail 3 t.st
    else (s0.take b n).push ⟨1, 0, 0, 0, 0⟩ := by
  subst h0; subst e; rfl
set_option maxRecDepth 100000 in
set_option maxHeartbeats 8000000 in
theorem atomX (B : FB) (b : Nat → Int) (n nt k : Nat) (st : RS) (w : World) (h : AF w B b n nt k st) (hts : Hts k 0 st) (hav : st.hav = false) :
    Calls Tryz.prog 161 #[pt B.f] w (Turned w B b n nt k st (st.atom b n)) := by
  obtain ⟨hkn, hn41, hpn⟩ := h.kn
  obtain ⟨s0, h0⟩ : ∃ s0, st.look b n = s0 := ⟨_, rfl⟩
  obtain ⟨t, e0⟩ : ∃ t, lex b n st.pos = t := ⟨_, rfl⟩
  have q0 : lex b n s0.pos = t := by rw [← h0, look_tok hpn, e0]
  have p0 : s0.pos ≤ n := by rw [← h0, (look_V st).2.2.2.1, lex_st hpn]; exact skip_le hpn
  have g0 : Hts k 0 s0 := by rw [← h0]; exact hts.look
  have v0 : s0.hav = false := by rw [← h0, (look_V st).2.2.2.2.1]; exact hav
  have v1 : (s0.take b n).hav = false := v0
  have g1 : Hts (k + 1) 0 (s0.take b n) := g0.take
  have vl : (s0.take b n).V.length < k + 1 := by show s0.V.length < k + 1; have := g0.vk; omega
  have ol : (s0.take b n).O.length < k + 1 := by show s0.O.length < k + 1; have := g0.ok; omega
  have hLk := lookX B b n nt k st w h
  rw [h0, e0] at hLk
  have hLk := Bx.mk hLk
  have hk0 : t.kind ≠ 0 → ∀ wx, AF wx B b n nt k s0 → Calls Tryz.prog 196 #[pt B.f] wx (Ran wx B b n nt (k + 1) (s0.take b n) (.tuple #[])) := fun hk wx hx => takeX B b n nt k s0 wx hx (by rw [q0]; exact hk)
  rw [atom_eq h0 q0]
  by_cases c2 : t.kind = 2
  · rw [if_pos c2]
    have t2 : (t.kind == 2) = true := by simp [c2]
    have t4 : (t.kind == 4) = false := by simp [c2]
    have t5 : (t.kind == 5) = false := by simp [c2]
    have t40 : (t.kind == 40) = false := by simp [c2]
    have t3 : (t.kind == 3) = false := by simp [c2]
    have hTk := Bx.mk (hk0 (by rw [c2]; decide))
    generalize s0.take b n = s1 at *
    have hwh := Bx.mk (fun wx hx => wholeX B b n nt (k + 1) s1 ⟨t.op, 0, -1, -1, t.n, rz, rz⟩ wx hx (by have := hx.kn; have := g1.ok; omega) (by have := hx.kn; omega) g1.len)
    have hwt := Bx.mk (whole_hts g1 vl ⟨t.op, 0, -1, -1, t.n, rz, rz⟩)
    clear h hts h0 e0 q0 hpn p0 g0 hk0
    clear c2 g1
    go_enter Tryz.func161, Tryz.ntmps161
    go_wp2_with (first
      | (go_at_call 190; refine hLk.out.mono ?_; clear hLk; rintro e w1 ⟨rfl, hA1, hf1⟩; have hnb := Bx.mk (hA1.lts (Nat.le_refl w1.heap.size)); have hB1 := Bx.mk (tk_new w1 t rfl); have hA1 := Bx.mk (hA1.alloc (.cells (tkA t) 213)))
      | (go_at_call 196; refine (hTk.out _ hA1.out).mono ?_; clear hTk; rintro e w2 ⟨rfl, hA2, hf2⟩; have hB2 := Bx.mk (hf2.row hB1.out hnb.out); have hA2 := Bx.mk hA2; have j0 := hB2.out.cell 0 (by omega); have j1 := hB2.out.cell 1 (by omega); have j3 := hB2.out.cell 3 (by omega); have j4 := hB2.out.cell 4 (by omega); simp only [tkC] at j0 j1 j3 j4)
      | (go_at_call 198; refine (hwh.out _ hA2.out).mono ?_; clear hwh; rintro e w3 ⟨rfl, hA3, hf3⟩))

    go_end0
    exact ⟨rfl, ⟨k + 1, hA3, by omega, fun e => ⟨fun _ => by omega, by rw [hwt.out.2.1]; exact hwt.out.1, fun _ => hwt.out.2.2⟩⟩, ((((Fr.refl _ _).trans hf1).alloc _).trans hf2).trans hf3⟩
  rw [if_neg c2]
  by_cases c4 : t.kind = 4
  · rw [if_pos c4]
    have t2 : (t.kind == 2) = false := by simp [c4]
    have t4 : (t.kind == 4) = true := by simp [c4]
    have t5 : (t.kind == 5) = false := by simp [c4]
    have t40 : (t.kind == 40) = false := by simp [c4]
    have t3 : (t.kind == 3) = false := by simp [c4]
    have hrf := Bx.mk (fun wx hx => refX B b n nt k s0 t wx hx (by rw [q0, c4]; decide) g0 v0)
    clear h hts h0 e0 q0 hpn p0 g0 hk0
    clear c2 c4 g1 vl ol v1
    go_enter Tryz.func161, Tryz.ntmps161
    go_wp2_with (first
      | (go_at_call 190; refine hLk.out.mono ?_; clear hLk; rintro e w1 ⟨rfl, hA1, hf1⟩; have hnb := Bx.mk (hA1.lts (Nat.le_refl w1.heap.size)); have hB1 := Bx.mk (tk_new w1 t rfl); have hA1 := Bx.mk (hA1.alloc (.cells (tkA t) 213)))
      | (go_at_call 199; refine (hrf.out _ hA1.out).mono ?_; clear hrf; rintro e w3 ⟨rfl, hA3, hf3⟩))

    go_end0
    exact ⟨rfl, hA3, (((Fr.refl _ _).trans hf1).alloc _).trans hf3⟩
  rw [if_neg c4]
  by_cases c5 : t.kind = 5
  · rw [if_pos c5]
    have t2 : (t.kind == 2) = false := by simp [c5]
    have t4 : (t.kind == 4) = false := by simp [c5]
    have t5 : (t.kind == 5) = true := by simp [c5]
    have t40 : (t.kind == 40) = false := by simp [c5]
    have t3 : (t.kind == 3) = false := by simp [c5]
    have hrf := Bx.mk (fun wx hx => callX B b n nt k s0 t wx hx (by rw [q0, c5]; decide) g0 v0)
    clear h hts h0 e0 q0 hpn p0 g0 hk0
    clear c2 c4 c5 g1 vl ol v1
    go_enter Tryz.func161, Tryz.ntmps161
    go_wp2_with (first
      | (go_at_call 190; refine hLk.out.mono ?_; clear hLk; rintro e w1 ⟨rfl, hA1, hf1⟩; have hnb := Bx.mk (hA1.lts (Nat.le_refl w1.heap.size)); have hB1 := Bx.mk (tk_new w1 t rfl); have hA1 := Bx.mk (hA1.alloc (.cells (tkA t) 213)))
      | (go_at_call 200; refine (hrf.out _ hA1.out).mono ?_; clear hrf; rintro e w3 ⟨rfl, hA3, hf3⟩))

    go_end0
    exact ⟨rfl, hA3, (((Fr.refl _ _).trans hf1).alloc _).trans hf3⟩
  rw [if_neg c5]
  by_cases c40 : t.kind = 40
  · rw [if_pos c40]
    have t2 : (t.kind == 2) = false := by simp [c40]
    have t4 : (t.kind == 4) = false := by simp [c40]
    have t5 : (t.kind == 5) = false := by simp [c40]
    have t40 : (t.kind == 40) = true := by simp [c40]
    have t3 : (t.kind == 3) = false := by simp [c40]
    have hTk := Bx.mk (hk0 (by rw [c40]; decide))
    generalize s0.take b n = s1 at *
    have hpu := Bx.mk (fun wx hx => pushX B b n nt (k + 1) s1 ⟨3, 0, 0, 0, 0⟩ wx hx (by have := hx.kn; omega))
    have hh := Bx.mk (g1.push ⟨3, 0, 0, 0, 0⟩ ol (by show (3 : Int) ≠ 2; decide) (by show (0 : Int) ≤ 0 ∧ (0 : Int) ≤ _; omega) ⟨by show (1 : Int) ≤ _; simp, by show _ ≤ (4 : Int); simp⟩)
    have hv := Bx.mk v1
    clear h hts h0 e0 q0 hpn p0 g0 hk0
    clear c2 c4 c5 c40 g1
    go_enter Tryz.func161, Tryz.ntmps161
    go_wp2_with (first
      | (go_at_call 190; refine hLk.out.mono ?_; clear hLk; rintro e w1 ⟨rfl, hA1, hf1⟩; have hnb := Bx.mk (hA1.lts (Nat.le_refl w1.heap.size)); have hB1 := Bx.mk (tk_new w1 t rfl); have hA1 := Bx.mk (hA1.alloc (.cells (tkA t) 213)))
      | (go_at_call 196; refine (hTk.out _ hA1.out).mono ?_; clear hTk; rintro e w2 ⟨rfl, hA2, hf2⟩; have hB2 := Bx.mk (hf2.row hB1.out hnb.out); have hA2 := Bx.mk hA2; have j0 := hB2.out.cell 0 (by omega); have j1 := hB2.out.cell 1 (by omega); have j3 := hB2.out.cell 3 (by omega); have j4 := hB2.out.cell 4 (by omega); simp only [tkC] at j0 j1 j3 j4)
      | (go_at_call 197; refine (hpu.out _ hA2.out).mono ?_; clear hpu; rintro e w3 ⟨rfl, hA3, hf3⟩))

    go_end0
    exact ⟨rfl, ⟨k + 1, hA3, by omega, fun e => ⟨fun _ => by omega, by rw [if_neg (by show ¬ s1.hav = true; rw [hv.out]; decide)]; exact hh.out, fun e => absurd (show s1.hav = true from e) (by rw [hv.out]; decide)⟩⟩, ((((Fr.refl _ _).trans hf1).alloc _).trans hf2).trans hf3⟩
  rw [if_neg c40]
  by_cases c3 : t.kind = 3
  · rw [if_pos c3]
    have t2 : (t.kind == 2) = false := by simp [c3]
    have t4 : (t.kind == 4) = false := by simp [c3]
    have t5 : (t.kind == 5) = false := by simp [c3]
    have t40 : (t.kind == 40) = false := by simp [c3]
    have t3 : (t.kind == 3) = true := by simp [c3]
    have hfl := Bx.mk (fun wx hx => failX B b n nt k s0 t.n t.st wx hx)
    have her := Bx.mk (fail_errR s0 (e := t.n) (by rw [← q0]; exact lex_fault (by rw [q0]; exact c3)) t.st)
    clear h hts h0 e0 q0 hpn p0 g0 hk0
    clear c2 c4 c5 c40 c3 g1 vl ol v1
    go_enter Tryz.func161, Tryz.ntmps161
    go_wp2_with (first
      | (go_at_call 190; refine hLk.out.mono ?_; clear hLk; rintro e w1 ⟨rfl, hA1, hf1⟩; have hnb := Bx.mk (hA1.lts (Nat.le_refl w1.heap.size)); have hB1 := Bx.mk (tk_new w1 t rfl); have hA1 := Bx.mk (hA1.alloc (.cells (tkA t) 213)))
      | (go_at_call 195; refine (hfl.out _ hA1.out).mono ?_; clear hfl; rintro e w3 ⟨rfl, hA3, hf3⟩))

    go_end0
    exact ⟨rfl, ⟨k, hA3, by omega, fun e => absurd e her.out⟩, (((Fr.refl _ _).trans hf1).alloc _).trans hf3⟩
  rw [if_neg c3]
  have t2 : (t.kind == 2) = false := by simpa using c2
  have t4 : (t.kind == 4) = false := by simpa using c4
  have t5 : (t.kind == 5) = false := by simpa using c5
  have t40 : (t.kind == 40) = false := by simpa using c40
  have t3 : (t.kind == 3) = false := by simpa using c3
  by_cases c6 : t.kind = 6
  · have t6 : (t.kind != 6) = false := by simpa using c6
    by_cases c8 : t.n = 8
    · have t8 : (t.n != 8) = false := by simpa using c8
      rw [if_neg (by omega)]
      have hTk := Bx.mk (hk0 (by rw [c6]; decide))
      generalize s0.take b n = s1 at *
      have hpu := Bx.mk (fun wx hx => pushX B b n nt (k + 1) s1 ⟨1, 0, 0, 0, 0⟩ wx hx (by have := hx.kn; omega))
      have hh := Bx.mk (g1.push ⟨1, 0, 0, 0, 0⟩ ol (by show (1 : Int) ≠ 2; decide) (by show (0 : Int) ≤ 0 ∧ (0 : Int) ≤ _; omega) ⟨by show (1 : Int) ≤ _; simp, by show _ ≤ (4 : Int); simp⟩)
      have hv := Bx.mk v1
      clear h hts h0 e0 q0 hpn p0 g0 hk0
      clear c2 c4 c5 c40 c3 g1 c6 c8
      go_enter Tryz.func161, Tryz.ntmps161
      go_wp2_with (first
        | (go_at_call 190; refine hLk.out.mono ?_; clear hLk; rintro e w1 ⟨rfl, hA1, hf1⟩; have hnb := Bx.mk (hA1.lts (Nat.le_refl w1.heap.size)); have hB1 := Bx.mk (tk_new w1 t rfl); have hA1 := Bx.mk (hA1.alloc (.cells (tkA t) 213)))
        | (go_at_call 196; refine (hTk.out _ hA1.out).mono ?_; clear hTk; rintro e w2 ⟨rfl, hA2, hf2⟩; have hB2 := Bx.mk (hf2.row hB1.out hnb.out); have hA2 := Bx.mk hA2; have j0 := hB2.out.cell 0 (by omega); have j1 := hB2.out.cell 1 (by omega); have j3 := hB2.out.cell 3 (by omega); have j4 := hB2.out.cell 4 (by omega); simp only [tkC] at j0 j1 j3 j4)
        | (go_at_call 197; refine (hpu.out _ hA2.out).mono ?_; clear hpu; rintro e w3 ⟨rfl, hA3, hf3⟩))

      go_end0
      exact ⟨rfl, ⟨k + 1, hA3, by omega, fun e => ⟨fun _ => by omega, by rw [if_neg (by show ¬ s1.hav = true; rw [hv.out]; decide)]; exact hh.out, fun e => absurd (show s1.hav = true from e) (by rw [hv.out]; decide)⟩⟩, ((((Fr.refl _ _).trans hf1).alloc _).trans hf2).trans hf3⟩
    · have t8 : (t.n != 8) = true := by simpa using c8
      rw [if_pos (.inr c8)]
      have hfl := Bx.mk (fun wx hx => failX B b n nt k s0 3 t.st wx hx)
      have her := Bx.mk (fail_errR s0 (e := 3) (by decide) t.st)
      clear h hts h0 e0 q0 hpn p0 g0 hk0
      clear c2 c4 c5 c40 c3 g1 c6 c8 vl ol v1
      go_enter Tryz.func161, Tryz.ntmps161
      go_wp2_with (first
        | (go_at_call 190; refine hLk.out.mono ?_; clear hLk; rintro e w1 ⟨rfl, hA1, hf1⟩; have hnb := Bx.mk (hA1.lts (Nat.le_refl w1.heap.size)); have hB1 := Bx.mk (tk_new w1 t rfl); have hA1 := Bx.mk (hA1.alloc (.cells (tkA t) 213)))
        | (go_at_call 195; refine (hfl.out _ hA1.out).mono ?_; clear hfl; rintro e w3 ⟨rfl, hA3, hf3⟩))

      go_end0
      exact ⟨rfl, ⟨k, hA3, by omega, fun e => absurd e her.out⟩, (((Fr.refl _ _).trans hf1).alloc _).trans hf3⟩
  · have t6 : (t.kind != 6) = true := by simpa using c6
    rw [if_pos (.inl c6)]
    have hfl := Bx.mk (fun wx hx => failX B b n nt k s0 3 t.st wx hx)
    have her := Bx.mk (fail_errR s0 (e := 3) (by decide) t.st)
    clear h hts h0 e0 q0 hpn p0 g0 hk0
    clear c2 c4 c5 c40 c3 g1 c6 vl ol v1
    go_enter Tryz.func161, Tryz.ntmps161
    go_wp2_with (first
      | (go_at_call 190; refine hLk.out.mono ?_; clear hLk; rintro e w1 ⟨rfl, hA1, hf1⟩; have hnb := Bx.mk (hA1.lts (Nat.le_refl w1.heap.size)); have hB1 := Bx.mk (tk_new w1 t rfl); have hA1 := Bx.mk (hA1.alloc (.cells (tkA t) 213)))
      | (go_at_call 195; refine (hfl.out _ hA1.out).mono ?_; clear hfl; rintro e w3 ⟨rfl, hA3, hf3⟩))

    go_end0
    exact ⟨rfl, ⟨k, hA3, by omega, fun e => absurd e her.out⟩, (((Fr.refl _ _).trans hf1).alloc _).trans hf3⟩
end Go.Proofs.Qxb6500326aGreat
