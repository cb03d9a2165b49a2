import Derived.Test.Qxb6500326aGreatW9
namespace Go.Proofs.Qxb6500326aGreat
set_option maxRecDepth 100000
set_option linter.unusedVariables false
set_option linter.unusedSimpArgs false
open Go.RowKit Go.PlainAid
theorem chainLoop_succ (b : Nat → Int) (n : Nat) (opOf : Int → Int) (nxt : PS → PS × Int) (m : Nat) (st : PS) (a : Int) :
    chainLoop b n opOf nxt (m + 1) st a = if st.err ≠ 0 then (st, -1) else if opOf (st.look b n).2 = 0 then ((st.look b n).1, a) else if isRange (st.look b n).1.n a = true then ((st.look b n).1.fail 3 (st.look b n).1.i, -1) else
      chainLoop b n opOf nxt m ((nxt ((st.look b n).1.go ((st.look b n).1.i + 1))).1.add (nBin (opOf (st.look b n).2) a (nxt ((st.look b n).1.go ((st.look b n).1.i + 1))).2)).1 ((nxt ((st.look b n).1.go ((st.look b n).1.i + 1))).1.add (nBin (opOf (st.look b n).2) a (nxt ((st.look b n).1.go ((st.look b n).1.i + 1))).2)).2 := rfl
set_option maxRecDepth 100000 in
set_option maxHeartbeats 4000000 in
theorem chain3_any (r : Nat) (s : ByteArray) (hs : s.size ≤ 40) (opOf : Int → Int) (hop0 : opOf = mulOp) (nxt : Bool → PS → PS × Int) (F f : Nat) (hF : s.size < F) (hnx : ∀ ranges st v w, RD w r s st v → st.i ≤ s.size → s.size - st.i < f → Calls Tryz.prog 210 #[pt r, .bool ranges] w (RC r s w st (nxt ranges st))) :
    ∀ ranges st v w, RD w r s st v → st.i ≤ s.size → s.size - st.i < f → Calls Tryz.prog 171 #[pt r, I 3, .bool ranges] w (RC r s w st (chainLoop (bt s) s.size opOf (nxt false) F (nxt ranges st).1 (nxt ranges st).2)) := by
  intro ranges st v w h h1 h2
  have hfst := Bx.mk (hnx ranges st v w h h1 h2)
  have hnx := Bx.mk hnx
  clear h
  generalize nxt ranges st = u0 at *
  generalize hR0 : chainLoop (bt s) s.size opOf (nxt false) F u0.1 u0.2 = R0
  go_enter Tryz.func171, Tryz.ntmps171
  go_wp2_with (first | (go_at_call 210; refine hfst.out.mono ?_; rintro e w0 ⟨v0, rfl, hRs, hfs, j1, j2⟩; have hRs := Bx.mk hRs))
  go_loopw [7] (fun a wr => ∃ (m : Nat) (st' : PS) (a' : Int) (v' : Value), a = I a' ∧ chainLoop (bt s) s.size opOf (nxt false) m st' a' = R0 ∧ s.size - st'.i < m ∧ st.i ≤ st'.i ∧ st'.i ≤ s.size ∧ RD wr r s st' v' ∧ Fr (Up r) w wr) (fun _ wr => s.size - cellN wr ⟨r, 1, none⟩)
  case atStart => exact ⟨F, u0.1, u0.2, v0, rfl, hR0, by omega, j1, j2, hRs.out, hfs⟩
  case round =>
    clear hRs hfs j1 j2 hfst hR0
    obtain ⟨m, st', a', v', rfl, q2, q3, q4, q5, hR, hfr⟩ := hrel
    obtain ⟨m', rfl⟩ : ∃ m', m = m' + 1 := ⟨m - 1, by omega⟩
    have c3 := hR.row.cell 3 (by omega)
    simp only [rdC] at c3
    have hcn : Bx (cellN wr ⟨r, 1, none⟩ = st'.i) := Bx.mk hR.cellN
    rw [chainLoop_succ] at q2
    by_cases he : st'.err = 0
    · have hed : (st'.err == 0) = true := by simpa using he
      rw [if_neg (by simpa using he)] at q2
      have hL := Bx.mk (look_any' r s st' v' wr hR q5 hs)
      have hpos := Bx.mk (look_pos (b := bt s) (n := s.size) (st := st'))
      have hli := look_i (bt s) s.size st'
      have hsk := le_skip (b := bt s) (n := s.size) st'.i
      have hsl := skip_le (b := bt s) (n := s.size) q5
      rw [← hli] at hsk hsl
      clear hli hR he
      generalize st'.look (bt s) s.size = l at *
      by_cases hc : l.2 = 42
      · have t42 : (l.2 == 42) = true := by simp [hc]
        have t47 : (l.2 == 47) = false := by simp [hc]
        have hop : Bx (opOf l.2 = 9) := Bx.mk (by rw [hc, hop0]; rfl)
        have hp := hpos.out (by rw [hc]; decide)
        obtain ⟨hp1, hp2⟩ := hp
        rw [if_neg (by rw [hop.out]; decide)] at q2
        have hrg := Bx.mk (fun v w h => isRange_any r s l.1 v a' w h)
        cases hir : isRange l.1.n a'
        · rw [if_neg (by rw [hir]; decide), hop.out] at q2
          have hrec := Bx.mk (fun v w h => hnx.out false (l.1.go (l.1.i + 1)) v w h (by show l.1.i + 1 ≤ s.size; omega) (by show s.size - (l.1.i + 1) < f; omega))
          generalize nxt false (l.1.go (l.1.i + 1)) = u at *
          have hirB : Bx (isRange l.1.n a' = false) := Bx.mk hir
          have q2B := Bx.mk q2
          clear q2 hc hir hnx hpos
          go_wp2_with (first
            | (go_at_call 143; refine hL.out.mono ?_; rintro e w1 ⟨rfl, hR1, hf1, -, -⟩; have hR1 := Bx.mk hR1)
            | (go_at_call 172; refine (hrg.out _ _ hR1.out).mono ?_; rintro e w2 ⟨rfl, rfl⟩; rw [hirB.out]; have c1 := hR1.out.row.cell 1 (by omega); have z1 := hR1.out.row.frozen 1; simp only [rdC] at c1; have hR2 := Bx.mk hR1.out.inc)
            | (go_at_call 210; refine (hrec.out _ _ hR2.out).mono ?_; rintro e w3 ⟨v3, rfl, hR3, hf3, i1, i2⟩; have hR3 := Bx.mk hR3; clear c1 z1)
            | (go_at_call 173; refine (add_any r s u.1 v3 (nBin 9 a' u.2) _ hR3.out (by omega)).mono ?_; rintro e w4 ⟨v4, rfl, hR4, hf4⟩; have hR4 := Bx.mk hR4))
          have i3 : l.1.i + 1 ≤ u.1.i := i1
          go_roundw
          case rel => exact ⟨m', (u.1.add (nBin 9 a' u.2)).1, (u.1.add (nBin 9 a' u.2)).2, v4, rfl, q2B.out, by rw [add_i]; omega, by rw [add_i]; omega, by rw [add_i]; exact i2, hR4.out, (((hfr.trans hf1).inc 1 _).trans hf3).trans hf4⟩
          case measure => rw [hcn.out, hR4.out.cellN, add_i]; omega
        · rw [if_pos hir] at q2
          have hirB : Bx (isRange l.1.n a' = true) := Bx.mk hir
          have q2B := Bx.mk q2
          clear q2 hc hir hnx hpos
          go_wp2_with (first
            | (go_at_call 143; refine hL.out.mono ?_; rintro e w1 ⟨rfl, hR1, hf1, -, -⟩; have hR1 := Bx.mk hR1)
            | (go_at_call 172; refine (hrg.out _ _ hR1.out).mono ?_; rintro e w2 ⟨rfl, rfl⟩; rw [hirB.out]; have c1 := hR1.out.row.cell 1 (by omega); simp only [rdC] at c1)
            | (go_at_call 144; refine (fail_any r s l.1 _ 3 l.1.i _ hR1.out).mono ?_; rintro e w3 ⟨rfl, hR3, hf3⟩))
          go_ret
          rw [← q2B.out]
          exact ⟨v', rfl, hR3, (hfr.trans hf1).trans hf3, by rw [fail_i]; omega, by rw [fail_i]; omega⟩
      · by_cases hc2 : l.2 = 47
        · have hc := hc2
          clear hc2
          have t42 : (l.2 == 42) = false := by simp [hc]
          have t47 : (l.2 == 47) = true := by simp [hc]
          have hop : Bx (opOf l.2 = 10) := Bx.mk (by rw [hc, hop0]; rfl)
          have hp := hpos.out (by rw [hc]; decide)
          obtain ⟨hp1, hp2⟩ := hp
          rw [if_neg (by rw [hop.out]; decide)] at q2
          have hrg := Bx.mk (fun v w h => isRange_any r s l.1 v a' w h)
          cases hir : isRange l.1.n a'
          · rw [if_neg (by rw [hir]; decide), hop.out] at q2
            have hrec := Bx.mk (fun v w h => hnx.out false (l.1.go (l.1.i + 1)) v w h (by show l.1.i + 1 ≤ s.size; omega) (by show s.size - (l.1.i + 1) < f; omega))
            generalize nxt false (l.1.go (l.1.i + 1)) = u at *
            have hirB : Bx (isRange l.1.n a' = false) := Bx.mk hir
            have q2B := Bx.mk q2
            clear q2 hc hir hnx hpos
            go_wp2_with (first
              | (go_at_call 143; refine hL.out.mono ?_; rintro e w1 ⟨rfl, hR1, hf1, -, -⟩; have hR1 := Bx.mk hR1)
              | (go_at_call 172; refine (hrg.out _ _ hR1.out).mono ?_; rintro e w2 ⟨rfl, rfl⟩; rw [hirB.out]; have c1 := hR1.out.row.cell 1 (by omega); have z1 := hR1.out.row.frozen 1; simp only [rdC] at c1; have hR2 := Bx.mk hR1.out.inc)
              | (go_at_call 210; refine (hrec.out _ _ hR2.out).mono ?_; rintro e w3 ⟨v3, rfl, hR3, hf3, i1, i2⟩; have hR3 := Bx.mk hR3; clear c1 z1)
              | (go_at_call 173; refine (add_any r s u.1 v3 (nBin 10 a' u.2) _ hR3.out (by omega)).mono ?_; rintro e w4 ⟨v4, rfl, hR4, hf4⟩; have hR4 := Bx.mk hR4))
            have i3 : l.1.i + 1 ≤ u.1.i := i1
            go_roundw
            case rel => exact ⟨m', (u.1.add (nBin 10 a' u.2)).1, (u.1.add (nBin 10 a' u.2)).2, v4, rfl, q2B.out, by rw [add_i]; omega, by rw [add_i]; omega, by rw [add_i]; exact i2, hR4.out, (((hfr.trans hf1).inc 1 _).trans hf3).trans hf4⟩
            case measure => rw [hcn.out, hR4.out.cellN, add_i]; omega
          · rw [if_pos hir] at q2
            have hirB : Bx (isRange l.1.n a' = true) := Bx.mk hir
            have q2B := Bx.mk q2
            clear q2 hc hir hnx hpos
            go_wp2_with (first
              | (go_at_call 143; refine hL.out.mono ?_; rintro e w1 ⟨rfl, hR1, hf1, -, -⟩; have hR1 := Bx.mk hR1)
              | (go_at_call 172; refine (hrg.out _ _ hR1.out).mono ?_; rintro e w2 ⟨rfl, rfl⟩; rw [hirB.out]; have c1 := hR1.out.row.cell 1 (by omega); simp only [rdC] at c1)
              | (go_at_call 144; refine (fail_any r s l.1 _ 3 l.1.i _ hR1.out).mono ?_; rintro e w3 ⟨rfl, hR3, hf3⟩))
            go_ret
            rw [← q2B.out]
            exact ⟨v', rfl, hR3, (hfr.trans hf1).trans hf3, by rw [fail_i]; omega, by rw [fail_i]; omega⟩
        · have t1 : (l.2 == 42) = false := by simpa using hc
          have t2 : (l.2 == 47) = false := by simpa using hc2
          rw [if_pos (by rw [hop0]; unfold mulOp; rw [if_neg hc, if_neg hc2])] at q2
          have q2B := Bx.mk q2
          clear q2 hc hc2 hnx hpos
          go_wp2_with (first
            | (go_at_call 143; refine hL.out.mono ?_; rintro e w1 ⟨rfl, hR1, hf1, -, -⟩; have hR1 := Bx.mk hR1))
          go_ret
          rw [← q2B.out]
          exact ⟨v', rfl, hR1.out, hfr.trans hf1, by show st.i ≤ l.1.i; omega, by show l.1.i ≤ s.size; omega⟩
    · have hed : (st'.err == 0) = false := by simpa using he
      rw [if_pos he] at q2
      have q2B := Bx.mk q2
      have hRB := Bx.mk hR
      clear q2 he hR hnx
      go_wp2
      go_ret
      rw [← q2B.out]
      exact ⟨v', rfl, hRB.out, hfr, by omega, by omega⟩
set_option maxRecDepth 100000 in
set_option maxHeartbeats 4000000 in
theorem chain2_any (r : Nat) (s : ByteArray) (hs : s.size ≤ 40) (opOf : Int → Int) (hop0 : opOf = addOp) (nxt : Bool → PS → PS × Int) (F f : Nat) (hF : s.size < F) (hnx : ∀ ranges st v w, RD w r s st v → st.i ≤ s.size → s.size - st.i < f → Calls Tryz.prog 171 #[pt r, I 3, .bool ranges] w (RC r s w st (nxt ranges st))) :
    ∀ ranges st v w, RD w r s st v → st.i ≤ s.size → s.size - st.i < f → Calls Tryz.prog 171 #[pt r, I 2, .bool ranges] w (RC r s w st (chainLoop (bt s) s.size opOf (nxt false) F (nxt ranges st).1 (nxt ranges st).2)) := by
  intro ranges st v w h h1 h2
  have hfst := Bx.mk (hnx ranges st v w h h1 h2)
  have hnx := Bx.mk hnx
  clear h
  generalize nxt ranges st = u0 at *
  generalize hR0 : chainLoop (bt s) s.size opOf (nxt false) F u0.1 u0.2 = R0
  go_enter Tryz.func171, Tryz.ntmps171
  go_wp2_with (first | (go_at_call 171; refine hfst.out.mono ?_; rintro e w0 ⟨v0, rfl, hRs, hfs, j1, j2⟩; have hRs := Bx.mk hRs))
  go_loopw [7] (fun a wr => ∃ (m : Nat) (st' : PS) (a' : Int) (v' : Value), a = I a' ∧ chainLoop (bt s) s.size opOf (nxt false) m st' a' = R0 ∧ s.size - st'.i < m ∧ st.i ≤ st'.i ∧ st'.i ≤ s.size ∧ RD wr r s st' v' ∧ Fr (Up r) w wr) (fun _ wr => s.size - cellN wr ⟨r, 1, none⟩)
  case atStart => exact ⟨F, u0.1, u0.2, v0, rfl, hR0, by omega, j1, j2, hRs.out, hfs⟩
  case round =>
    clear hRs hfs j1 j2 hfst hR0
    obtain ⟨m, st', a', v', rfl, q2, q3, q4, q5, hR, hfr⟩ := hrel
    obtain ⟨m', rfl⟩ : ∃ m', m = m' + 1 := ⟨m - 1, by omega⟩
    have c3 := hR.row.cell 3 (by omega)
    simp only [rdC] at c3
    have hcn : Bx (cellN wr ⟨r, 1, none⟩ = st'.i) := Bx.mk hR.cellN
    rw [chainLoop_succ] at q2
    by_cases he : st'.err = 0
    · have hed : (st'.err == 0) = true := by simpa using he
      rw [if_neg (by simpa using he)] at q2
      have hL := Bx.mk (look_any' r s st' v' wr hR q5 hs)
      have hpos := Bx.mk (look_pos (b := bt s) (n := s.size) (st := st'))
      have hli := look_i (bt s) s.size st'
      have hsk := le_skip (b := bt s) (n := s.size) st'.i
      have hsl := skip_le (b := bt s) (n := s.size) q5
      rw [← hli] at hsk hsl
      clear hli hR he
      generalize st'.look (bt s) s.size = l at *
      by_cases hc : l.2 = 43
      · have t43 : (l.2 == 43) = true := by simp [hc]
        have t45 : (l.2 == 45) = false := by simp [hc]
        have hop : Bx (opOf l.2 = 7) := Bx.mk (by rw [hc, hop0]; rfl)
        have hp := hpos.out (by rw [hc]; decide)
        obtain ⟨hp1, hp2⟩ := hp
        rw [if_neg (by rw [hop.out]; decide)] at q2
        have hrg := Bx.mk (fun v w h => isRange_any r s l.1 v a' w h)
        cases hir : isRange l.1.n a'
        · rw [if_neg (by rw [hir]; decide), hop.out] at q2
          have hrec := Bx.mk (fun v w h => hnx.out false (l.1.go (l.1.i + 1)) v w h (by show l.1.i + 1 ≤ s.size; omega) (by show s.size - (l.1.i + 1) < f; omega))
          generalize nxt false (l.1.go (l.1.i + 1)) = u at *
          have hirB : Bx (isRange l.1.n a' = false) := Bx.mk hir
          have q2B := Bx.mk q2
          clear q2 hc hir hnx hpos
          go_wp2_with (first
            | (go_at_call 143; refine hL.out.mono ?_; rintro e w1 ⟨rfl, hR1, hf1, -, -⟩; have hR1 := Bx.mk hR1)
            | (go_at_call 172; refine (hrg.out _ _ hR1.out).mono ?_; rintro e w2 ⟨rfl, rfl⟩; rw [hirB.out]; have c1 := hR1.out.row.cell 1 (by omega); have z1 := hR1.out.row.frozen 1; simp only [rdC] at c1; have hR2 := Bx.mk hR1.out.inc)
            | (go_at_call 171; refine (hrec.out _ _ hR2.out).mono ?_; rintro e w3 ⟨v3, rfl, hR3, hf3, i1, i2⟩; have hR3 := Bx.mk hR3; clear c1 z1)
            | (go_at_call 173; refine (add_any r s u.1 v3 (nBin 7 a' u.2) _ hR3.out (by omega)).mono ?_; rintro e w4 ⟨v4, rfl, hR4, hf4⟩; have hR4 := Bx.mk hR4))
          have i3 : l.1.i + 1 ≤ u.1.i := i1
          go_roundw
          case rel => exact ⟨m', (u.1.add (nBin 7 a' u.2)).1, (u.1.add (nBin 7 a' u.2)).2, v4, rfl, q2B.out, by rw [add_i]; omega, by rw [add_i]; omega, by rw [add_i]; exact i2, hR4.out, (((hfr.trans hf1).inc 1 _).trans hf3).trans hf4⟩
          case measure => rw [hcn.out, hR4.out.cellN, add_i]; omega
        · rw [if_pos hir] at q2
          have hirB : Bx (isRange l.1.n a' = true) := Bx.mk hir
          have q2B := Bx.mk q2
          clear q2 hc hir hnx hpos
          go_wp2_with (first
            | (go_at_call 143; refine hL.out.mono ?_; rintro e w1 ⟨rfl, hR1, hf1, -, -⟩; have hR1 := Bx.mk hR1)
            | (go_at_call 172; refine (hrg.out _ _ hR1.out).mono ?_; rintro e w2 ⟨rfl, rfl⟩; rw [hirB.out]; have c1 := hR1.out.row.cell 1 (by omega); simp only [rdC] at c1)
            | (go_at_call 144; refine (fail_any r s l.1 _ 3 l.1.i _ hR1.out).mono ?_; rintro e w3 ⟨rfl, hR3, hf3⟩))
          go_ret
          rw [← q2B.out]
          exact ⟨v', rfl, hR3, (hfr.trans hf1).trans hf3, by rw [fail_i]; omega, by rw [fail_i]; omega⟩
      · by_cases hc2 : l.2 = 45
        · have hc := hc2
          clear hc2
          have t43 : (l.2 == 43) = false := by simp [hc]
          have t45 : (l.2 == 45) = true := by simp [hc]
          have hop : Bx (opOf l.2 = 8) := Bx.mk (by rw [hc, hop0]; rfl)
          have hp := hpos.out (by rw [hc]; decide)
          obtain ⟨hp1, hp2⟩ := hp
          rw [if_neg (by rw [hop.out]; decide)] at q2
          have hrg := Bx.mk (fun v w h => isRange_any r s l.1 v a' w h)
          cases hir : isRange l.1.n a'
          · rw [if_neg (by rw [hir]; decide), hop.out] at q2
            have hrec := Bx.mk (fun v w h => hnx.out false (l.1.go (l.1.i + 1)) v w h (by show l.1.i + 1 ≤ s.size; omega) (by show s.size - (l.1.i + 1) < f; omega))
            generalize nxt false (l.1.go (l.1.i + 1)) = u at *
            have hirB : Bx (isRange l.1.n a' = false) := Bx.mk hir
            have q2B := Bx.mk q2
            clear q2 hc hir hnx hpos
            go_wp2_with (first
              | (go_at_call 143; refine hL.out.mono ?_; rintro e w1 ⟨rfl, hR1, hf1, -, -⟩; have hR1 := Bx.mk hR1)
              | (go_at_call 172; refine (hrg.out _ _ hR1.out).mono ?_; rintro e w2 ⟨rfl, rfl⟩; rw [hirB.out]; have c1 := hR1.out.row.cell 1 (by omega); have z1 := hR1.out.row.frozen 1; simp only [rdC] at c1; have hR2 := Bx.mk hR1.out.inc)
              | (go_at_call 171; refine (hrec.out _ _ hR2.out).mono ?_; rintro e w3 ⟨v3, rfl, hR3, hf3, i1, i2⟩; have hR3 := Bx.mk hR3; clear c1 z1)
              | (go_at_call 173; refine (add_any r s u.1 v3 (nBin 8 a' u.2) _ hR3.out (by omega)).mono ?_; rintro e w4 ⟨v4, rfl, hR4, hf4⟩; have hR4 := Bx.mk hR4))
            have i3 : l.1.i + 1 ≤ u.1.i := i1
            go_roundw
            case rel => exact ⟨m', (u.1.add (nBin 8 a' u.2)).1, (u.1.add (nBin 8 a' u.2)).2, v4, rfl, q2B.out, by rw [add_i]; omega, by rw [add_i]; omega, by rw [add_i]; exact i2, hR4.out, (((hfr.trans hf1).inc 1 _).trans hf3).trans hf4⟩
            case measure => rw [hcn.out, hR4.out.cellN, add_i]; omega
          · rw [if_pos hir] at q2
            have hirB : Bx (isRange l.1.n a' = true) := Bx.mk hir
            have q2B := Bx.mk q2
            clear q2 hc hir hnx hpos
            go_wp2_with (first
              | (go_at_call 143; refine hL.out.mono ?_; rintro e w1 ⟨rfl, hR1, hf1, -, -⟩; have hR1 := Bx.mk hR1)
              | (go_at_call 172; refine (hrg.out _ _ hR1.out).mono ?_; rintro e w2 ⟨rfl, rfl⟩; rw [hirB.out]; have c1 := hR1.out.row.cell 1 (by omega); simp only [rdC] at c1)
              | (go_at_call 144; refine (fail_any r s l.1 _ 3 l.1.i _ hR1.out).mono ?_; rintro e w3 ⟨rfl, hR3, hf3⟩))
            go_ret
            rw [← q2B.out]
            exact ⟨v', rfl, hR3, (hfr.trans hf1).trans hf3, by rw [fail_i]; omega, by rw [fail_i]; omega⟩
        · have t1 : (l.2 == 43) = false := by simpa using hc
          have t2 : (l.2 == 45) = false := by simpa using hc2
          rw [if_pos (by rw [hop0]; unfold addOp; rw [if_neg hc, if_neg hc2])] at q2
          have q2B := Bx.mk q2
          clear q2 hc hc2 hnx hpos
          go_wp2_with (first
            | (go_at_call 143; refine hL.out.mono ?_; rintro e w1 ⟨rfl, hR1, hf1, -, -⟩; have hR1 := Bx.mk hR1))
          go_ret
          rw [← q2B.out]
          exact ⟨v', rfl, hR1.out, hfr.trans hf1, by show st.i ≤ l.1.i; omega, by show l.1.i ≤ s.size; omega⟩
    · have hed : (st'.err == 0) = false := by simpa using he
      rw [if_pos he] at q2
      have q2B := Bx.mk q2
      have hRB := Bx.mk hR
      clear q2 he hR hnx
      go_wp2
      go_ret
      rw [← q2B.out]
      exact ⟨v', rfl, hRB.out, hfr, by omega, by omega⟩
end Go.Proofs.Qxb6500326aGreat
