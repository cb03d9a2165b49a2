import Derived.Test.Qxb6500326aGreatW15
namespace Go.Proofs.Qxb6500326aGreat
set_option maxRecDepth 100000
set_option linter.unusedVariables false
set_option linter.unusedSimpArgs false
open Go.RowKit Go.PlainAid
set_option maxRecDepth 100000 in
set_option maxHeartbeats 8000000 in
theorem atom_any (r : Nat) (s : ByteArray) (hs : s.size ≤ 40) (ex : Bool → PS → PS × Int) (F fu : Nat) (hF : s.size < F) (hex : OK1 142 r s ex fu)
    (hmono : ∀ ranges st, st.i ≤ s.size → s.size - st.i < fu → st.i ≤ (ex ranges st).1.i ∧ (ex ranges st).1.i ≤ s.size) :
    OK1 234 r s (atomM (bt s) s.size ex F) (fu + 1) := by
  intro ranges st v w h h1 h2
  have hb := get_bt s
  have hnm := Bx.mk (name_any r s hs ex F fu hF hex hmono)
  have hL := Bx.mk (look_any' r s st v w h h1 hs)
  have hpos := Bx.mk (look_pos (b := bt s) (n := s.size) (st := st))
  have hby := look_byte (b := bt s) (n := s.size) (st := st) (fun i => ⟨bt_nonneg s i, bt_le s i⟩)
  have hli := look_i (bt s) s.size st
  have hsk := le_skip (b := bt s) (n := s.size) st.i
  have hsl := skip_le (b := bt s) (n := s.size) h1
  rw [← hli] at hsk hsl
  unfold atomM
  simp only
  clear hli h
  generalize st.look (bt s) s.size = l at *
  obtain ⟨by1, by2⟩ := hby
  by_cases hdg : isDig l.2 = true
  · rw [if_pos hdg]
    rw [isDig_iff] at hdg
    exact atom_dig r s hs ranges st l v w hL hsk hsl hdg.1 hdg.2 _ (Bx.mk rfl)
  · rw [if_neg hdg]
    rw [isDig_iff] at hdg
    have hexB := Bx.mk hex
    have hmB := Bx.mk hmono
    clear hex hmono
    by_cases hcp : isCap l.2 = true ∨ l.2 = 36
    · rw [if_pos hcp]
      rcases hcp with hcp | hcp
      · rw [isCap_iff] at hcp
        obtain ⟨p1, p2⟩ := hcp
        have p3 : 57 < l.2 := by omega
        clear hdg hpos hexB hmB
        go_enter Tryz.func234, Tryz.ntmps234

        go_wp2_with (first
          | (go_at_call 143; refine hL.out.mono ?_; clear hL; rintro e w1 ⟨rfl, hR1, hf1, -, -⟩; have hR1 := Bx.mk hR1; have c1 := hR1.out.row.cell 1 (by omega); have z1 := hR1.out.row.frozen 1; have c0 := hR1.out.row.cell 0 (by omega); simp only [rdC] at c1 c0)
          | (go_at_call 247; refine (hnm.out ranges l.1 v _ hR1.out hsl (by omega)).mono ?_; rintro e w2 ⟨v2, rfl, hR2, hf2, i1, i2⟩))

        go_ret
        exact ⟨_, rfl, hR2, hf1.trans hf2, by omega, i2⟩
      · have p1 : l.2 < 48 := by omega
        have p2 : l.2 < 65 := by omega
        have p3 : (l.2 == 36) = true := by simp [hcp]
        clear hdg hpos hexB hmB hcp
        go_enter Tryz.func234, Tryz.ntmps234

        go_wp2_with (first
          | (go_at_call 143; refine hL.out.mono ?_; clear hL; rintro e w1 ⟨rfl, hR1, hf1, -, -⟩; have hR1 := Bx.mk hR1; have c1 := hR1.out.row.cell 1 (by omega); have z1 := hR1.out.row.frozen 1; have c0 := hR1.out.row.cell 0 (by omega); simp only [rdC] at c1 c0)
          | (go_at_call 247; refine (hnm.out ranges l.1 v _ hR1.out hsl (by omega)).mono ?_; rintro e w2 ⟨v2, rfl, hR2, hf2, i1, i2⟩))

        go_ret
        exact ⟨_, rfl, hR2, hf1.trans hf2, by omega, i2⟩
    · rw [if_neg hcp]
      rw [isCap_iff] at hcp
      have t36 : (l.2 == 36) = false := by simp; omega
      by_cases h35 : l.2 = 35
      · rw [if_pos h35]
        have t35 : (l.2 == 35) = true := by simp [h35]
        have p1 : l.2 < 48 := by omega
        have p2 : l.2 < 65 := by omega
        have hp := hpos.out (by rw [h35]; decide)
        obtain ⟨hp1, hp2⟩ := hp
        clear hdg hpos hcp hexB hmB h35
        by_cases hn : l.1.i + 1 < s.size
        · have hnd : decide ((s.size : Int) ≤ (l.1.i : Int) + 1) = false := decide_eq_false (by omega)
          by_cases hx : bt s (l.1.i + 1) = 35
          · rw [if_pos ⟨hn, hx⟩]
            have tx : (bt s (l.1.i + 1) != 35) = false := by simp [hx]
            clear hx
            go_enter Tryz.func234, Tryz.ntmps234

            go_wp2_with (first
              | (go_at_call 143; refine hL.out.mono ?_; clear hL; rintro e w1 ⟨rfl, hR1, hf1, -, -⟩; have hR1 := Bx.mk hR1; have c1 := hR1.out.row.cell 1 (by omega); have z1 := hR1.out.row.frozen 1; have c0 := hR1.out.row.cell 0 (by omega); simp only [rdC] at c1 c0))

            go_quiet (fail)
            go_wp2_with (first
              | (go_at_call 173; refine (add_any r s (l.1.go (l.1.i + 2)) _ nBad _ ((hR1.out.drewN _).go' (l.1.i + 2) (by omega)) (by show l.1.i + 2 ≤ 40; omega)).mono ?_; rintro e w2 ⟨v2, rfl, hR2, hf2⟩))

            go_ret
            exact ⟨_, rfl, hR2, ((hf1.drewN _).inc 1 _).trans hf2, by rw [add_i]; show st.i ≤ l.1.i + 2; omega, by rw [add_i]; show l.1.i + 2 ≤ s.size; omega⟩
          · rw [if_neg (fun e => hx e.2)]
            have tx : (bt s (l.1.i + 1) != 35) = true := by simpa using hx
            clear hx
            go_enter Tryz.func234, Tryz.ntmps234

            go_wp2_with (first
              | (go_at_call 143; refine hL.out.mono ?_; clear hL; rintro e w1 ⟨rfl, hR1, hf1, -, -⟩; have hR1 := Bx.mk hR1; have c1 := hR1.out.row.cell 1 (by omega); have z1 := hR1.out.row.frozen 1; have c0 := hR1.out.row.cell 0 (by omega); simp only [rdC] at c1 c0))

            go_quiet (fail)
            go_wp2_with (first
              | (go_at_call 144; refine (fail_any r s l.1 _ 2 l.1.i _ (hR1.out.drewN _)).mono ?_; rintro e w2 ⟨rfl, hR2, hf2⟩))

            go_ret
            exact ⟨_, rfl, hR2, (hf1.drewN _).trans hf2, by rw [fail_i]; omega, by rw [fail_i]; omega⟩
        · have hnd : decide ((s.size : Int) ≤ (l.1.i : Int) + 1) = true := decide_eq_true (by omega)
          rw [if_neg (fun e => hn e.1)]
          go_enter Tryz.func234, Tryz.ntmps234

          go_wp2_with (first
            | (go_at_call 143; refine hL.out.mono ?_; clear hL; rintro e w1 ⟨rfl, hR1, hf1, -, -⟩; have hR1 := Bx.mk hR1; have c1 := hR1.out.row.cell 1 (by omega); have z1 := hR1.out.row.frozen 1; have c0 := hR1.out.row.cell 0 (by omega); simp only [rdC] at c1 c0))

          go_quiet (fail)
          go_wp2_with (first
            | (go_at_call 144; refine (fail_any r s l.1 _ 2 l.1.i _ (hR1.out.drewN _)).mono ?_; rintro e w2 ⟨rfl, hR2, hf2⟩))

          go_ret
          exact ⟨_, rfl, hR2, (hf1.drewN _).trans hf2, by rw [fail_i]; omega, by rw [fail_i]; omega⟩
      · rw [if_neg h35]
        have t35 : (l.2 == 35) = false := by simpa using h35
        by_cases h40 : l.2 = 40
        · rw [if_pos h40]
          have t40 : (l.2 == 40) = true := by simp [h40]
          have p1 : l.2 < 48 := by omega
          have p2 : l.2 < 65 := by omega
          have hp := hpos.out (by rw [h40]; decide)
          obtain ⟨hp1, hp2⟩ := hp
          clear hdg hpos hcp h35 h40 hnm
          have hE := Bx.mk (fun v w h => hexB.out false (l.1.go (l.1.i + 1)) v w h (by show l.1.i + 1 ≤ s.size; omega) (by show s.size - (l.1.i + 1) < fu; omega))
          have hm := hmB.out false (l.1.go (l.1.i + 1)) (by show l.1.i + 1 ≤ s.size; omega) (by show s.size - (l.1.i + 1) < fu; omega)
          generalize ex false (l.1.go (l.1.i + 1)) = u at *
          obtain ⟨m1, m2⟩ := hm
          have m1 : l.1.i + 1 ≤ u.1.i := m1
          have hL2 := Bx.mk (fun v w h => look_any r s u.1 v w h m2 hs)
          have hpos := Bx.mk (look_pos (b := bt s) (n := s.size) (st := u.1))
          have hli := look_i (bt s) s.size u.1
          have hsk2 := le_skip (b := bt s) (n := s.size) u.1.i
          have hsl2 := skip_le (b := bt s) (n := s.size) m2
          rw [← hli] at hsk2 hsl2
          clear hli hexB hmB
          generalize u.1.look (bt s) s.size = l2 at *
          by_cases hc : l2.2 = 41
          · rw [if_pos hc]
            have t41 : (l2.2 != 41) = false := by simp [hc]
            have hp := hpos.out (by rw [hc]; decide)
            obtain ⟨hp3, hp4⟩ := hp
            clear hc hpos
            go_enter Tryz.func234, Tryz.ntmps234

            go_wp2_with (first
              | (go_at_call 143; refine hL.out.mono ?_; clear hL; rintro e w1 ⟨rfl, hR1, hf1, -, -⟩; have hR1 := Bx.mk hR1; have c1 := hR1.out.row.cell 1 (by omega); have z1 := hR1.out.row.frozen 1; have c0 := hR1.out.row.cell 0 (by omega); simp only [rdC] at c1 c0)
              | (go_at_call 142; refine (hE.out _ _ hR1.out.inc).mono ?_; clear hE; rintro e w2 ⟨v2, rfl, hR2, hf2, -, -⟩; have hR2 := Bx.mk hR2; clear c0 c1 z1)
              | (go_at_call 143; refine (hL2.out _ _ hR2.out).mono ?_; clear hL2; rintro e w3 ⟨rfl, hR3, hf3⟩; have hR3 := Bx.mk hR3; have c1 := hR3.out.row.cell 1 (by omega); have z1 := hR3.out.row.frozen 1; simp only [rdC] at c1))

            go_ret
            exact ⟨_, rfl, hR3.out.inc, ((((hf1.inc 1 _).trans hf2).trans hf3).inc 1 _), by show st.i ≤ l2.1.i + 1; omega, by show l2.1.i + 1 ≤ s.size; omega⟩
          · rw [if_neg hc]
            have t41 : (l2.2 != 41) = true := by simpa using hc
            clear hc hpos
            go_enter Tryz.func234, Tryz.ntmps234

            go_wp2_with (first
              | (go_at_call 143; refine hL.out.mono ?_; clear hL; rintro e w1 ⟨rfl, hR1, hf1, -, -⟩; have hR1 := Bx.mk hR1; have c1 := hR1.out.row.cell 1 (by omega); have z1 := hR1.out.row.frozen 1; have c0 := hR1.out.row.cell 0 (by omega); simp only [rdC] at c1 c0)
              | (go_at_call 142; refine (hE.out _ _ hR1.out.inc).mono ?_; clear hE; rintro e w2 ⟨v2, rfl, hR2, hf2, -, -⟩; have hR2 := Bx.mk hR2; clear c0 c1 z1)
              | (go_at_call 143; refine (hL2.out _ _ hR2.out).mono ?_; clear hL2; rintro e w3 ⟨rfl, hR3, hf3⟩; have hR3 := Bx.mk hR3; have c1 := hR3.out.row.cell 1 (by omega); simp only [rdC] at c1)
              | (go_at_call 144; refine (fail_any r s l2.1 _ 3 l2.1.i _ hR3.out).mono ?_; rintro e w4 ⟨rfl, hR4, hf4⟩))

            go_ret
            exact ⟨_, rfl, hR4, (((hf1.inc 1 _).trans hf2).trans hf3).trans hf4, by rw [fail_i]; omega, by rw [fail_i]; omega⟩
        · rw [if_neg h40]
          have t40 : (l.2 == 40) = false := by simpa using h40
          have hw : l.2 < 48 ∨ (57 < l.2 ∧ l.2 < 65) ∨ 90 < l.2 := by omega
          clear hdg hpos hcp h35 h40 hnm hexB hmB
          rcases hw with p1 | ⟨p1, p2⟩ | p1
          · have p2 : l.2 < 65 := by omega
            go_enter Tryz.func234, Tryz.ntmps234

            go_wp2_with (first
              | (go_at_call 143; refine hL.out.mono ?_; clear hL; rintro e w1 ⟨rfl, hR1, hf1, -, -⟩; have hR1 := Bx.mk hR1; have c1 := hR1.out.row.cell 1 (by omega); have z1 := hR1.out.row.frozen 1; have c0 := hR1.out.row.cell 0 (by omega); simp only [rdC] at c1 c0)
              | (go_at_call 144; refine (fail_any r s l.1 _ 3 l.1.i _ hR1.out).mono ?_; rintro e w2 ⟨rfl, hR2, hf2⟩))

            go_ret
            exact ⟨_, rfl, hR2, hf1.trans hf2, by rw [fail_i]; omega, by rw [fail_i]; omega⟩
          · go_enter Tryz.func234, Tryz.ntmps234

            go_wp2_with (first
              | (go_at_call 143; refine hL.out.mono ?_; clear hL; rintro e w1 ⟨rfl, hR1, hf1, -, -⟩; have hR1 := Bx.mk hR1; have c1 := hR1.out.row.cell 1 (by omega); have z1 := hR1.out.row.frozen 1; have c0 := hR1.out.row.cell 0 (by omega); simp only [rdC] at c1 c0)
              | (go_at_call 144; refine (fail_any r s l.1 _ 3 l.1.i _ hR1.out).mono ?_; rintro e w2 ⟨rfl, hR2, hf2⟩))

            go_ret
            exact ⟨_, rfl, hR2, hf1.trans hf2, by rw [fail_i]; omega, by rw [fail_i]; omega⟩
          · have p2 : 57 < l.2 := by omega
            have p3 : 65 ≤ l.2 := by omega
            go_enter Tryz.func234, Tryz.ntmps234

            go_wp2_with (first
              | (go_at_call 143; refine hL.out.mono ?_; clear hL; rintro e w1 ⟨rfl, hR1, hf1, -, -⟩; have hR1 := Bx.mk hR1; have c1 := hR1.out.row.cell 1 (by omega); have z1 := hR1.out.row.frozen 1; have c0 := hR1.out.row.cell 0 (by omega); simp only [rdC] at c1 c0)
              | (go_at_call 144; refine (fail_any r s l.1 _ 3 l.1.i _ hR1.out).mono ?_; rintro e w2 ⟨rfl, hR2, hf2⟩))

            go_ret
            exact ⟨_, rfl, hR2, hf1.trans hf2, by rw [fail_i]; omega, by rw [fail_i]; omega⟩
end Go.Proofs.Qxb6500326aGreat
