import Derived.Test.Qxb6500326aGreatW3
namespace Go.Proofs.Qxb6500326aGreat
set_option maxRecDepth 100000
set_option linter.unusedVariables false
set_option linter.unusedSimpArgs false
open Go.RowKit Go.PlainAid
def cellN (w : World) (a : Addr) : Nat := match w.cell? a with | some (.int _ n) => n.toNat | _ => 0
theorem RD.drewN {w : World} {r : Nat} {s : ByteArray} {st : PS} {v : Value} (h : RD w r s st v) (n : Nat) : RD (w.drewN n) r s st v := ⟨h.row, h.own⟩
theorem RD.cellN {w : World} {r : Nat} {s : ByteArray} {st : PS} {v : Value} (h : RD w r s st v) : cellN w ⟨r, 1, none⟩ = st.i := by
  unfold Qxb6500326aGreat.cellN; rw [h.row.cell 1 (by omega)]; simp [rdC]
theorem RD.go' {w : World} {r : Nat} {s : ByteArray} {st : PS} {v : Value} (h : RD w r s st v) {i : Int} (j : Nat) (e : i = j) : RD (w.setCell ⟨r, 1, none⟩ (I i)) r s (st.go j) v := by
  rw [e]; exact h.go j
set_option maxHeartbeats 1000000 in
theorem look_one (r : Nat) (s : ByteArray) (st : PS) (v : Value) (w : World) (h : RD w r s st v) (hi : st.i ≤ s.size) (hs : s.size ≤ 40) :
    Calls Tryz.prog 143 #[pt r] w fun e w' => e = .returned (Y (st.look (bt s) s.size).2) ∧ RD w' r s (st.look (bt s) s.size).1 v ∧ Fr (At1 r) w w' := by
  have hb := get_bt s
  have hh := Bx.mk h
  clear h
  go_enter Tryz.func143, Tryz.ntmps143
  go_wp2_with fail
  go_loopw [3] (fun _ w1 => ∃ i : Nat, st.i ≤ i ∧ i ≤ s.size ∧ skip (bt s) s.size i = skip (bt s) s.size st.i ∧ RD w1 r s (st.go i) v ∧ Fr (At1 r) w w1) (fun _ w1 => s.size - cellN w1 ⟨r, 1, none⟩)
  case atStart => exact ⟨st.i, Nat.le_refl _, hi, rfl, hh.out, Fr.refl _ _⟩
  case round =>
    obtain ⟨i, g1, g2, g3, hR, hfr⟩ := hrel
    have c0 := hR.row.cell 0 (by omega)
    have c1 := hR.row.cell 1 (by omega)
    have c3 := hR.row.cell 3 (by omega)
    have z1 := hR.row.frozen 1
    simp only [rdC, PS.go] at c0 c1 c3
    have hRb := Bx.mk hR
    have hcn : cellN wr ⟨r, 1, none⟩ = i := by unfold cellN; rw [c1]; simp
    clear hR
    by_cases hlt : i < s.size
    · have hd : decide ((i : Int) < s.size) = true := by simp; omega
      cases h32 : (bt s i == 32)
      · have hne : bt s i ≠ 32 := by simpa using h32
        have hsk : skip (bt s) s.size st.i = i := by rw [← g3]; exact skip_fix (fun e => hne e.2)
        have hcb : 0 ≤ bt s i ∧ bt s i ≤ 255 := ⟨bt_nonneg s i, bt_le s i⟩
        have hd3 : decide ((s.size : Int) ≤ i) = false := by simp; omega
        have hskB := Bx.mk hsk
        clear hsk hne g3 hcn
        by_cases he : st.err = 0
        · have hed : (st.err != 0) = false := by simpa using he
          cases hkn : known (bt s i)
          · have hkB := Bx.mk hkn
            have hlkB : Bx (st.look (bt s) s.size = ((st.go i).fail 2 i, 0)) := Bx.mk (by
              have hc : Ch (bt s) s.size st.i = bt s i := by unfold Ch; rw [hskB.out, if_pos hlt]
              rw [look_fault he (by rw [hskB.out]; exact hlt) (by rw [hc]; exact hkB.out), hskB.out])
            have hkc : Bx (∀ wx, Calls Tryz.prog 174 #[Y (bt s i)] wx fun e w' => e = .returned (.bool false) ∧ w' = wx) :=
              Bx.mk (fun wx => (known_any _ wx hcb.1 hcb.2).mono (fun e w' h => ⟨by rw [h.1, hkB.out], h.2.symm⟩))
            clear hkn he
            go_wp2_with fail
            go_quiet (fail)
            go_wp2_with fail
            go_quiet (fail)
            go_wp2_with fail
            go_quiet (first | (go_at_call 174; exact (hkc.out _).mono (fun e w' h => ⟨h.1, _, h.2⟩)))
            go_wp2_with (first | (go_at_call 144; refine (fail_one r s (st.go i) v 2 i _ (hRb.out.drewN _)).mono ?_; rintro e w' ⟨rfl, hR2, hf2⟩))
            go_ret
            rw [hlkB.out]
            exact ⟨rfl, hR2, (hfr.drewN _).trans hf2⟩
          · have hkB := Bx.mk hkn
            have hlkB : Bx (st.look (bt s) s.size = (st.go i, bt s i)) := Bx.mk (by
              have hc : Ch (bt s) s.size st.i = bt s i := by unfold Ch; rw [hskB.out, if_pos hlt]
              rw [look_known he (by rw [hskB.out]; exact hlt) (by rw [hc]; exact hkB.out), hskB.out, hc])
            have hkc : Bx (∀ wx, Calls Tryz.prog 174 #[Y (bt s i)] wx fun e w' => e = .returned (.bool true) ∧ w' = wx) :=
              Bx.mk (fun wx => (known_any _ wx hcb.1 hcb.2).mono (fun e w' h => ⟨by rw [h.1, hkB.out], h.2.symm⟩))
            clear hkn he
            go_wp2_with fail
            go_quiet (fail)
            go_wp2_with fail
            go_quiet (fail)
            go_wp2_with fail
            go_quiet (first | (go_at_call 174; exact (hkc.out _).mono (fun e w' h => ⟨h.1, _, h.2⟩)))
            go_wp2_with fail
            go_quiet (fail)
            go_wp2_with fail
            go_ret
            rw [hlkB.out]
            exact ⟨rfl, ⟨hRb.out.row, hRb.out.own⟩, ⟨hfr.os, hfr.tape, hfr.output, hfr.size, hfr.block⟩⟩
        · have hed : (st.err != 0) = true := by simpa using he
          have hlk := look_err (b := bt s) (n := s.size) (st := st) he
          rw [hskB.out] at hlk
          have hlkB := Bx.mk hlk
          clear hlk he
          go_wp2_with fail
          go_quiet (fail)
          go_wp2_with fail
          go_quiet (fail)
          go_wp2_with fail
          go_ret
          rw [hlkB.out]
          exact ⟨rfl, ⟨hRb.out.row, hRb.out.own⟩, ⟨hfr.os, hfr.tape, hfr.output, hfr.size, hfr.block⟩⟩
      · have hd2 : bt s i = 32 := by simpa using h32
        have hsk := skip_step (b := bt s) (n := s.size) hlt hd2
        have hg3 := Bx.mk (hsk.symm.trans g3)
        clear hsk g3 hd2
        go_wp2_with fail
        go_quiet (fail)
        go_wp2_with fail
        go_roundw
        case rel => exact ⟨i + 1, by omega, by omega, hg3.out, (hRb.out.drewN nq).go' (i + 1) (by omega), (hfr.drewN nq).inc1 _ _⟩
        case measure =>
          have hx := ((hRb.out.drewN nq).go' (i + 1) (show ((i : Int) + 1) = ((i + 1 : Nat) : Int) by omega)).cellN
          rw [hcn]
          rw [show (PS.go (PS.go st i) (i + 1)).i = i + 1 from rfl] at hx
          rw [hx]; omega
    · have hii : i = s.size := by omega
      subst hii
      have hd : decide ((s.size : Int) < s.size) = false := by simp
      have hsk : skip (bt s) s.size st.i = s.size := by rw [← g3]; exact skip_fix (by omega)
      have hd3 : decide ((s.size : Int) ≤ s.size) = true := by simp
      have hlk : st.look (bt s) s.size = (st.go s.size, 0) := by
        unfold PS.look; rw [hsk]; simp [PS.go]
      have hlkB := Bx.mk hlk
      clear hlk hsk g3 hcn g1 g2 hlt
      cases hed : (st.err != 0)
      · go_wp2_with fail
        go_quiet (fail)
        go_wp2_with fail
        go_quiet (fail)
        go_wp2_with fail
        go_ret
        rw [hlkB.out]
        exact ⟨rfl, ⟨hRb.out.row, hRb.out.own⟩, ⟨hfr.os, hfr.tape, hfr.output, hfr.size, hfr.block⟩⟩
      · go_wp2_with fail
        go_quiet (fail)
        go_wp2_with fail
        go_quiet (fail)
        go_wp2_with fail
        go_ret
        rw [hlkB.out]
        exact ⟨rfl, ⟨hRb.out.row, hRb.out.own⟩, ⟨hfr.os, hfr.tape, hfr.output, hfr.size, hfr.block⟩⟩
theorem look_any (r : Nat) (s : ByteArray) (st : PS) (v : Value) (w : World) (h : RD w r s st v) (hi : st.i ≤ s.size) (hs : s.size ≤ 40) :
    Calls Tryz.prog 143 #[pt r] w fun e w' => e = .returned (Y (st.look (bt s) s.size).2) ∧ RD w' r s (st.look (bt s) s.size).1 v ∧ Fr (Up r) w w' :=
  (look_one r s st v w h hi hs).mono (fun e w' g => ⟨g.1, g.2.1, g.2.2.up1⟩)
end Go.Proofs.Qxb6500326aGreat
