import Derived.Test.Qxb6500326aGreatW6
namespace Go.Proofs.Qxb6500326aGreat
set_option maxRecDepth 100000
set_option linter.unusedVariables false
set_option linter.unusedSimpArgs false
open Go.RowKit Go.PlainAid
theorem runF_step {p : Int → Bool} {b : Nat → Int} {n i : Nat} (h : i < n) (h2 : p (b i) = true) : runF p b n (n - i) i = runF p b n (n - (i + 1)) (i + 1) := by
  rw [show n - i = (n - (i + 1)) + 1 from by omega]
  conv => lhs; unfold runF
  rw [if_pos ⟨h, h2⟩]
theorem runF_fix2 {p : Int → Bool} {b : Nat → Int} {n i : Nat} (h : ¬ (i < n ∧ p (b i) = true)) : runF p b n (n - i) i = i := by
  cases n - i <;> simp [runF, h]
theorem cut_bytes (s : ByteArray) (a e : Nat) : ∀ c ∈ cut (bt s) a e, 0 ≤ c ∧ c ≤ 255 := by
  intro c hc
  simp only [cut, List.mem_map] at hc
  obtain ⟨k, -, rfl⟩ := hc
  exact ⟨bt_nonneg s _, bt_le s _⟩
theorem extract_cut (s : ByteArray) (a e : Nat) (h1 : a ≤ e) (h2 : e ≤ s.size) : s.extract a e = bs (cut (bt s) a e) := by
  rw [← bs_lst (s.extract a e)]
  congr 1
  apply List.ext_getElem?
  intro k
  by_cases hk : k < e - a
  · have hsz : (s.extract a e).size = e - a := by rw [ByteArray.size_extract]; omega
    rw [bt_lst _ _ (by rw [hsz]; exact hk)]
    simp only [cut, List.getElem?_map, List.getElem?_range hk, Option.map_some]
    congr 1
    have hb := get_bt (s.extract a e) k (by rw [hsz]; exact hk)
    have hb2 := get_bt s (a + k) (by omega)
    rw [← hb, ← hb2]
    congr 1
    rw [ByteArray.getElem_extract]
  · rw [List.getElem?_eq_none (by rw [lst_len, ByteArray.size_extract]; omega), List.getElem?_eq_none (by simp [cut]; omega)]
set_option maxRecDepth 100000 in
set_option maxHeartbeats 2000000 in
theorem word_one (r : Nat) (s : ByteArray) (st : PS) (v : Value) (w : World) (h : RD w r s st v) (hi : st.i ≤ s.size) (hs : s.size ≤ 40) :
    Calls Tryz.prog 253 #[pt r] w fun e w' => e = .returned (.string (bs (cut (bt s) st.i (wordEnd (bt s) s.size st.i)))) ∧ RD w' r s (st.go (wordEnd (bt s) s.size st.i)) v ∧ Fr (At1 r) w w' := by
  have hb := get_bt s
  have c1 := h.row.cell 1 (by omega)
  simp only [rdC] at c1
  have hh := Bx.mk h
  have hsa : ((st.i : Int)).toNat = st.i := by simp
  clear h
  go_enter Tryz.func253, Tryz.ntmps253
  go_wp2_with fail
  go_loopw [4] (fun _ w1 => ∃ i : Nat, st.i ≤ i ∧ i ≤ s.size ∧ wordEnd (bt s) s.size i = wordEnd (bt s) s.size st.i ∧ RD w1 r s (st.go i) v ∧ Fr (At1 r) w w1) (fun _ w1 => s.size - cellN w1 ⟨r, 1, none⟩)
  case atStart => exact ⟨st.i, Nat.le_refl _, hi, rfl, hh.out, Fr.refl _ _⟩
  case round =>
    obtain ⟨i, g1, g2, g3, hR, hfr⟩ := hrel
    have c0 := hR.row.cell 0 (by omega)
    have c1 := hR.row.cell 1 (by omega)
    have z1 := hR.row.frozen 1
    simp only [rdC, PS.go] at c0 c1
    have hRb := Bx.mk hR
    have hcn : Bx (cellN wr ⟨r, 1, none⟩ = i) := Bx.mk (by unfold cellN; rw [c1]; simp)
    clear hR
    by_cases hlt : i < s.size
    · have hd : decide ((i : Int) < s.size) = true := by simp; omega
      have hcb : 0 ≤ bt s i ∧ bt s i ≤ 255 := ⟨bt_nonneg s i, bt_le s i⟩
      obtain ⟨hcb1, hcb2⟩ := hcb
      by_cases hw : wordy (bt s i) = true
      · have hg3 : Bx (wordEnd (bt s) s.size (i + 1) = wordEnd (bt s) s.size st.i) := Bx.mk ((runF_step hlt hw).symm.trans g3)
        rw [wordy_iff] at hw
        clear g3
        rcases hw with ⟨k1, k2⟩ | ⟨k1, k2⟩ | k1
        · go_wp2_with fail
          go_quiet (fail)
          go_wp2_with fail
          go_quiet (fail)
          go_wp2_with fail
          go_roundw
          case rel => exact ⟨i + 1, by omega, by omega, hg3.out, (hRb.out.drewN _).go' (i + 1) (by omega), (hfr.drewN _).inc1 _ _⟩
          case measure =>
            rw [hcn.out, ((hRb.out.drewN _).go' (i + 1) (show ((i : Int) + 1) = ((i + 1 : Nat) : Int) by omega)).cellN]
            show s.size - (i + 1) < s.size - i
            omega
        · have k3 : bt s i < 65 := by omega
          go_wp2_with fail
          go_quiet (fail)
          go_wp2_with fail
          go_quiet (fail)
          go_wp2_with fail
          go_roundw
          case rel => exact ⟨i + 1, by omega, by omega, hg3.out, (hRb.out.drewN _).go' (i + 1) (by omega), (hfr.drewN _).inc1 _ _⟩
          case measure =>
            rw [hcn.out, ((hRb.out.drewN _).go' (i + 1) (show ((i : Int) + 1) = ((i + 1 : Nat) : Int) by omega)).cellN]
            show s.size - (i + 1) < s.size - i
            omega
        · have k3 : bt s i < 65 := by omega
          have k4 : bt s i < 48 := by omega
          have k5 : (bt s i != 36) = false := by rw [k1]; rfl
          go_wp2_with fail
          go_quiet (fail)
          go_wp2_with fail
          go_quiet (fail)
          go_wp2_with fail
          go_roundw
          case rel => exact ⟨i + 1, by omega, by omega, hg3.out, (hRb.out.drewN _).go' (i + 1) (by omega), (hfr.drewN _).inc1 _ _⟩
          case measure =>
            rw [hcn.out, ((hRb.out.drewN _).go' (i + 1) (show ((i : Int) + 1) = ((i + 1 : Nat) : Int) by omega)).cellN]
            show s.size - (i + 1) < s.size - i
            omega
      · have hend : Bx (wordEnd (bt s) s.size st.i = i) := Bx.mk (by rw [← g3]; exact runF_fix2 (fun e => hw e.2))
        have hex := Bx.mk (extract_cut s st.i i g1 g2)
        rw [wordy_iff] at hw
        have k5 : (bt s i != 36) = true := by simp; omega
        clear g3
        have hw2 : bt s i < 48 ∨ (57 < bt s i ∧ bt s i < 65) ∨ 90 < bt s i := by omega
        clear hw
        rcases hw2 with k1 | ⟨k1, k2⟩ | k1
        · have k3 : bt s i < 65 := by omega
          go_wp2_with fail
          go_quiet (fail)
          go_wp2_with fail
          go_quiet (fail)
          go_wp2_with fail
          go_quiet (fail)
          go_wp2_with fail
          go_ret
          rw [hend.out]
          exact ⟨by rw [← hex.out]; rfl, ⟨hRb.out.row, hRb.out.own⟩, ⟨hfr.os, hfr.tape, hfr.output, hfr.size, hfr.block⟩⟩
        · go_wp2_with fail
          go_quiet (fail)
          go_wp2_with fail
          go_quiet (fail)
          go_wp2_with fail
          go_quiet (fail)
          go_wp2_with fail
          go_ret
          rw [hend.out]
          exact ⟨by rw [← hex.out]; rfl, ⟨hRb.out.row, hRb.out.own⟩, ⟨hfr.os, hfr.tape, hfr.output, hfr.size, hfr.block⟩⟩
        · have k2 : 57 < bt s i := by omega
          have k3 : 65 ≤ bt s i := by omega
          go_wp2_with fail
          go_quiet (fail)
          go_wp2_with fail
          go_quiet (fail)
          go_wp2_with fail
          go_quiet (fail)
          go_wp2_with fail
          go_ret
          rw [hend.out]
          exact ⟨by rw [← hex.out]; rfl, ⟨hRb.out.row, hRb.out.own⟩, ⟨hfr.os, hfr.tape, hfr.output, hfr.size, hfr.block⟩⟩
    · have hii : i = s.size := by omega
      subst hii
      have hd : decide ((s.size : Int) < s.size) = false := by simp
      have hend : Bx (wordEnd (bt s) s.size st.i = s.size) := Bx.mk (by rw [← g3]; exact runF_fix2 (by omega))
      have hex := Bx.mk (extract_cut s st.i s.size g1 g2)
      clear g3
      go_wp2_with fail
      go_quiet (fail)
      go_wp2_with fail
      go_quiet (fail)
      go_wp2_with fail
      go_ret
      rw [hend.out]
      exact ⟨by rw [← hex.out]; rfl, ⟨hRb.out.row, hRb.out.own⟩, ⟨hfr.os, hfr.tape, hfr.output, hfr.size, hfr.block⟩⟩
theorem word_any (r : Nat) (s : ByteArray) (st : PS) (v : Value) (w : World) (h : RD w r s st v) (hi : st.i ≤ s.size) (hs : s.size ≤ 40) :
    Calls Tryz.prog 253 #[pt r] w fun e w' => e = .returned (.string (bs (cut (bt s) st.i (wordEnd (bt s) s.size st.i)))) ∧ RD w' r s (st.go (wordEnd (bt s) s.size st.i)) v ∧ Fr (Up r) w w' :=
  (word_one r s st v w h hi hs).mono (fun e w' g => ⟨g.1, g.2.1, g.2.2.up1⟩)
end Go.Proofs.Qxb6500326aGreat
