import Derived.Test.Qxb6500326aGreatJ5
import Derived.Test.Qxb6500326aGreatH4
import Derived.Test.Qxb6500326aGreatU2
namespace Go.Proofs.Qxb6500326aGreat
set_option maxRecDepth 100000
set_option linter.unusedVariables false
set_option linter.unusedSimpArgs false
open Go.RowKit Go.PlainAid
theorem d2_int (n : Nat) : d2 n = [48 + (n : Int) / 10, 48 + (n : Int) % 10] := rfl
theorem d2_len (n : Nat) : (d2 n).length = 2 := rfl
set_option maxHeartbeats 2000000 in
theorem two_any (n : Nat) (hn : n < 100) (w : World) : Calls Tryz.prog 43 #[I n] w fun e w' => e = .returned (.string (bs (d2 n))) ∧ Fr S0 w w' := by
  have h0 : (0 : Int) ≤ (n : Int) / 10 := by omega
  have h1 : (n : Int) / 10 ≤ 9 := by omega
  have h2 : (0 : Int) ≤ (n : Int) % 10 := by omega
  have h3 : (n : Int) % 10 ≤ 9 := by omega
  have hnI : (n : Int) < 100 := by omega
  have hD := Bx.mk (d2_int n)
  have hc : Bx (∀ j (h : j < [48 + (n : Int) / 10, 48 + (n : Int) % 10].length), (w.alloc (.cells #[Y (48 + (n : Int) / 10), Y (48 + (n : Int) % 10)] 5)).cell? ⟨w.heap.size, 0 + j, none⟩ = some (Y [48 + (n : Int) / 10, 48 + (n : Int) % 10][j])) := ⟨by
    have hr := Row.new w #[Y (48 + (n : Int) / 10), Y (48 + (n : Int) % 10)] 5 2 (fun i => Y ([48 + (n : Int) / 10, 48 + (n : Int) % 10][i]?.getD 0)) rfl (fun i hi => by match i, hi with
      | 0, _ => rfl
      | 1, _ => rfl)
    intro j hj
    rw [Nat.zero_add, hr.cell j hj]
    show some (Y ([48 + (n : Int) / 10, 48 + (n : Int) % 10][j]?.getD 0)) = _
    rw [List.getElem?_eq_getElem hj]; rfl⟩
  go_enter Tryz.func43, Tryz.ntmps43
  go_wp2_with (first
    | (refine wpList_bytes_str rfl (.tmp 11) (by rfl) w.heap.size 0 2 2 [48 + (n : Int) / 10, 48 + (n : Int) % 10] (by rfl) rfl hc.out ?_))
  go_ret
  exact ⟨by rw [hD.out] <;> rfl, (Fr.refl _ _).alloc _⟩
section
variable {w w' : World} {ρ ρ' : Nat → Nat} {mk : Nat} {M : YA} {T T' : Tx} {past next L : List Tx} {c : Nat}
theorem es_size {s : ByteArray} (h : s.size = 0) : (s.toList == []) = true := by rw [size_zero h, ByteArray.toList_eq]; rfl
theorem es_size' {s : ByteArray} (h : s.size ≠ 0) : (s.toList == []) = false := by
  simp only [beq_eq_false_iff_ne, ne_eq]
  intro e
  apply h
  rw [ByteArray.toList_eq] at e
  have := congrArg List.length e
  simpa using this
theorem piece_none {c : Nat} (h : (T c).size = 0) : pieceP T c = [] := by unfold pieceP; rw [if_pos h]
theorem piece_some {c : Nat} (h : (T c).size ≠ 0) : pieceP T c = d2 c ++ (d2 (T c).size ++ lst (T c)) := by unfold pieceP; rw [if_neg h]
set_option maxHeartbeats 8000000 in
theorem bmSave_any (w : World) (h : BM w ρ mk M T past next) : Calls Tryz.prog 18 #[pt mk] w fun e w' => e = .returned (.string (bs (savFrom T 0))) ∧ Fr S0 w w' := by
  have hT : Bx (TxO T) := ⟨by obtain ⟨vp, vn, hb⟩ := h; exact hb.by'.tx⟩
  have hR : Bx (∀ wx, Fr S0 w wx → wx.cell? ⟨mk, 0, none⟩ = some (pt M.me) ∧ mk < wx.heap.size ∧ ∀ k : Nat, k < 24 → Calls Tryz.prog 42 #[pt M.me, I k] wx fun e w' => e = .returned (.string (T k)) ∧ wx = w') := ⟨fun wx hx => by
    obtain ⟨vp, vn, hb⟩ := h.fr0 hx
    obtain ⟨c0, c1, c2, hl, z1, z2⟩ := hb.by'.cells
    exact ⟨c0, hl, fun k hk => by have := yb_raw hb.by'.ed (k : Int); rw [rawP_at hk] at this; exact this⟩⟩
  replace h := Bx.mk h
  go_enter Tryz.func18, Tryz.ntmps18
  go_wp2_with fail
  go_loopw [3, 4] (fun s c wr => ∃ (k : Nat) (L : List Int), k ≤ 24 ∧ s = .string (bs L) ∧ c = I (k : Int) ∧ Bx (L ++ savFrom T k = savFrom T 0) ∧ L.length ≤ k * 44 ∧ Bx (Fr S0 w wr)) (fun _ c _ => 24 - (intOf c).toNat)
  case atStart => exact ⟨0, [], by omega, rfl, rfl, ⟨rfl⟩, by simp, ⟨Fr.refl _ _⟩⟩
  case round =>
    obtain ⟨k, L, hk, rfl, rfl, hL, hLl, hf⟩ := hrel
    cases hlt : decide ((k : Int) < 24)
    · have hk24 : Bx (k = 24) := ⟨by simp at hlt; omega⟩
      go_wp2_with fail
      go_ret
      refine ⟨?_, hf.out⟩
      rw [← hL.out, hk24.out, savFrom_end (Nat.le_refl _), List.append_nil] <;> rfl
    · have hk24 : k < 24 := by simp at hlt; omega
      have hkI : (k : Int) < 24 := by omega
      obtain ⟨c0, hl, hv⟩ := hR.out wr hf.out
      replace hv := Bx.mk (hv k hk24)
      have hsz := hT.out.size k
      have hst := Bx.mk (savFrom_step (T := T) hk24)
      by_cases h0 : (T k).size = 0
      · have hq := es_size h0
        have hL2 : Bx (L ++ savFrom T (k + 1) = savFrom T 0) := ⟨by rw [← hL.out, hst.out, piece_none h0]; rfl⟩
        clear h0 hL hst
        generalize T k = y at *
        go_wp2_with (first | (go_at_call 42; refine hv.out.mono ?_; clear hv; rintro e _ ⟨rfl, rfl⟩))
        go_roundw
        case rel => exact ⟨k + 1, L, by omega, rfl, by go_num, hL2, by omega, hf⟩
        case measure => simp [intOf]; omega
      · have hq := es_size' h0
        have hL2 : Bx ((L ++ (d2 k ++ (d2 (T k).size ++ lst (T k)))) ++ savFrom T (k + 1) = savFrom T 0) := ⟨by rw [← hL.out, hst.out, piece_some h0]; simp [List.append_assoc]⟩
        have hll : (lst (T k)).length = (T k).size := lst_len' _
        have hyb := Bx.mk (bs_lst (T k))
        have hl2 : (L ++ (d2 k ++ (d2 (T k).size ++ lst (T k)))).length ≤ (k + 1) * 44 := by simp only [List.length_append, d2_len, hll]; omega
        have hlA : L.length + (d2 k).length ≤ 100000 := by rw [d2_len]; omega
        have hlB : (L ++ d2 k).length + (d2 (T k).size).length ≤ 100000 := by simp only [List.length_append, d2_len]; omega
        have hlC : (L ++ (d2 k ++ d2 (T k).size)).length + (lst (T k)).length ≤ 100000 := by simp only [List.length_append, d2_len, hll]; omega
        have hlA := Bx.mk hlA
        have hlB := Bx.mk hlB
        have hlC := Bx.mk hlC
        have hl2 := Bx.mk hl2
        have t1 := Bx.mk (fun wx => two_any k (by omega) wx)
        have t2 := Bx.mk (fun wx => two_any (T k).size (by omega) wx)
        clear h0 hL hst hll
        generalize T k = y at *
        go_wp2_with (first
          | (go_at_call 42; refine hv.out.mono ?_; clear hv; rintro e _ ⟨rfl, rfl⟩)
          | (go_at_call 43; refine (t1.out _).mono ?_; clear t1; rintro e w1 ⟨rfl, hf1⟩; replace hf := Bx.mk (hf.out.trans hf1); clear hf1 c0 hl)
          | (refine wpList_add_str rfl (.tmp 21) (.tmp 22) (by rfl) L (d2 k) (by rfl) (by rfl) hlA.out ?_)
          | (go_at_call 43; refine (t2.out _).mono ?_; clear t2; rintro e w2 ⟨rfl, hf2⟩; replace hf := Bx.mk (hf.out.trans hf2); clear hf2)
          | (refine wpList_add_str rfl (.tmp 23) (.tmp 26) (by rfl) (L ++ d2 k) (d2 y.size) (by rfl) (by rfl) hlB.out ?_)
          | (refine wpList_add_str rfl (.tmp 27) (.tmp 28) (by rfl) (L ++ (d2 k ++ d2 y.size)) (lst y) (by rfl) (by rw [hyb.out]; rfl) hlC.out ?_))
        go_roundw
        case rel => exact ⟨k + 1, _, by omega, by simp only [List.append_assoc] <;> rfl, by go_num, hL2, hl2.out, hf⟩
        case measure => simp [intOf]; omega
end
end Go.Proofs.Qxb6500326aGreat
