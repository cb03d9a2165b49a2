import Derived.Test.Qxb6500326aGreatW5
namespace Go.Proofs.Qxb6500326aGreat
set_option maxRecDepth 100000
set_option linter.unusedVariables false
set_option linter.unusedSimpArgs false
open Go.RowKit Go.PlainAid
theorem lst_len (s : ByteArray) : (lst s).length = s.size := by
  show (s.data.toList.map _).length = s.data.size
  simp
theorem bt_lst (s : ByteArray) (i : Nat) (h : i < s.size) : (lst s)[i]? = some (bt s i) := by
  have hb := get_bt s i h
  rw [← hb]
  simp only [lst, List.getElem?_map]
  rw [List.getElem?_eq_getElem (show i < s.data.toList.length from by have : i < s.data.size := h; simpa using this)]
  rfl
set_option maxRecDepth 100000 in
set_option maxHeartbeats 2000000 in
theorem isRange_any (r : Nat) (s : ByteArray) (st : PS) (v : Value) (x : Int) (w : World) (h : RD w r s st v) :
    Calls Tryz.prog 172 #[pt r, I x] w fun e w' => e = .returned (.bool (isRange st.n x)) ∧ w = w' := by
  have c2 := h.row.cell 2 (by omega)
  simp only [rdC] at c2
  by_cases hx : 0 ≤ x
  · obtain ⟨q, rfl⟩ := Int.eq_ofNat_of_zero_le hx
    have hd0 : decide ((0 : Int) ≤ (q : Int)) = true := by simp
    by_cases hq : q < st.n.length
    · obtain ⟨g, cap, rfl, hbg, -⟩ := h.own.form (by omega)
      have hcell := h.own.cells (g := g) rfl (q * 13) (I st.n[q].kind) (by
        have := nds_get st.n q 0 hq (by omega)
        rw [Nat.add_zero] at this; rw [this]; rfl)
      have hadd : (⟨g, 0, none⟩ : Addr).add (q * 13) = ⟨g, q * 13, none⟩ := by unfold Addr.add; split <;> simp_all
      rw [hadd] at hcell
      have hd1 : decide ((q : Int) < (st.n.length : Int)) = true := by simp; omega
      have hq2 : (q : Int) < (st.n.length : Int) := by omega
      have hans : Bx (isRange st.n (q : Int) = (st.n[q].kind == 4)) := Bx.mk (by
        unfold isRange; simp [List.getElem?_eq_getElem hq])
      have hqb := Bx.mk hq
      clear h hx
      go_enter Tryz.func172, Tryz.ntmps172
      go_wp2
      go_ret
      rw [hans.out]
      exact ⟨rfl, rfl⟩
    · have hd1 : decide ((q : Int) < (st.n.length : Int)) = false := by simp; omega
      obtain ⟨a, c, rfl⟩ : ∃ a c, v = .slice a st.n.length c := by
        rcases h.own.2 with ⟨e1, e2⟩ | ⟨g, cap, cur, e1, e2, _⟩
        · exact ⟨none, 0, by rw [e1, e2]⟩
        · exact ⟨_, _, e1⟩
      have hans : Bx (isRange st.n (q : Int) = false) := Bx.mk (by
        unfold isRange; simp [List.getElem?_eq_none (by omega : st.n.length ≤ q)])
      have hd2 : decide (q < st.n.length) = false := by simp; omega
      generalize hN : st.n.length = N at *
      clear h hx hq
      go_enter Tryz.func172, Tryz.ntmps172
      go_wp2
      go_ret
      rw [hans.out]
      exact ⟨rfl, rfl⟩
  · have hd0 : decide ((0 : Int) ≤ x) = false := by simp; omega
    have hans : Bx (isRange st.n x = false) := Bx.mk (by unfold isRange; rw [hd0]; rfl)
    clear h hx
    go_enter Tryz.func172, Tryz.ntmps172
    go_wp2
    go_ret
    rw [hans.out]
    exact ⟨rfl, rfl⟩
theorem fnOf_go (L : List Int) : ∀ k : Nat, 1 ≤ k → k ≤ 11 → (∀ j : Nat, 1 ≤ j → j < k → fnName j ≠ L) → (k = 11 → fnOf L = 0) ∧ (k ≤ 10 → fnName k = L → fnOf L = k) := by
  intro k h1 h2 h
  constructor
  · intro hk
    subst hk
    have g : ∀ j : Nat, 1 ≤ j → j < 11 → ¬ L = fnName j := fun j a b e => h j a b e.symm
    have g1 := g 1 (by omega) (by omega)
    have g2 := g 2 (by omega) (by omega)
    have g3 := g 3 (by omega) (by omega)
    have g4 := g 4 (by omega) (by omega)
    have g5 := g 5 (by omega) (by omega)
    have g6 := g 6 (by omega) (by omega)
    have g7 := g 7 (by omega) (by omega)
    have g8 := g 8 (by omega) (by omega)
    have g9 := g 9 (by omega) (by omega)
    have g10 := g 10 (by omega) (by omega)
    simp [fnName] at g1 g2 g3 g4 g5 g6 g7 g8 g9 g10
    unfold fnOf
    rw [if_neg g1, if_neg g2, if_neg g3, if_neg g4, if_neg g5, if_neg g6, if_neg g7, if_neg g8, if_neg g9, if_neg g10]
  · intro hk e
    subst e
    have : k = 1 ∨ k = 2 ∨ k = 3 ∨ k = 4 ∨ k = 5 ∨ k = 6 ∨ k = 7 ∨ k = 8 ∨ k = 9 ∨ k = 10 := by omega
    rcases this with e | e | e | e | e | e | e | e | e | e <;> subst e <;> first | rfl | simp [fnName, fnOf]
theorem bs_inj {L M : List Int} (hL : ∀ c ∈ L, 0 ≤ c ∧ c ≤ 255) (hM : ∀ c ∈ M, 0 ≤ c ∧ c ≤ 255) (h : bs L = bs M) : L = M := by
  rw [← lst_bs hL, h, lst_bs hM]
theorem beq_bs_true {L M : List Int} (h : L = M) : ((bs L).toList == (bs M).toList) = true := by rw [h]; simp
theorem beq_bs_false {L M : List Int} (hL : ∀ c ∈ L, 0 ≤ c ∧ c ≤ 255) (hM : ∀ c ∈ M, 0 ≤ c ∧ c ≤ 255) (h : L ≠ M) : ((bs L).toList == (bs M).toList) = false := by
  rw [beq_eq_false_iff_ne]
  intro e
  rw [ByteArray.toList_eq, ByteArray.toList_eq] at e
  apply h
  apply bs_inj hL hM
  have e2 : (bs L).data = (bs M).data := by
    have := congrArg List.toArray e
    simpa using this
  cases hx : bs L; cases hy : bs M; rw [hx, hy] at e2; simp at e2; rw [e2]
theorem fnName_bytes (f : Int) : ∀ c ∈ fnName f, 0 ≤ c ∧ c ≤ 255 := by
  unfold fnName
  repeat' split
  all_goals (intro c hc; simp at hc; try omega)
set_option maxRecDepth 100000 in
set_option maxHeartbeats 2000000 in
theorem funcOf_any (L : List Int) (w : World) (hL : ∀ c ∈ L, 0 ≤ c ∧ c ≤ 255) :
    Calls Tryz.prog 255 #[.string (bs L)] w fun e w' => e = .returned (I (fnOf L)) ∧ w = w' := by
  go_enter Tryz.func255, Tryz.ntmps255
  go_wp2
  go_loopw [3] (fun i wr => ∃ k : Nat, 1 ≤ k ∧ k ≤ 11 ∧ i = I k ∧ (∀ j : Nat, 1 ≤ j → j < k → fnName j ≠ L) ∧ wr = w) (fun i _ => 11 - (intOf i).toNat)
  case atStart => exact ⟨1, by omega, by omega, rfl, fun j a b => by omega, rfl⟩
  case round =>
    obtain ⟨k, k1, k2, rfl, hk, rfl⟩ := hrel
    have hF := Bx.mk (fnOf_go L k k1 k2 hk)
    have hkb := Bx.mk hk
    clear hk
    by_cases hk10 : k ≤ 10
    · have hd : decide ((k : Int) ≤ 10) = true := by simp; omega
      by_cases he : fnName k = L
      · have hed := beq_bs_true he
        have hans := Bx.mk (hF.out.2 hk10 he)
        clear he
        go_wp2_with (first | (go_at_call 181; refine (fn_any _ _).mono ?_; rintro e w' ⟨rfl, rfl⟩))
        go_ret
        rw [hans.out]
        exact ⟨rfl, rfl⟩
      · have hed := beq_bs_false (fnName_bytes _) hL he
        have heb := Bx.mk he
        clear he
        go_wp2_with (first | (go_at_call 181; refine (fn_any _ _).mono ?_; rintro e w' ⟨rfl, rfl⟩))
        go_roundw
        case rel => exact ⟨k + 1, by omega, by omega, by go_num, fun j a b => by
          rcases Nat.lt_or_ge j k with h | h
          · exact hkb.out j a h
          · rw [show j = k from by omega]; exact heb.out, trivial⟩
        case measure => simp [intOf]; omega
    · have hk11 : k = 11 := by omega
      subst hk11
      have hans := Bx.mk (hF.out.1 rfl)
      go_wp2
      go_ret
      rw [hans.out]
      exact ⟨rfl, rfl⟩
end Go.Proofs.Qxb6500326aGreat
