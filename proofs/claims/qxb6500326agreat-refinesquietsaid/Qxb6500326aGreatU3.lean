import Derived.Test.Qxb6500326aGreatU2
namespace Go.Proofs.Qxb6500326aGreat
set_option maxRecDepth 100000
set_option linter.unusedVariables false
set_option linter.unusedSimpArgs false
open Go.RowKit Go.PlainAid
def itC (i : Nat) (T : List Int) : Nat → Value := fun j => if j < i then Y 0 else Y ((T[j - i]?).getD 0)
theorem itC_set {i : Nat} (h : 0 < i) (T : List Int) (c : Int) (n : Nat) : ∀ j, j < n → upd (itC i T) (i - 1) (Y c) j = itC (i - 1) (c :: T) j := by
  intro j _
  unfold upd itC
  by_cases e : j = i - 1
  · subst e; simp
  · rw [if_neg e]
    by_cases h1 : j < i - 1
    · rw [if_pos (by omega), if_pos h1]
    · rw [if_neg (by omega), if_neg h1, show j - (i - 1) = (j - i) + 1 from by omega]; simp
theorem it_new (w : World) : Row (w.alloc (.cells #[Y 0, Y 0, Y 0, Y 0, Y 0, Y 0, Y 0, Y 0, Y 0, Y 0, Y 0, Y 0, Y 0, Y 0, Y 0, Y 0, Y 0, Y 0, Y 0, Y 0, Y 0, Y 0, Y 0, Y 0] 231)) w.heap.size 24 (itC 24 []) :=
  Row.new _ _ _ _ _ rfl (by
    intro i hi
    have : itC 24 [] i = Y 0 := by unfold itC; rw [if_pos hi]
    rw [this]
    have : i = 0 ∨ i = 1 ∨ i = 2 ∨ i = 3 ∨ i = 4 ∨ i = 5 ∨ i = 6 ∨ i = 7 ∨ i = 8 ∨ i = 9 ∨ i = 10 ∨ i = 11 ∨ i = 12 ∨ i = 13 ∨ i = 14 ∨ i = 15 ∨ i = 16 ∨ i = 17 ∨ i = 18 ∨ i = 19 ∨ i = 20 ∨ i = 21 ∨ i = 22 ∨ i = 23 := by omega
    rcases this with e | e | e | e | e | e | e | e | e | e | e | e | e | e | e | e | e | e | e | e | e | e | e | e <;> subst e <;> rfl)
theorem decF_succ (f v : Nat) (T : List Int) : decF (f + 1) v T = if v / 10 = 0 then ((48 + v % 10 : Nat) : Int) :: T else decF f (v / 10) (((48 + v % 10 : Nat) : Int) :: T) := rfl
theorem decF_pos : ∀ (f v : Nat) (T : List Int), 0 < (decF (f + 1) v T).length := by
  intro f
  induction f with
  | zero => intro v T; rw [decF_succ]; split <;> simp [decF]
  | succ f ih => intro v T; rw [decF_succ]; split; simp; exact ih _ _
/-- How far the digits have been written: m is still to come. -/
def ItSt (D : List Int) (i m : Nat) (T : List Int) : Prop := T.length = 24 - i ∧ i ≤ 24 ∧ ((m = 0 ∧ T = D) ∨ (0 < m ∧ 14 < i ∧ decF (i - 4) m T = D ∧ m < 10 ^ (i - 14)))
theorem ItSt.step {D : List Int} {q m : Nat} {T : List Int} (h : ItSt D (q + 1) m T) (hm : 0 < m) : ItSt D q (m / 10) (((48 + m % 10 : Nat) : Int) :: T) := by
  obtain ⟨h1, h2, h3⟩ := h
  rcases h3 with ⟨h3, _⟩ | ⟨_, h4, h5, h6⟩
  · omega
  refine ⟨by simp; omega, by omega, ?_⟩
  rw [show q + 1 - 4 = (q - 4) + 1 from by omega, decF_succ] at h5
  by_cases hl : m / 10 = 0
  · rw [if_pos hl] at h5
    exact .inl ⟨hl, h5⟩
  · rw [if_neg hl] at h5
    have hq : 14 < q := by
      rcases Nat.lt_or_ge 14 q with h | h
      · exact h
      · have : q = 14 := by omega
        subst this; simp at h6; omega
    refine .inr ⟨by omega, hq, h5, ?_⟩
    have : 10 ^ (q + 1 - 14) = 10 ^ (q - 14) * 10 := by
      rw [show q + 1 - 14 = (q - 14) + 1 from by omega, Nat.pow_succ]
    omega
set_option maxRecDepth 100000 in
set_option maxHeartbeats 1000000 in
theorem itoa_any (n : Nat) (w : World) (h1 : n ≤ 999999999) : Calls Tryz.prog 177 #[I n] w fun e w' => e = .returned (.string (bs (dec n))) ∧ Fr S0 w w' := by
  by_cases h0 : n = 0
  · subst h0
    go_enter Tryz.func177, Tryz.ntmps177
    go_wp2
    go_ret
    exact ⟨rfl, Fr.refl _ _⟩
  · have g0 : ((n : Int) == 0) = false := by simp; omega
    have g1 : (n == 0) = false := by simp; omega
    have g2 : ¬ n = 0 := h0
    have g3 : decide ((n : Int) < 0) = false := decide_eq_false (by omega)
    have hst : Bx (ItSt (dec n) 24 n []) := Bx.mk ⟨by simp, by omega, .inr ⟨by omega, by omega, by simp [dec], by show n < 10 ^ 10; omega⟩⟩
    have hDp : 0 < (dec n).length := decF_pos 19 _ _
    generalize dec n = D at *
    go_enter Tryz.func177, Tryz.ntmps177
    go_wp2
    go_loopw [0, 5] (fun nn ii wr => ∃ (m i : Nat) (T : List Int), nn = I m ∧ ii = I i ∧ m ≤ n ∧ ItSt D i m T ∧ Row wr w.heap.size 24 (itC i T) ∧ Fr S0 w wr) (fun nn _ _ => (intOf nn).toNat)
    case atStart => exact ⟨n, 24, [], rfl, rfl, Nat.le_refl _, hst.out, it_new w, (Fr.refl _ _).alloc _⟩
    case round =>
      clear hst
      obtain ⟨m, i, T, rfl, rfl, hmn, hS, hrow, hfr⟩ := hrel
      by_cases hm : 0 < m
      · have hmd : decide ((0 : Int) < (m : Int)) = true := decide_eq_true (by omega)
        have hmd2 : decide (0 < m) = true := decide_eq_true hm
        have hi : 14 < i := by rcases hS.2.2 with h | h; omega; exact h.2.1
        have hi2 := hS.2.1
        obtain ⟨q, rfl⟩ : ∃ q, i = q + 1 := ⟨i - 1, by omega⟩
        have hst := Bx.mk (hS.step hm)
        have hrn := Bx.mk ((hrow.set q (Y ((48 + m % 10 : Nat) : Int))).congr (itC_set (i := q + 1) (by omega) T _ 24))
        have hcl := hrow.cell q (by omega)
        have hfz := hrow.frozen q
        have hq24 : (q : Int) < 24 := by omega
        have hr0 : (0 : Int) ≤ (m : Int) % 10 := by omega
        have hr1 : (m : Int) % 10 ≤ 9 := by omega
        have hdl : Bx ((m : Int) / 10 = ((m / 10 : Nat) : Int)) := Bx.mk (by omega)
        have hm9 : (m : Int) ≤ 999999999 := by omega
        clear hrow hS
        go_wp2
        go_roundw
        case rel =>
          refine ⟨m / 10, q, _, by rw [← hdl.out], by go_num, by omega, hst.out, ?_, ?_⟩
          · exact hrn.out
          · exact hfr.setCell (.inr (Nat.le_refl _)) _
        case measure => simp [intOf]; omega
      · have hm0 : m = 0 := by omega
        subst hm0
        have hT : T = D := by rcases hS.2.2 with h | h; exact h.2; omega
        subst hT
        have hl := hS.1
        have hDp := hDp
        have hi2 := hS.2.1
        have hcs : Bx (∀ j (h : j < T.length), wr.cell? ⟨w.heap.size, i + j, none⟩ = some (Y T[j])) := Bx.mk (by
          intro j hj
          rw [hrow.cell (i + j) (by omega)]
          unfold itC
          rw [if_neg (by omega), show i + j - i = j from by omega, List.getElem?_eq_getElem hj]; rfl)
        have hi3 : (i : Int) ≤ 24 := by omega
        have hi4 : ¬ 24 = i := by omega
        have hi5 : i < 24 := by omega
        clear hS hrow
        go_wp2_with (first
          | (refine wpList_bytes_str rfl (.tmp 31) (by rfl) w.heap.size i (24 - i) (24 - i) T (by rfl) hl hcs.out ?_))
        go_ret
        exact ⟨rfl, hfr⟩
end Go.Proofs.Qxb6500326aGreat
