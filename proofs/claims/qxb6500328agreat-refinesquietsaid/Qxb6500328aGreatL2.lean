import Derived.Test.Qxb6500328aGreatL1
namespace Go.Proofs.Qxb6500328aGreat
set_option maxRecDepth 100000
set_option linter.unusedVariables false
set_option linter.unusedSimpArgs false
open Go.RowKit Go.PlainAid
attribute [local go_sem] bv_and bv_or bv_eq_zero bv_ne_zero bv_ne bv_eq bv_andNot

/-! ### sets of cells -/
set_option maxHeartbeats 400000 in
theorem bit_neg (c : Int) (w : World) (h : c < 0) : Calls Tryz.prog 80 #[I c] w fun e w' => e = .returned (U 0#32) ∧ w = w' := by
  go_enter Tryz.func80, Tryz.ntmps80
  go_wp2
  all_goals go_ret
  all_goals exact ⟨by simp [uN], rfl⟩
theorem and_bit (S : BitVec 32) {p : Nat} (hp : p < 32) : (S &&& bit p != 0#32) = S.getLsbD p := by
  cases h : S.getLsbD p
  · have : S &&& bit p = 0#32 := by
      apply BitVec.eq_of_getLsbD_eq
      intro i hi
      rw [BitVec.getLsbD_and]
      cases hb : (bit p).getLsbD i
      · simp
      · rw [bit_lt hb, h]; simp
    rw [this]; rfl
  · have : (S &&& bit p).getLsbD p = true := by
      rw [BitVec.getLsbD_and, h]
      unfold bit
      rw [BitVec.getLsbD_shiftLeft]
      simp [hp]
    simp only [bne_iff_ne, ne_eq]
    intro e
    rw [e] at this
    simp at this
def accB (p : Nat → Bool) : Nat → BitVec 32
  | 0 => 0#32
  | k + 1 => if p k = true then accB p k ||| bit k else accB p k
theorem accB_t {p : Nat → Bool} {k : Nat} (h : p k = true) : accB p k ||| bit k = accB p (k + 1) := by rw [accB, if_pos h]
theorem accB_f {p : Nat → Bool} {k : Nat} (h : p k = false) : accB p k = accB p (k + 1) := by rw [accB, if_neg (by rw [h]; simp)]
theorem bit_at {p i : Nat} (hp : p < 32) : (bit p).getLsbD i = decide (i = p) := by
  unfold bit
  rw [BitVec.getLsbD_shiftLeft]
  by_cases e : i = p
  · subst e; simp [hp]
  · simp [e]; omega
theorem mem_accB (p : Nat → Bool) : ∀ (k : Nat), k ≤ 32 → ∀ i, (accB p k).getLsbD i = (decide (i < k) && p i)
  | 0, _, i => by simp [accB]
  | k + 1, hk, i => by
    have ih := mem_accB p k (by omega) i
    cases h : p k
    · rw [← accB_f h, ih]
      by_cases e : i = k
      · subst e; simp [h]
      · congr 1; exact decide_eq_decide.2 (by omega)
    · rw [← accB_t h, BitVec.getLsbD_or, ih, bit_at (by omega)]
      by_cases e : i = k
      · subst e; simp [h]
      · have : decide (i < k + 1) = decide (i < k) := decide_eq_decide.2 (by omega)
        rw [this]; simp [e]
def lastB (rows : Bool) (c : Nat) : Bool := decide (lineOf rows (c : Int) = nAx rows - 1)
def newB (rows ins : Bool) (at_ : Int) (c : Nat) : Bool := ins && decide (fromP rows ins at_ c < 0)
def imgB (S : BitVec 32) (rows ins : Bool) (at_ : Int) (c : Nat) : Bool := decide (0 ≤ fromP rows ins at_ c) && S.getLsbD (fromP rows ins at_ c).toNat
set_option maxHeartbeats 4000000 in
theorem last_any (rows : Bool) (w : World) : Calls Tryz.prog 69 #[I (kd rows true)] w fun e w' => e = .returned (U (accB (lastB rows) 24)) ∧ w = w' := by
  have hBit : Bx (∀ (k : Nat) wx, k < 24 → Calls Tryz.prog 80 #[I k] wx fun e w' => e = .returned (U (bit k)) ∧ wx = w') := ⟨fun k wx hk => bit_any k wx hk⟩
  have hz : Bx (U (accB (lastB rows) 0) = .int .u32 0) := ⟨by simp [accB, uN]⟩
  cases rows
  · have hL : Bx (∀ k : Nat, lastB false k = (((k : Int) % 4) == 3)) := ⟨fun k => by unfold lastB; rfl⟩
    go_enter Tryz.func69, Tryz.ntmps69
    simp only [kd, if_true, if_false, Bool.false_eq_true]
    go_wp2_with fail
    go_loopw [3, 4] (fun s c wr => ∃ k : Nat, k ≤ 24 ∧ s = U (accB (lastB false) k) ∧ c = I (k : Int) ∧ w = wr) (fun _ c _ => 24 - (intOf c).toNat)
    case atStart => exact ⟨0, by omega, hz.out.symm, rfl, rfl⟩
    case round =>
      obtain ⟨k, hk, rfl, rfl, rfl⟩ := hrel
      cases hlt : decide ((k : Int) < 24)
      · have hk24 : Bx (k = 24) := ⟨by simp at hlt; omega⟩
        go_wp2_with fail
        go_ret
        exact ⟨by rw [hk24.out] <;> rfl, rfl⟩
      · have hk24 : k < 24 := by simp at hlt; omega
        have hkI : (k : Int) < 24 := by omega
        have hLk := Bx.mk (hL.out k)
        cases hb : (((k : Int) % 4) == 3)
        · have hacc := Bx.mk (accB_f (p := lastB false) (k := k) (by rw [hLk.out, hb]))
          go_wp2_with fail
          go_roundw
          case rel => exact ⟨k + 1, by omega, by rw [← hacc.out] <;> rfl, by go_num, trivial⟩
          case measure => simp [intOf]; omega
        · have hacc := Bx.mk (accB_t (p := lastB false) (k := k) (by rw [hLk.out, hb]))
          go_wp2_with (first | (go_at_call 80; refine (hBit.out k _ hk24).mono ?_; rintro e _ ⟨rfl, rfl⟩))
          go_roundw
          case rel => exact ⟨k + 1, by omega, by rw [← hacc.out] <;> rfl, by go_num, trivial⟩
          case measure => simp [intOf]; omega
  · have hL : Bx (∀ k : Nat, lastB true k = (((k : Int) / 4) == 5)) := ⟨fun k => by unfold lastB; rfl⟩
    go_enter Tryz.func69, Tryz.ntmps69
    simp only [kd, if_true, if_false, Bool.false_eq_true]
    go_wp2_with fail
    go_loopw [3, 4] (fun s c wr => ∃ k : Nat, k ≤ 24 ∧ s = U (accB (lastB true) k) ∧ c = I (k : Int) ∧ w = wr) (fun _ c _ => 24 - (intOf c).toNat)
    case atStart => exact ⟨0, by omega, hz.out.symm, rfl, rfl⟩
    case round =>
      obtain ⟨k, hk, rfl, rfl, rfl⟩ := hrel
      cases hlt : decide ((k : Int) < 24)
      · have hk24 : Bx (k = 24) := ⟨by simp at hlt; omega⟩
        go_wp2_with fail
        go_ret
        exact ⟨by rw [hk24.out] <;> rfl, rfl⟩
      · have hk24 : k < 24 := by simp at hlt; omega
        have hkI : (k : Int) < 24 := by omega
        have hLk := Bx.mk (hL.out k)
        cases hb : (((k : Int) / 4) == 5)
        · have hacc := Bx.mk (accB_f (p := lastB true) (k := k) (by rw [hLk.out, hb]))
          go_wp2_with fail
          go_roundw
          case rel => exact ⟨k + 1, by omega, by rw [← hacc.out] <;> rfl, by go_num, trivial⟩
          case measure => simp [intOf]; omega
        · have hacc := Bx.mk (accB_t (p := lastB true) (k := k) (by rw [hLk.out, hb]))
          go_wp2_with (first | (go_at_call 80; refine (hBit.out k _ hk24).mono ?_; rintro e _ ⟨rfl, rfl⟩))
          go_roundw
          case rel => exact ⟨k + 1, by omega, by rw [← hacc.out] <;> rfl, by go_num, trivial⟩
          case measure => simp [intOf]; omega
set_option maxHeartbeats 4000000 in
theorem newLine_any (rows ins : Bool) (at_ : Int) (w : World) (h0 : 0 ≤ at_) (h1 : at_ < nAx rows) : Calls Tryz.prog 71 #[I (kd rows ins), I at_] w fun e w' => e = .returned (U (accB (newB rows ins at_) 24)) ∧ w = w' := by
  have hBit : Bx (∀ (k : Nat) wx, k < 24 → Calls Tryz.prog 80 #[I k] wx fun e w' => e = .returned (U (bit k)) ∧ wx = w') := ⟨fun k wx hk => bit_any k wx hk⟩
  have hFrom : Bx (∀ (k : Nat) wx, k < 24 → Calls Tryz.prog 61 #[I k, I (kd rows ins), I at_] wx fun e w' => e = .returned (I (fromP rows ins at_ k)) ∧ wx = w') := ⟨fun k wx hk => from_any rows ins at_ k wx hk h0 h1⟩
  have hz : Bx (U (accB (newB rows ins at_) 0) = .int .u32 0) := ⟨by simp [accB, uN]⟩
  clear h0 h1
  cases ins
  · have hall : Bx (accB (newB rows false at_) 24 = 0#32) := ⟨by
      apply BitVec.eq_of_getLsbD_eq
      intro i hi
      rw [mem_accB _ 24 (by omega)]
      simp [newB]⟩
    rw [hall.out]
    cases rows <;> simp only [kd, if_true, if_false, Bool.false_eq_true]
    all_goals go_enter Tryz.func71, Tryz.ntmps71
    all_goals go_wp2_with fail
    all_goals go_ret
    all_goals exact ⟨by simp [uN], rfl⟩
  · have hn1 : (kd rows true != 1) = !rows := by cases rows <;> rfl
    have hn3 : (kd rows true != 3) = rows := by cases rows <;> rfl
    have hL : Bx (∀ k : Nat, newB rows true at_ k = decide (fromP rows true at_ k < 0)) := ⟨fun k => by unfold newB; rfl⟩
    generalize kd rows true = K at *
    cases rows
    · simp only [Bool.not_false, Bool.not_true] at hn1 hn3
      go_enter Tryz.func71, Tryz.ntmps71
      go_wp2_with fail
      go_loopw [5, 6] (fun s c wr => ∃ k : Nat, k ≤ 24 ∧ s = U (accB (newB false true at_) k) ∧ c = I (k : Int) ∧ w = wr) (fun _ c _ => 24 - (intOf c).toNat)
      case atStart => exact ⟨0, by omega, hz.out.symm, rfl, rfl⟩
      case round =>
        obtain ⟨k, hk, rfl, rfl, rfl⟩ := hrel
        cases hlt : decide ((k : Int) < 24)
        · have hk24 : Bx (k = 24) := ⟨by simp at hlt; omega⟩
          go_wp2_with fail
          go_ret
          exact ⟨by rw [hk24.out] <;> rfl, rfl⟩
        · have hk24 : k < 24 := by simp at hlt; omega
          have hkI : (k : Int) < 24 := by omega
          have hLk := Bx.mk (hL.out k)
          have hFk := Bx.mk (fun wx => hFrom.out k wx hk24)
          generalize fromP false true at_ k = q at *
          cases hb : decide (q < 0)
          · have hacc := Bx.mk (accB_f (p := newB false true at_) (k := k) (by rw [hLk.out, hb]))
            go_wp2_with (first | (go_at_call 61; refine (hFk.out _).mono ?_; rintro e _ ⟨rfl, rfl⟩))
            go_roundw
            case rel => exact ⟨k + 1, by omega, by rw [← hacc.out] <;> rfl, by go_num, trivial⟩
            case measure => simp [intOf]; omega
          · have hacc := Bx.mk (accB_t (p := newB false true at_) (k := k) (by rw [hLk.out, hb]))
            go_wp2_with (first
              | (go_at_call 61; refine (hFk.out _).mono ?_; rintro e _ ⟨rfl, rfl⟩)
              | (go_at_call 80; refine (hBit.out k _ hk24).mono ?_; rintro e _ ⟨rfl, rfl⟩))
            go_roundw
            case rel => exact ⟨k + 1, by omega, by rw [← hacc.out] <;> rfl, by go_num, trivial⟩
            case measure => simp [intOf]; omega
    · simp only [Bool.not_false, Bool.not_true] at hn1 hn3
      go_enter Tryz.func71, Tryz.ntmps71
      go_wp2_with fail
      go_loopw [5, 6] (fun s c wr => ∃ k : Nat, k ≤ 24 ∧ s = U (accB (newB true true at_) k) ∧ c = I (k : Int) ∧ w = wr) (fun _ c _ => 24 - (intOf c).toNat)
      case atStart => exact ⟨0, by omega, hz.out.symm, rfl, rfl⟩
      case round =>
        obtain ⟨k, hk, rfl, rfl, rfl⟩ := hrel
        cases hlt : decide ((k : Int) < 24)
        · have hk24 : Bx (k = 24) := ⟨by simp at hlt; omega⟩
          go_wp2_with fail
          go_ret
          exact ⟨by rw [hk24.out] <;> rfl, rfl⟩
        · have hk24 : k < 24 := by simp at hlt; omega
          have hkI : (k : Int) < 24 := by omega
          have hLk := Bx.mk (hL.out k)
          have hFk := Bx.mk (fun wx => hFrom.out k wx hk24)
          generalize fromP true true at_ k = q at *
          cases hb : decide (q < 0)
          · have hacc := Bx.mk (accB_f (p := newB true true at_) (k := k) (by rw [hLk.out, hb]))
            go_wp2_with (first | (go_at_call 61; refine (hFk.out _).mono ?_; rintro e _ ⟨rfl, rfl⟩))
            go_roundw
            case rel => exact ⟨k + 1, by omega, by rw [← hacc.out] <;> rfl, by go_num, trivial⟩
            case measure => simp [intOf]; omega
          · have hacc := Bx.mk (accB_t (p := newB true true at_) (k := k) (by rw [hLk.out, hb]))
            go_wp2_with (first
              | (go_at_call 61; refine (hFk.out _).mono ?_; rintro e _ ⟨rfl, rfl⟩)
              | (go_at_call 80; refine (hBit.out k _ hk24).mono ?_; rintro e _ ⟨rfl, rfl⟩))
            go_roundw
            case rel => exact ⟨k + 1, by omega, by rw [← hacc.out] <;> rfl, by go_num, trivial⟩
            case measure => simp [intOf]; omega

set_option maxHeartbeats 4000000 in
theorem image_any (S : BitVec 32) (rows ins : Bool) (at_ : Int) (w : World) (h0 : 0 ≤ at_) (h1 : at_ < nAx rows) : Calls Tryz.prog 73 #[U S, I (kd rows ins), I at_] w fun e w' => e = .returned (U (accB (imgB S rows ins at_) 24)) ∧ w = w' := by
  have hBit : Bx (∀ (k : Nat) wx, k < 24 → Calls Tryz.prog 80 #[I k] wx fun e w' => e = .returned (U (bit k)) ∧ wx = w') := ⟨fun k wx hk => bit_any k wx hk⟩
  have hNeg : Bx (∀ (q : Int) wx, q < 0 → Calls Tryz.prog 80 #[I q] wx fun e w' => e = .returned (U 0#32) ∧ wx = w') := ⟨fun q wx hq => bit_neg q wx hq⟩
  have hFrom : Bx (∀ (k : Nat) wx, k < 24 → Calls Tryz.prog 61 #[I k, I (kd rows ins), I at_] wx fun e w' => e = .returned (I (fromP rows ins at_ k)) ∧ wx = w') := ⟨fun k wx hk => from_any rows ins at_ k wx hk h0 h1⟩
  have hbd : Bx (∀ k : Nat, k < 24 → 0 ≤ fromP rows ins at_ k → (fromP rows ins at_ k).toNat < 24) := ⟨fun k hk h => ((from_lines (ins := ins) h0 h1 hk).2 h).1⟩
  have hz : Bx (U (accB (imgB S rows ins at_) 0) = .int .u32 0) := ⟨by simp [accB, uN]⟩
  have hL : Bx (∀ k : Nat, imgB S rows ins at_ k = (decide (0 ≤ fromP rows ins at_ k) && S.getLsbD (fromP rows ins at_ k).toNat)) := ⟨fun k => rfl⟩
  clear h0 h1
  generalize hA : accB (imgB S rows ins at_) = A at *
  have hst : Bx (∀ k, imgB S rows ins at_ k = true → A k ||| bit k = A (k + 1)) := ⟨fun k h => hA ▸ accB_t h⟩
  have hsf : Bx (∀ k, imgB S rows ins at_ k = false → A k = A (k + 1)) := ⟨fun k h => hA ▸ accB_f h⟩
  clear hA
  generalize kd rows ins = K at *
  go_enter Tryz.func73, Tryz.ntmps73
  go_wp2_with fail
  go_loopw [7, 8] (fun s c wr => ∃ k : Nat, k ≤ 24 ∧ s = U (A k) ∧ c = I (k : Int) ∧ w = wr) (fun _ c _ => 24 - (intOf c).toNat)
  case atStart => exact ⟨0, by omega, hz.out.symm, rfl, rfl⟩
  case round =>
    obtain ⟨k, hk, rfl, rfl, rfl⟩ := hrel
    cases hlt : decide ((k : Int) < 24)
    · have hk24 : Bx (k = 24) := ⟨by simp at hlt; omega⟩
      go_wp2_with fail
      go_ret
      exact ⟨by rw [hk24.out] <;> rfl, rfl⟩
    · have hk24 : k < 24 := by simp at hlt; omega
      have hkI : (k : Int) < 24 := by omega
      have hLk := Bx.mk (hL.out k)
      have hFk := Bx.mk (fun wx => hFrom.out k wx hk24)
      have hbk := Bx.mk (hbd.out k hk24)
      generalize fromP rows ins at_ k = q at *
      by_cases hq : q < 0
      · have hacc := Bx.mk (hsf.out k (by rw [hLk.out, decide_eq_false (by omega)]; rfl))
        have hN := Bx.mk (fun wx => hNeg.out q wx hq)
        have hS0 : (S &&& 0#32 != 0#32) = false := by simp
        go_wp2_with (first
          | (go_at_call 61; refine (hFk.out _).mono ?_; rintro e _ ⟨rfl, rfl⟩)
          | (go_at_call 80; refine (hN.out _).mono ?_; rintro e _ ⟨rfl, rfl⟩))
        go_roundw
        case rel => exact ⟨k + 1, by omega, by rw [← hacc.out] <;> rfl, by go_num, trivial⟩
        case measure => simp [intOf]; omega
      · obtain ⟨p, hp⟩ : ∃ p : Nat, q = (p : Int) := ⟨q.toNat, by omega⟩
        subst hp
        have hp24 : p < 24 := hbk.out (by omega)
        have hab := and_bit S (p := p) (by omega)
        have hBp := Bx.mk (fun wx => hBit.out p wx hp24)
        have hBk := Bx.mk (fun wx => hBit.out k wx hk24)
        have hLk : Bx (imgB S rows ins at_ k = S.getLsbD p) := ⟨by rw [hLk.out, decide_eq_true (by omega)]; rfl⟩
        clear hq hbk
        cases hb : S.getLsbD p
        · have hacc := Bx.mk (hsf.out k (by rw [hLk.out, hb]))
          rw [hb] at hab
          go_wp2_with (first
            | (go_at_call 61; refine (hFk.out _).mono ?_; rintro e _ ⟨rfl, rfl⟩)
            | (go_at_call 80; refine (hBp.out _).mono ?_; clear hBp; rintro e _ ⟨rfl, rfl⟩))
          go_roundw
          case rel => exact ⟨k + 1, by omega, by rw [← hacc.out] <;> rfl, by go_num, trivial⟩
          case measure => simp [intOf]; omega
        · have hacc := Bx.mk (hst.out k (by rw [hLk.out, hb]))
          rw [hb] at hab
          go_wp2_with (first
            | (go_at_call 61; refine (hFk.out _).mono ?_; rintro e _ ⟨rfl, rfl⟩)
            | (go_at_call 80; refine (hBp.out _).mono ?_; clear hBp; rintro e _ ⟨rfl, rfl⟩)
            | (go_at_call 80; refine (hBk.out _).mono ?_; clear hBk; rintro e _ ⟨rfl, rfl⟩))
          go_roundw
          case rel => exact ⟨k + 1, by omega, by rw [← hacc.out] <;> rfl, by go_num, trivial⟩
          case measure => simp [intOf]; omega
end Go.Proofs.Qxb6500328aGreat
