import Derived.Test.Qxb6500330aX4
import Derived.Test.Qxb6500330aW3
namespace Go.Proofs.Qxb6500330a
set_option linter.unusedVariables false
set_option linter.unusedSimpArgs false
open Go.RowKit
attribute [local go_sem] bv_and bv_or bv_andNot bv_and_all bv_andNot_all bv_all_andNot bv_eq_all bv_ne_all bv_pred bv_pred' bv_eq_zero bv_ne_zero bv_eq bv_ne bv_bit

/-! ### the law's desk -/
def dcells (lid fl : Int) (n : Nat) (olds : Nat → Value) (i : Nat) : Value := if i = 0 then I lid else if i = 1 then I fl else if i < 10 then olds (i - 2) else I (n : Nat)
def DK (w : World) (d : Nat) (lid fl : Int) (n : Nat) (olds : Nat → Value) : Prop := Row w d 11 (dcells lid fl n olds)
/-- List number k lies as it was stamped, between the blocks lo and hi. -/
def Kept (w : World) (lo hi : Nat) (v : Value) (k : Nat) : Prop :=
  v = .slice none 0 0 ∨ ∃ g len, v = sl g len len ∧ len ≤ 1000 ∧ lo ≤ g ∧ g < hi ∧ Row w g len (fun _ => I (-1 - (k : Int)))
def Ring (w : World) (lo hi n : Nat) (olds : Nat → Value) : Prop := ∀ k, k < n → n ≤ k + 8 → Kept w lo hi (olds (k % 8)) k
theorem Kept.fr {S : Nat → Prop} {w w' : World} {lo hi : Nat} {v : Value} {k : Nat} (h : Kept w lo hi v k) (f : Fr S w w') (hS : ∀ g, S g → ¬ (lo ≤ g ∧ g < hi)) : Kept w' lo hi v k := by
  rcases h with h | ⟨g, len, h1, h2, h3, h4, h5⟩
  · exact .inl h
  · exact .inr ⟨g, len, h1, h2, h3, h4, f.row h5 (fun hs => hS g hs ⟨h3, h4⟩)⟩
theorem Ring.fr {S : Nat → Prop} {w w' : World} {lo hi n : Nat} {olds : Nat → Value} (h : Ring w lo hi n olds) (f : Fr S w w') (hS : ∀ g, S g → ¬ (lo ≤ g ∧ g < hi)) : Ring w' lo hi n olds :=
  fun k h1 h2 => (h k h1 h2).fr f hS
theorem Ring.up {w : World} {lo hi hi' n : Nat} {olds : Nat → Value} (h : Ring w lo hi n olds) (hh : hi ≤ hi') : Ring w lo hi' n olds := by
  intro k h1 h2
  rcases h k h1 h2 with h | ⟨g, len, h1, h2, h3, h4, h5⟩
  · exact .inl h
  · exact .inr ⟨g, len, h1, h2, h3, by omega, h5⟩
/-- One list more. -/
theorem Ring.keep {w : World} {lo hi hi' n : Nat} {olds : Nat → Value} {v : Value} (h : Ring w lo hi n olds) (hh : hi ≤ hi') (hv : Kept w lo hi' v n) : Ring w lo hi' (n + 1) (upd olds (n % 8) v) := by
  intro k h1 h2
  by_cases e : k = n
  · subst e; rw [upd_same]; exact hv
  · rw [upd_other _ _ (by omega)]
    exact (h.up hh) k (by omega) (by omega)
theorem DK.n {w : World} {d : Nat} {lid fl : Int} {n : Nat} {olds : Nat → Value} (h : DK w d lid fl n olds) : w.cell? ⟨d, 10, none⟩ = some (I (n : Nat)) := h.cell 10 (by omega)
theorem DK.lid {w : World} {d : Nat} {lid fl : Int} {n : Nat} {olds : Nat → Value} (h : DK w d lid fl n olds) : w.cell? ⟨d, 0, none⟩ = some (I lid) := h.cell 0 (by omega)
theorem DK.fl {w : World} {d : Nat} {lid fl : Int} {n : Nat} {olds : Nat → Value} (h : DK w d lid fl n olds) : w.cell? ⟨d, 1, none⟩ = some (I fl) := h.cell 1 (by omega)
theorem DK.old {w : World} {d : Nat} {lid fl : Int} {n : Nat} {olds : Nat → Value} (h : DK w d lid fl n olds) (j : Nat) (hj : j < 8) : w.cell? ⟨d, 2 + j, none⟩ = some (olds j) := by
  have := Row.cell h (2 + j) (by omega)
  rw [this]
  unfold dcells
  rw [if_neg (by omega), if_neg (by omega), if_pos (by omega)]
  congr 2
  omega
theorem DK.setLid {w : World} {d : Nat} {lid fl : Int} {n : Nat} {olds : Nat → Value} (h : DK w d lid fl n olds) (v : Int) : DK (w.setCell ⟨d, 0, none⟩ (I v)) d v fl n olds :=
  (Row.set h 0 (I v)).congr (fun i _ => by
    unfold upd dcells
    by_cases e : i = 0
    · simp [e]
    · simp [e])
theorem DK.setFl {w : World} {d : Nat} {lid fl : Int} {n : Nat} {olds : Nat → Value} (h : DK w d lid fl n olds) (v : Int) : DK (w.setCell ⟨d, 1, none⟩ (I v)) d lid v n olds :=
  (Row.set h 1 (I v)).congr (fun i _ => by
    unfold upd dcells
    by_cases e : i = 1
    · simp [e]
    · simp [e])
theorem DK.setN {w : World} {d : Nat} {lid fl : Int} {n : Nat} {olds : Nat → Value} (h : DK w d lid fl n olds) (m : Nat) : DK (w.setCell ⟨d, 10, none⟩ (I (m : Nat))) d lid fl m olds :=
  (Row.set h 10 (I (m : Nat))).congr (fun i hi => by
    unfold upd dcells
    by_cases e : i = 10
    · simp [e]
    · have : i < 10 := by omega
      simp [e, this])
theorem DK.setOld {w : World} {d : Nat} {lid fl : Int} {n : Nat} {olds : Nat → Value} (h : DK w d lid fl n olds) (j : Nat) (hj : j < 8) (v : Value) : DK (w.setCell ⟨d, 2 + j, none⟩ v) d lid fl n (upd olds j v) :=
  (Row.set h (2 + j) v).congr (fun i hi => by
    unfold upd dcells
    by_cases e : i = 2 + j
    · have e0 : ¬ i = 0 := by omega
      have e1 : ¬ i = 1 := by omega
      have e2 : i < 10 := by omega
      have e3 : i - 2 = j := by omega
      simp only [e, if_true]
      subst e
      simp only [e0, e1, e2, e3, if_true, if_false]
    · rw [if_neg e]
      by_cases e0 : i = 0
      · simp [e0]
      · by_cases e1 : i = 1
        · simp [e1]
        · by_cases e2 : i < 10
          · have e3 : ¬ i - 2 = j := by omega
            simp only [e0, e1, e2, e3, if_true, if_false]
          · simp only [e0, e1, e2, if_false])
set_option maxRecDepth 100000 in
set_option maxHeartbeats 1000000 in
theorem untouched_any (d lo hi : Nat) (lid fl : Int) (n : Nat) (olds : Nat → Value) (w : World) (hd : DK w d lid fl n olds) (hr : Ring w lo hi n olds) (hn : n ≤ 1152921504606846976) :
    Calls Try.prog 47 #[pt d] w fun e w' => e = .returned (.bool true) ∧ w = w' := by
  have g := hd.n
  have HO := Bx.mk hd.old
  have HR := Bx.mk hr
  clear hd hr
  go_enter Try.func47, Try.ntmps47
  go_wp2
  go_loop [3, 4, 5, 6] (fun i _ _ _ => ∃ k : Nat, k ≤ 8 ∧ i = .int .i64 k) (fun i _ _ _ => 8 - (intOf i).toNat)
  case atStart => exact ⟨0, by omega, rfl⟩
  case round =>
    obtain ⟨i, hi8, rfl⟩ := hrel
    by_cases hl8 : i < 8
    · have h8d : decide ((i : Int) < 8) = true := by simp; omega
      by_cases hln : i < n
      · have hnd : decide ((i : Int) < (n : Int)) = true := by simp; omega
        obtain ⟨k, hk⟩ : ∃ k : Nat, k + i + 1 = n := ⟨n - 1 - i, by omega⟩
        have hkept := HR.out k (by omega) (by omega)
        have go := HO.out (k % 8) (Nat.mod_lt _ (by omega))
        have e1 : (n : Int) - 1 - (i : Int) = (k : Int) := by omega
        have hkb : (k : Int) ≤ 1152921504606846976 := by omega
        clear hk
        rcases hkept with hv | ⟨g, len, hv, hlen, -, -, hrow⟩
        · rw [hv] at go
          clear hv
          go_wp2
          go_loop [6] (fun j => j = .int .i64 0) (fun _ => 0)
          case atStart => exact rfl
          case round =>
            subst hrel
            go_wp2
            go_round
            case rel => exact ⟨i + 1, by omega, by go_num⟩
            case measure => simp [intOf]; omega
        · rw [hv] at go
          have HRW := Bx.mk hrow.cell
          clear hv hrow
          go_wp2
          go_loop [6] (fun j => ∃ m : Nat, m ≤ len ∧ j = .int .i64 m) (fun j => len - (intOf j).toNat)
          case atStart => exact ⟨0, by omega, rfl⟩
          case round =>
            obtain ⟨m, hm, rfl⟩ := hrel
            by_cases hlm : m < len
            · have gm := HRW.out m hlm
              go_wp2
              go_round
              case rel => exact ⟨m + 1, by omega, by go_num⟩
              case measure => simp [intOf]; omega
            · go_wp2
              go_round
              case rel => exact ⟨i + 1, by omega, by go_num⟩
              case measure => simp [intOf]; omega
      · have hnd : decide ((i : Int) < (n : Int)) = false := by simp; omega
        go_wp2
        go_ret
        exact ⟨rfl, rfl⟩
    · have h8d : decide ((i : Int) < 8) = false := by simp; omega
      go_wp2
      go_ret
      exact ⟨rfl, rfl⟩
end Go.Proofs.Qxb6500330a
