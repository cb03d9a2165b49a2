import Derived.Test.Qxb6500331aGreatE1
namespace Go.Proofs.Qxb6500331aGreat
set_option maxRecDepth 100000
set_option linter.unusedVariables false
set_option linter.unusedSimpArgs false
open Go.RowKit Go.PlainAid

set_option maxHeartbeats 2000000 in
theorem sameValue_refl (x : Vl) (w : World) : Calls Tryz.prog 24 #[vV x, vV x] w fun e w' => e = .returned (.bool true) ∧ Fr S0 w w' := by
  go_enter Tryz.func24, Tryz.ntmps24
  go_wp2
  all_goals go_ret
  all_goals exact ⟨by simp, ((Fr.refl _ _).alloc _).alloc _⟩
abbrev blV (b : Nat) : Value := .agg #[pt b]
set_option maxHeartbeats 2000000 in
theorem asked_any (b : Nat) (w : World) : Calls Tryz.prog 25 #[blV b] w fun e w' => e = .returned (.tuple #[I (-1), I (-1)]) ∧ Fr S0 w w' := by
  go_enter Tryz.func25, Tryz.ntmps25
  go_wp2
  go_ret2
  exact ⟨rfl, (Fr.refl _ _).alloc _⟩
set_option maxHeartbeats 2000000 in
theorem mark_any (b : Nat) (w : World) : Calls Tryz.prog 27 #[blV b] w fun e w' => e = .returned (.tuple #[]) ∧ Fr S0 w w' := by
  go_enter Tryz.func27, Tryz.ntmps27
  go_wp2
  go_end0
  exact ⟨rfl, (Fr.refl _ _).alloc _⟩
set_option maxHeartbeats 2000000 in
theorem asks_any (b : Nat) (n : Int) (s : ByteArray) (w : World) : Calls Tryz.prog 12 #[blV b, I n, .string s] w fun e w' => e = .returned (.bool true) ∧ Fr S0 w w' := by
  go_enter Tryz.func12, Tryz.ntmps12
  go_wp2_with (first | (go_at_call 25; refine (asked_any b _).mono ?_; rintro e w1 ⟨rfl, hf⟩))
  go_ret
  exact ⟨rfl, ((Fr.refl _ _).alloc _).trans hf⟩
set_option maxHeartbeats 2000000 in
theorem due_any (s : ByteArray) (e : Int) (w : World) : Calls Tryz.prog 34 #[.string s, I e] w fun e w' => (∃ d, e = .returned (I d)) ∧ w = w' := by
  cases he : (s.toList == [])
  · have hpos := size_pos he
    have hb := get_bt s 0 hpos
    go_enter Tryz.func34, Tryz.ntmps34
    go_wp2
    all_goals go_ret
    all_goals exact ⟨⟨_, rfl⟩, rfl⟩
  · obtain rfl : s = es := empty_es.1 (by simpa using he)
    clear he
    go_enter Tryz.func34, Tryz.ntmps34
    go_wp2
    all_goals go_ret
    all_goals exact ⟨⟨_, rfl⟩, rfl⟩
/-! ### The desk -/
def scb : ByteArray := ⟨#[115, 99, 114, 105, 98, 98, 108, 101, 100]⟩
def scr : Vl := ⟨-1, -1, scb⟩
/-- A kept list: nothing, or so many places of a block. -/
def oldV : Option (Nat × Nat) → Value
  | none => .slice none 0 0
  | some (g, n) => sl g n n
def oldN : Option (Nat × Nat) → Nat
  | none => 0
  | some (_, n) => n
def dkC (old : Nat → Option (Nat × Nat)) (N : Nat) : Nat → Value := fun i => if i < 8 then oldV (old i) else I N
structure DK (w : World) (d : Nat) (Z : Nat → Prop) : Prop where
  ex : ∃ old N, Row w d 9 (dkC old N) ∧ N < 8 ∧ ∀ i, i < 8 → ∀ g n, old i = some (g, n) → Z g ∧ g < w.heap.size ∧ n ≤ 100 ∧ EL w g n (fun _ => scr)
theorem DK.fr {w w' : World} {d : Nat} {Z S : Nat → Prop} (h : DK w d Z) (f : Fr S w w') (hd : ¬ S d) (hZ : ∀ k, Z k → ¬ S k) : DK w' d Z := by
  obtain ⟨old, N, h1, h2, h3⟩ := h.ex
  exact ⟨old, N, f.row h1 hd, h2, fun i hi g n e => by obtain ⟨a, b, c, k⟩ := h3 i hi g n e; exact ⟨a, Nat.lt_of_lt_of_le b f.size, c, k.of f (hZ g a)⟩⟩
theorem DK.fr0 {w w' : World} {d : Nat} {Z : Nat → Prop} (h : DK w d Z) (f : Fr S0 w w') : DK w' d Z := h.fr f (by simp) (fun _ _ => by simp)
theorem scr_ne : (scb.toList != scb.toList) = false := by simp
set_option maxHeartbeats 4000000 in
theorem scribbled_any (d : Nat) (Z : Nat → Prop) (w : World) (h : DK w d Z) : Calls Tryz.prog 29 #[pt d] w fun e w' => e = .returned (.bool true) ∧ w = w' := by
  obtain ⟨old, N, h1, h2, h3⟩ := h.ex
  have hl := h1.lt
  have h1 := Bx.mk h1
  have h3 := Bx.mk h3
  clear h
  go_enter Tryz.func29, Tryz.ntmps29
  go_wp2_with fail
  go_loopw [3] (fun i wr => ∃ k : Nat, k ≤ 8 ∧ i = I (k : Int) ∧ w = wr) (fun i _ => 8 - (intOf i).toNat)
  case atStart => exact ⟨0, by omega, rfl, rfl⟩
  case round =>
    obtain ⟨k, hk, rfl, rfl⟩ := hrel
    cases hlt : decide ((k : Int) < 8)
    · go_wp2
      go_ret
      exact ⟨rfl, rfl⟩
    · have hk8 : k < 8 := by simp at hlt; omega
      have ck := h1.out.cell k (by omega)
      simp only [dkC, if_pos hk8] at ck
      obtain ⟨o, ho⟩ : ∃ o, Bx (old k = o) := ⟨_, ⟨rfl⟩⟩
      rw [ho.out] at ck
      cases o with
      | none =>
        simp only [oldV] at ck
        go_wp2_with fail
        go_loopw [4] (fun j wr => j = I 0 ∧ w = wr) (fun _ _ => 0)
        case atStart => exact ⟨rfl, rfl⟩
        case round =>
          obtain ⟨rfl, rfl⟩ := hrel
          go_wp2
          go_roundw
          case rel => exact ⟨k + 1, by omega, rfl, trivial⟩
          case measure => simp [intOf]; omega
      | some p =>
        obtain ⟨g, n⟩ := p
        obtain ⟨-, hgl, hn100, hE⟩ := h3.out k hk8 g n ho.out
        have hE := Bx.mk hE
        simp only [oldV] at ck
        go_wp2_with fail
        go_loopw [4] (fun j wr => ∃ q : Nat, q ≤ n ∧ j = I (q : Int) ∧ w = wr) (fun j _ => n - (intOf j).toNat)
        case atStart => exact ⟨0, by omega, rfl, rfl⟩
        case round =>
          obtain ⟨q, hq, rfl, rfl⟩ := hrel
          by_cases hql : q < n
          · have hqd : decide ((q : Int) < n) = true := by simp; omega
            have g0 := hE.out.cell0 q hql (by omega)
            have g1 := hE.out.cell q 1 hql (by omega)
            have g2 := hE.out.cell q 2 hql (by omega)
            simp only [vC, scr, scb] at g0 g1 g2
            go_wp2
            go_roundw
            case rel => exact ⟨q + 1, by omega, rfl, trivial⟩
            case measure => simp [intOf]; omega
          · have hqd : decide ((q : Int) < n) = false := by simp; omega
            go_wp2
            go_roundw
            case rel => exact ⟨k + 1, by omega, rfl, trivial⟩
            case measure => simp [intOf]; omega
end Go.Proofs.Qxb6500331aGreat
