/-
  DERIVED. THE PLAIN LAW OF LAYER edit, 9: a range behind an insert.
-/
import Derived.Test.Qxb6500326aGreatS8
namespace Go.Proofs.Qxb6500326aGreat
set_option linter.unusedVariables false
set_option linter.unusedSimpArgs false

def st (f : Int) (S : BitVec 32) (env : Nat → Vl) (s : Fd) (c : Nat) : Fd := if S.getLsbD c = true then takeM s f (env c) true else s
theorem sweep_fold (f : Int) (S : BitVec 32) (env : Nat → Vl) : ∀ (k c : Nat) (s : Fd), sweepM f S env c k s = (List.range' c k).foldl (st f S env) s
  | 0, c, s => rfl
  | k + 1, c, s => by
    unfold sweepM
    rw [sweep_fold f S env k (c + 1), List.range'_succ, List.foldl_cons]
    rfl
theorem take_none {f : Int} (h6 : f ≠ 6) (h7 : f ≠ 7) (s : Fd) : takeM s f v0 true = s := by
  unfold takeM
  split
  · rfl
  · rw [if_neg (by decide), if_neg (by simp [h6, h7]), if_pos (by decide)]
/-- The cells behind an insert, in order, and where they come from. -/
def srcs (rows : Bool) (at_ : Int) : List Nat := (List.range' 0 24).filterMap (fun c : Nat => if lineOf rows (c : Int) = at_ then none else some (fromP rows true at_ (c : Int)).toNat)
def kept (rows : Bool) : List Nat := (List.range' 0 24).filter (fun c : Nat => decide (lineOf rows (c : Int) ≠ nAx rows - 1))
theorem srcs_kept {rows : Bool} {at_ : Int} (h0 : 0 ≤ at_) (h1 : at_ < nAx rows) : srcs rows at_ = kept rows := by
  cases rows
  · have h1 : at_ < 4 := h1
    have : at_ = 0 ∨ at_ = 1 ∨ at_ = 2 ∨ at_ = 3 := by omega
    rcases this with e | e | e | e <;> subst e <;> decide +kernel
  · have h1 : at_ < 6 := h1
    have : at_ = 0 ∨ at_ = 1 ∨ at_ = 2 ∨ at_ = 3 ∨ at_ = 4 ∨ at_ = 5 := by omega
    rcases this with e | e | e | e | e | e <;> subst e <;> decide +kernel
theorem foldl_filterMap {α β γ : Type} (g : α → Option β) (u : γ → α → γ) (v : γ → β → γ) : ∀ (l : List α) (s : γ), (∀ a ∈ l, ∀ s, match g a with | none => u s a = s | some b => u s a = v s b) → l.foldl u s = (l.filterMap g).foldl v s
  | [], s, _ => rfl
  | a :: l, s, h => by
    have ha := h a (by simp) s
    rw [List.foldl_cons, List.filterMap_cons]
    cases hg : g a with
    | none => rw [hg] at ha; simp only at ha ⊢; rw [ha]; exact foldl_filterMap g u v l s (fun b hb => h b (by simp [hb]))
    | some b => rw [hg] at ha; simp only at ha ⊢; rw [ha, List.foldl_cons]; exact foldl_filterMap g u v l _ (fun b hb => h b (by simp [hb]))
theorem foldl_filter {α γ : Type} (p : α → Bool) (u : γ → α → γ) : ∀ (l : List α) (s : γ), (∀ a ∈ l, p a = false → ∀ s, u s a = s) → l.foldl u s = (l.filter p).foldl u s
  | [], s, _ => rfl
  | a :: l, s, h => by
    rw [List.foldl_cons]
    cases hp : p a
    · rw [List.filter_cons_of_neg (by simp [hp]), h a (by simp) hp s]; exact foldl_filter p u l s (fun b hb => h b (by simp [hb]))
    · rw [List.filter_cons_of_pos hp, List.foldl_cons]; exact foldl_filter p u l _ (fun b hb => h b (by simp [hb]))
/-- A range behind an insert: the cells of the new line show nothing, the others what stood there; the last line was read by nobody. -/
theorem sweep_insert {rows : Bool} {at_ : Int} (h0 : 0 ≤ at_) (h1 : at_ < nAx rows) {S S' : BitVec 32} {env env' : Nat → Vl} {f : Int} (h6 : f ≠ 6) (h7 : f ≠ 7)
    (hnew : ∀ c : Nat, c < 24 → lineOf rows (c : Int) = at_ → env' c = v0)
    (hS : ∀ c : Nat, c < 24 → lineOf rows (c : Int) ≠ at_ → S'.getLsbD c = S.getLsbD (fromP rows true at_ c).toNat ∧ env' c = env (fromP rows true at_ c).toNat)
    (hlast : ∀ c : Nat, c < 24 → lineOf rows (c : Int) = nAx rows - 1 → S.getLsbD c = false) (s : Fd) : sweepM f S' env' 0 24 s = sweepM f S env 0 24 s := by
  rw [sweep_fold, sweep_fold]
  rw [foldl_filterMap (fun c : Nat => if lineOf rows (c : Int) = at_ then none else some (fromP rows true at_ c).toNat) (st f S' env') (st f S env) (List.range' 0 24) s]
  · rw [foldl_filter (fun c : Nat => decide (lineOf rows (c : Int) ≠ nAx rows - 1)) (st f S env) (List.range' 0 24) s]
    · show (srcs rows at_).foldl _ s = (kept rows).foldl _ s
      rw [srcs_kept h0 h1]
    · intro c hc hp s
      have hc24 : c < 24 := by simpa using hc
      unfold st
      rw [if_neg (by rw [hlast c hc24 (by simpa using hp)]; simp)]
  · intro c hc s
    have hc24 : c < 24 := by simpa using hc
    by_cases e : lineOf rows (c : Int) = at_
    · simp only [if_pos e]
      unfold st
      split
      · rw [hnew c hc24 e]; exact take_none h6 h7 s
      · rfl
    · simp only [if_neg e]
      obtain ⟨a1, a2⟩ := hS c hc24 e
      unfold st
      rw [a1, a2]
end Go.Proofs.Qxb6500326aGreat
