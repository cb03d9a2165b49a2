import Derived.Test.Qxb6500326aGreatGMem
namespace Go.Proofs.Qxb6500326aGreat.Gr
set_option linter.unusedVariables false
set_option linter.unusedSimpArgs false

/-- All cells. -/
abbrev All : BitVec 32 := 16777215#32
/-- What is no cell. -/
abbrev Out : BitVec 32 := 4278190080#32
/-- The set of c alone. -/
def bit (c : Nat) : BitVec 32 := 1#32 <<< c
/-- s, and of the first k cells those of which p holds. -/
def accTo (p : Nat → Bool) (s : BitVec 32) : Nat → BitVec 32
  | 0 => s
  | k + 1 => if p k then accTo p s k ||| bit k else accTo p s k

/-! ### graphm.rounds -/
/-- c, of level l, becomes sound in a round at whose start s was sound. -/
def ripens (R : Nat → BitVec 32) (l : Nat → Int) (s : BitVec 32) (c : Nat) : Bool := decide (l c < 0) && (R c &&& ~~~s == 0#32)
/-- The level of c after r rounds; the cells that are sound then. -/
def lvs (R : Nat → BitVec 32) : Nat → (Nat → Int) × BitVec 32
  | 0 => (fun _ => -1, 0#32)
  | r + 1 => (fun c => if ripens R (lvs R r).1 (lvs R r).2 c then r else (lvs R r).1 c, accTo (ripens R (lvs R r).1 (lvs R r).2) (lvs R r).2 24)
def lvTo (R : Nat → BitVec 32) (r k : Nat) (c : Nat) : Int := if c < k then (lvs R (r + 1)).1 c else (lvs R r).1 c
/-! ### graphm.Hang, graphlaw.Under -/
def hangTo (R : Nat → BitVec 32) (s : BitVec 32) : Nat → BitVec 32
  | 0 => s
  | k + 1 => if R k &&& hangTo R s k != 0#32 then hangTo R s k ||| bit k else hangTo R s k
def hangs (R : Nat → BitVec 32) (s : BitVec 32) : Nat → BitVec 32
  | 0 => s
  | n + 1 => hangTo R (hangs R s n) 24
/-- Hang(s). -/
def hang (R : Nat → BitVec 32) (s : BitVec 32) : BitVec 32 := hangs R (s &&& All) 24
def underTo (R : Nat → BitVec 32) (s : BitVec 32) : Nat → BitVec 32
  | 0 => s
  | k + 1 => if (underTo R s k).getLsbD k then underTo R s k ||| R k else underTo R s k
def unders (R : Nat → BitVec 32) (s : BitVec 32) : Nat → BitVec 32
  | 0 => s
  | n + 1 => underTo R (unders R s n) 24
/-- Under(c). -/
def under (R : Nat → BitVec 32) (c : Nat) : BitVec 32 := unders R (bit c) 24
/-- Level(c); Cyclic(). -/
def lev (R : Nat → BitVec 32) (c : Nat) : Int := (lvs R 24).1 c
def cyc (R : Nat → BitVec 32) : BitVec 32 := accTo (fun c => decide (lev R c < 0)) 0#32 24
/-! ### graphm.Order -/
def ordRow (R : Nat → BitVec 32) (s : BitVec 32) (q : Nat) : Nat → List Nat
  | 0 => []
  | k + 1 => if lev R k == (q : Int) && (s &&& bit k != 0#32) then ordRow R s q k ++ [k] else ordRow R s q k
def ordTo (R : Nat → BitVec 32) (s : BitVec 32) : Nat → List Nat
  | 0 => []
  | q + 1 => ordTo R s q ++ ordRow R s q 24
/-- Order(s). -/
def ord (R : Nat → BitVec 32) (s : BitVec 32) : List Nat := ordTo R s 24
/-- The set of the first i of a list. -/
def seenTo (L : List Nat) : Nat → BitVec 32
  | 0 => 0#32
  | i + 1 => seenTo L i ||| bit (nth L i)
/-- One more than the highest level among the first k cells that lie in r. -/
def topTo (l : Nat → Int) (r : BitVec 32) : Nat → Int
  | 0 => 0
  | d + 1 => if r.getLsbD d && decide (topTo l r d ≤ l d) then l d + 1 else topTo l r d
/-- Which calls of Set are answered with OK. -/
def good (c : Int) (s : BitVec 32) : Prop := 0 ≤ c ∧ c < 24 ∧ s &&& Out = 0#32
theorem ordRow_len (R : Nat → BitVec 32) (s : BitVec 32) (q k : Nat) : (ordRow R s q k).length ≤ k := by
  induction k with
  | zero => simp [ordRow]
  | succ k ih =>
    unfold ordRow
    split
    · simp; omega
    · omega
theorem ordTo_len (R : Nat → BitVec 32) (s : BitVec 32) (q : Nat) : (ordTo R s q).length ≤ 24 * q := by
  induction q with
  | zero => simp [ordTo]
  | succ q ih => have := ordRow_len R s q 24; simp [ordTo]; omega
/-! ### what the law holds of the model -/
def HungLaw (R : Nat → BitVec 32) (s : BitVec 32) : Prop :=
  (∀ c, c < 24 → (hang R s &&& bit c != 0#32) = (under R c &&& s != 0#32)) ∧ hang R s &&& Out = 0#32
def LevLaw (R : Nat → BitVec 32) : Prop :=
  (∀ c, c < 24 → -1 ≤ lev R c ∧ lev R c < 24) ∧ (∀ c, c < 24 → (cyc R &&& bit c != 0#32) = (lev R c == -1)) ∧ (∀ c, c < 24 → lev R c ≠ -1 → lev R c = topTo (lev R) (R c) 24)
def SortLawL (R : Nat → BitVec 32) (s : BitVec 32) (L : List Nat) : Prop :=
  (∀ i, i < L.length → nth L i < 24) ∧
  (∀ i, i + 1 < L.length → lev R (nth L i) < lev R (nth L (i + 1)) ∨ (lev R (nth L i) = lev R (nth L (i + 1)) ∧ nth L i < nth L (i + 1))) ∧
  seenTo L L.length = s &&& All &&& ~~~cyc R
def SortLaw (R : Nat → BitVec 32) (s : BitVec 32) : Prop := SortLawL R s (ord R s)
def KeepLawL (R : Nat → BitVec 32) (L : List Nat) : Prop :=
  (∀ i, i < L.length → nth L i < 24 ∧ R (nth L i) &&& ~~~seenTo L i = 0#32 ∧ seenTo L i &&& bit (nth L i) = 0#32) ∧
  seenTo L L.length &&& cyc R = 0#32 ∧ seenTo L L.length ||| cyc R = All ∧
  (∀ c, c < 24 → cyc R &&& bit c ≠ 0#32 → R c &&& cyc R ≠ 0#32)
def KeepLaw (R : Nat → BitVec 32) : Prop := KeepLawL R (ord R All)
theorem lvTo_at (R : Nat → BitVec 32) (r k : Nat) : lvTo R r k k = (lvs R r).1 k := by simp [lvTo]
theorem lvTo_zero (R : Nat → BitVec 32) (r c : Nat) : lvTo R r 0 c = (lvs R r).1 c := by simp [lvTo]
theorem lvTo_full (R : Nat → BitVec 32) (r c : Nat) (h : c < 24) : lvTo R r 24 c = (lvs R (r + 1)).1 c := by simp [lvTo, h]
theorem lvTo_yes (R : Nat → BitVec 32) (r k : Nat) (h1 : (lvs R r).1 k < 0) (h2 : (R k &&& ~~~(lvs R r).2 == 0#32) = true) :
    (∀ c, lvTo R r (k + 1) c = if c = k then (r : Int) else lvTo R r k c) ∧ accTo (ripens R (lvs R r).1 (lvs R r).2) (lvs R r).2 (k + 1) = accTo (ripens R (lvs R r).1 (lvs R r).2) (lvs R r).2 k ||| bit k := by
  have hr : ripens R (lvs R r).1 (lvs R r).2 k = true := by simp only [ripens, h2, Bool.and_true, decide_eq_true_eq]; exact h1
  refine ⟨fun c => ?_, by simp only [accTo, hr, if_true]⟩
  unfold lvTo
  by_cases e : c = k
  · subst e
    rw [if_pos (by omega), if_pos rfl]
    simp only [lvs, hr, if_true]
  · rw [if_neg e]
    by_cases e2 : c < k
    · rw [if_pos (by omega), if_pos e2]
    · rw [if_neg (by omega), if_neg e2]
theorem lvTo_no (R : Nat → BitVec 32) (r k : Nat) (h : ripens R (lvs R r).1 (lvs R r).2 k = false) :
    (∀ c, lvTo R r (k + 1) c = lvTo R r k c) ∧ accTo (ripens R (lvs R r).1 (lvs R r).2) (lvs R r).2 (k + 1) = accTo (ripens R (lvs R r).1 (lvs R r).2) (lvs R r).2 k := by
  refine ⟨fun c => ?_, by simp [accTo, h]⟩
  unfold lvTo
  by_cases e : c = k
  · subst e
    rw [if_pos (by omega), if_neg (by omega)]
    simp [lvs, h]
  · by_cases e2 : c < k
    · rw [if_pos (by omega), if_pos e2]
    · rw [if_neg (by omega), if_neg e2]
end Go.Proofs.Qxb6500326aGreat.Gr
