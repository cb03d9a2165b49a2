/-
  DERIVED. THE PLAIN LAW OF LAYER edit, 4: what a turned text reads.
-/
import Derived.Test.Qxb6500326aGreatS3
namespace Go.Proofs.Qxb6500326aGreat
set_option linter.unusedVariables false
set_option linter.unusedSimpArgs false

theorem mem_bitN {c i : Nat} (hc : c < 32) : (bit c).getLsbD i = decide (i = c) := by
  unfold bit
  rw [BitVec.getLsbD_shiftLeft]
  by_cases h : i < 32 <;> by_cases h2 : i = c <;> simp [h, h2] <;> omega
theorem mem_row {r : Int} (h0 : 0 ≤ r) : ∀ (k : Nat) (c0 : Int) (s : BitVec 32) (i : Nat), 0 ≤ c0 → r * 4 + c0 + k ≤ 32 → (rowSet r c0 k s).getLsbD i = (s.getLsbD i || decide (r * 4 + c0 ≤ (i : Int) ∧ (i : Int) < r * 4 + c0 + k))
  | 0, c0, s, i, _, _ => by
    unfold rowSet
    rw [show decide (r * 4 + c0 ≤ (i : Int) ∧ (i : Int) < r * 4 + c0 + (0 : Nat)) = false from decide_eq_false (by omega), Bool.or_false]
  | k + 1, c0, s, i, hc, hk => by
    unfold rowSet
    rw [mem_row h0 k (c0 + 1) _ i (by omega) (by omega), BitVec.getLsbD_or, mem_bitN (by omega), Bool.or_assoc]
    congr 1
    rw [Bool.eq_iff_iff]
    simp only [Bool.or_eq_true, decide_eq_true_eq]
    omega
theorem mem_rect {c0 c1 : Int} (h0 : 0 ≤ c0) (h1 : c1 ≤ 3) (h2 : c0 ≤ c1) : ∀ (k : Nat) (r0 : Int) (s : BitVec 32) (i : Nat), 0 ≤ r0 → r0 + k ≤ 6 →
    (rectSet c0 c1 r0 k s).getLsbD i = (s.getLsbD i || decide ((r0 ≤ (i : Int) / 4 ∧ (i : Int) / 4 < r0 + k) ∧ c0 ≤ (i : Int) % 4 ∧ (i : Int) % 4 ≤ c1))
  | 0, r0, s, i, _, _ => by
    unfold rectSet
    rw [show decide ((r0 ≤ (i : Int) / 4 ∧ (i : Int) / 4 < r0 + (0 : Nat)) ∧ c0 ≤ (i : Int) % 4 ∧ (i : Int) % 4 ≤ c1) = false from decide_eq_false (by omega), Bool.or_false]
  | k + 1, r0, s, i, hr, hk => by
    unfold rectSet
    rw [mem_rect h0 h1 h2 k (r0 + 1) _ i (by omega) (by omega), mem_row hr _ _ _ _ h0 (by omega), Bool.or_assoc]
    congr 1
    rw [Bool.eq_iff_iff]
    simp only [Bool.or_eq_true, decide_eq_true_eq]
    omega
/-- The cells of a rectangle. -/
theorem mem_block {a b : Ref} (h : blockOK a b = true) (i : Nat) : (blockS a b).getLsbD i = true ↔ (lesser a.row b.row ≤ (i : Int) / 4 ∧ (i : Int) / 4 ≤ greater a.row b.row) ∧ lesser a.col b.col ≤ (i : Int) % 4 ∧ (i : Int) % 4 ≤ greater a.col b.col := by
  have hg : inGrid a = true ∧ inGrid b = true := by simpa [blockOK] using h
  have ha := inGrid_iff.1 hg.1
  have hb := inGrid_iff.1 hg.2
  have e1 : 0 ≤ lesser a.row b.row ∧ lesser a.row b.row ≤ greater a.row b.row ∧ greater a.row b.row ≤ 5 := by
    unfold lesser greater; by_cases hq : b.row < a.row <;> simp [hq] <;> omega
  have e2 : 0 ≤ lesser a.col b.col ∧ lesser a.col b.col ≤ greater a.col b.col ∧ greater a.col b.col ≤ 3 := by
    unfold lesser greater; by_cases hq : b.col < a.col <;> simp [hq] <;> omega
  unfold blockS
  rw [if_pos h, mem_rect e2.1 e2.2.2 e2.2.1 _ _ _ _ e1.1 (by omega)]
  simp only [BitVec.getLsbD_zero, Bool.false_or, decide_eq_true_eq]
  omega
/-- The cells that a node reads, by the lines of the axis. -/
theorem mem_ref {r : Ref} (h : inGrid r = true) (i : Nat) : (rdN (nRef r)).getLsbD i = true ↔ (i : Int) / 4 = r.row ∧ (i : Int) % 4 = r.col := by
  have hg := inGrid_iff.1 h
  have e : rdN (nRef r) = bit (cellOf r).toNat := by
    unfold rdN
    rw [if_pos (by rfl), if_pos (show inGrid (nRef r).r1 = true from h)]; rfl
  have hc := cellOf_bd h
  rw [e, mem_bitN (by omega), decide_eq_true_eq]
  unfold cellOf at hc ⊢
  omega
theorem mem_range {r s : Ref} (h : blockOK r s = true) (i : Nat) : (rdN (nRange r s)).getLsbD i = true ↔ (lesser r.row s.row ≤ (i : Int) / 4 ∧ (i : Int) / 4 ≤ greater r.row s.row) ∧ lesser r.col s.col ≤ (i : Int) % 4 ∧ (i : Int) % 4 ≤ greater r.col s.col := by
  have e : rdN (nRange r s) = blockS r s := by
    unfold rdN
    rw [if_neg (by show ¬ ((4 : Int) == 3) = true; decide), if_pos (by rfl)]; rfl
  rw [e]
  exact mem_block h i
theorem rd_out {r : Ref} (h : inGrid r = false) : rdN (nRef r) = 0#32 := by
  unfold rdN; rw [if_pos (by rfl), if_neg (by rw [show (nRef r).r1 = r from rfl, h]; simp)]
theorem rd_rout {r s : Ref} (h : blockOK r s = false) : rdN (nRange r s) = 0#32 := by
  unfold rdN
  rw [if_neg (by show ¬ ((4 : Int) == 3) = true; decide), if_pos (by rfl)]
  show blockS r s = _
  unfold blockS; rw [if_neg (by rw [h]; simp)]
theorem rd_other {x : Nd} (h3 : x.kind ≠ 3) (h4 : x.kind ≠ 4) : rdN x = 0#32 := by
  unfold rdN
  rw [if_neg (by simpa using h3), if_neg (by simpa using h4)]
/-! ### where a cell's content comes from -/
/-- The line that a line takes from; -1: none. -/
def fromL (n at_ : Int) (ins : Bool) (x : Int) : Int :=
  if ins = true then (if x = at_ then -1 else if at_ < x then x - 1 else x) else if n ≤ (if at_ ≤ x then x + 1 else x) then -1 else (if at_ ≤ x then x + 1 else x)
def fromP (rows ins : Bool) (at_ : Int) (c : Int) : Int :=
  if fromL (nAx rows) at_ ins (if rows = true then c / 4 else c % 4) < 0 then -1
  else if rows = true then fromL (nAx rows) at_ ins (c / 4) * 4 + c % 4 else c / 4 * 4 + fromL (nAx rows) at_ ins (c % 4)
theorem fromP_bd {rows ins : Bool} {at_ c : Int} (h0 : 0 ≤ c) (h1 : c < 24) (ha : 0 ≤ at_) (han : at_ < nAx rows) (h : 0 ≤ fromP rows ins at_ c) :
    fromP rows ins at_ c < 24 ∧ fromP rows ins at_ c / 4 = (if rows = true then fromL (nAx rows) at_ ins (c / 4) else c / 4) ∧ fromP rows ins at_ c % 4 = (if rows = true then c % 4 else fromL (nAx rows) at_ ins (c % 4)) ∧ 0 ≤ fromL (nAx rows) at_ ins (if rows = true then c / 4 else c % 4) := by
  by_cases hl : fromL (nAx rows) at_ ins (if rows = true then c / 4 else c % 4) < 0
  · unfold fromP at h; rw [if_pos hl] at h; omega
  · have hu : fromP rows ins at_ c = if rows = true then fromL (nAx rows) at_ ins (c / 4) * 4 + c % 4 else c / 4 * 4 + fromL (nAx rows) at_ ins (c % 4) := by unfold fromP; rw [if_neg hl]
    have hb : ∀ n x : Int, 0 ≤ x → x < n → at_ < n → fromL n at_ ins x < n := by
      intro n x h0 h1 h2
      unfold fromL
      cases ins <;> simp <;> (repeat' split) <;> omega
    cases rows
    · simp only [Bool.false_eq_true, if_false] at hu hl ⊢
      have hv := hb (nAx false) (c % 4) (by omega) (by show c % 4 < 4; omega) han
      rw [hu]
      generalize fromL (nAx false) at_ ins (c % 4) = v at hv hl ⊢
      have e : nAx false = 4 := rfl
      omega
    · simp only [if_true] at hu hl ⊢
      have hv := hb (nAx true) (c / 4) (by omega) (by show c / 4 < 6; omega) han
      rw [hu]
      generalize fromL (nAx true) at_ ins (c / 4) = v at hv hl ⊢
      have e : nAx true = 6 := rfl
      omega
/-! ### the reading goes with the cells -/
/-- A line of the new grid lies in a moved interval iff the line that it takes from lay in the interval; but for the new line. -/
theorem stretch_from {lo hi n at_ x : Int} {ins : Bool} (h0 : 0 ≤ lo) (hl : lo ≤ hi) (hn : hi < n) (ha : 0 ≤ at_) (han : at_ < n) (hx : 0 ≤ x) (hxn : x < n) (hnew : ¬ (ins = true ∧ x = at_)) :
    (0 ≤ (stretchP lo hi n at_ ins).1 ∧ (stretchP lo hi n at_ ins).1 ≤ x ∧ x ≤ (stretchP lo hi n at_ ins).2) ↔ (0 ≤ fromL n at_ ins x ∧ lo ≤ fromL n at_ ins x ∧ fromL n at_ ins x ≤ hi) := by
  unfold stretchP fromL
  cases ins
  · simp
    by_cases c1 : lo = at_ ∧ hi = at_
    · rw [if_pos c1]; simp; (repeat' split) <;> omega
    · rw [if_neg c1]; simp; (repeat' split) <;> omega
  · simp at hnew ⊢
    (repeat' split) <;> simp <;> omega
theorem point_from {y n at_ x : Int} {ins : Bool} (h0 : 0 ≤ y) (hn : y < n) (ha : 0 ≤ at_) (han : at_ < n) (hx : 0 ≤ x) (hxn : x < n) :
    (0 ≤ pointP y n at_ ins ∧ x = pointP y n at_ ins) ↔ (0 ≤ fromL n at_ ins x ∧ fromL n at_ ins x = y) := by
  unfold pointP fromL
  cases ins <;> simp <;> (repeat' split) <;> omega
end Go.Proofs.Qxb6500326aGreat
