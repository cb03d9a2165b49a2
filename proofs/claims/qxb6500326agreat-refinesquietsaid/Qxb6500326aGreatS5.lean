/-
  DERIVED. THE PLAIN LAW OF LAYER edit, 5: the reading goes with the cells.
-/
import Derived.Test.Qxb6500326aGreatS4
namespace Go.Proofs.Qxb6500326aGreat
set_option linter.unusedVariables false
set_option linter.unusedSimpArgs false

/-- The line of a cell along the axis. -/
def lineOf (rows : Bool) (c : Int) : Int := if rows = true then c / 4 else c % 4
section
variable {rows ins : Bool} {at_ : Int}
theorem from_lines (ha : 0 ≤ at_) (han : at_ < nAx rows) {c : Nat} (hc : c < 24) :
    (0 ≤ fromP rows ins at_ c ↔ 0 ≤ fromL (nAx rows) at_ ins (lineOf rows c)) ∧
    (0 ≤ fromP rows ins at_ c → (fromP rows ins at_ c).toNat < 24 ∧ lineOf rows ((fromP rows ins at_ c).toNat : Int) = fromL (nAx rows) at_ ins (lineOf rows c) ∧ lineOf (!rows) ((fromP rows ins at_ c).toNat : Int) = lineOf (!rows) c) := by
  constructor
  · constructor
    · intro h
      exact (fromP_bd (by omega) (by omega) ha han h).2.2.2
    · intro h
      have h' : 0 ≤ fromL (nAx rows) at_ ins (if rows = true then (c : Int) / 4 else (c : Int) % 4) := h
      unfold fromP
      rw [if_neg (by omega)]
      cases rows
      · simp at h' ⊢; omega
      · simp at h' ⊢; omega
  · intro h
    obtain ⟨h1, h2, h3, h4⟩ := fromP_bd (by omega) (by omega) ha han h
    have e : ((fromP rows ins at_ c).toNat : Int) = fromP rows ins at_ c := by omega
    refine ⟨by omega, ?_, ?_⟩
    · rw [e]
      unfold lineOf
      cases rows
      · simp at h3 ⊢; exact h3
      · simp at h2 ⊢; exact h2
    · rw [e]
      unfold lineOf
      cases rows
      · simp at h2 ⊢; exact h2
      · simp at h3 ⊢; exact h3
theorem line_bd {c : Nat} (hc : c < 24) : 0 ≤ lineOf rows (c : Int) ∧ lineOf rows (c : Int) < nAx rows := by
  cases rows <;> simp [lineOf, nAx] <;> omega
/-- A single reference, by lines. -/
theorem mem_ref_ax {r : Ref} (h : inGrid r = true) (rows : Bool) (i : Nat) : (rdN (nRef r)).getLsbD i = true ↔ lineOf rows (i : Int) = ax rows r ∧ lineOf (!rows) (i : Int) = ax (!rows) r := by
  rw [mem_ref h]
  cases rows <;> simp [lineOf, ax] <;> omega
theorem mem_range_ax {r s : Ref} (h : blockOK r s = true) (rows : Bool) (i : Nat) : (rdN (nRange r s)).getLsbD i = true ↔
    (lesser (ax rows r) (ax rows s) ≤ lineOf rows (i : Int) ∧ lineOf rows (i : Int) ≤ greater (ax rows r) (ax rows s)) ∧ lesser (ax (!rows) r) (ax (!rows) s) ≤ lineOf (!rows) (i : Int) ∧ lineOf (!rows) (i : Int) ≤ greater (ax (!rows) r) (ax (!rows) s) := by
  rw [mem_range h]
  cases rows <;> simp [lineOf, ax] <;> constructor <;> intro h <;> omega
theorem setAx_ax (r : Ref) (v : Int) : ax rows (setAx rows r v) = v ∧ ax (!rows) (setAx rows r v) = ax (!rows) r := by
  cases rows <;> exact ⟨rfl, rfl⟩
theorem lesser_le (a b : Int) : lesser a b ≤ greater a b := by
  unfold lesser greater; simp only [decide_eq_true_eq]; split <;> omega
theorem lg_in {rows : Bool} {r s : Ref} (hr : inGrid r = true) (hs : inGrid s = true) : 0 ≤ lesser (ax rows r) (ax rows s) ∧ greater (ax rows r) (ax rows s) < nAx rows := by
  have h1 := ax_in (rows := rows) hr
  have h2 := ax_in (rows := rows) hs
  unfold lesser greater
  simp only [decide_eq_true_eq]
  constructor <;> split <;> omega
/-- What a moved node reads, but for the new line: the images of what it read. -/
theorem read_move (ha : 0 ≤ at_) (han : at_ < nAx rows) {x : Nd} (hx : NdRef x) {c : Nat} (hc : c < 24) (hnew : ¬ (ins = true ∧ lineOf rows (c : Int) = at_)) :
    (rdN (moveN rows ins at_ x)).getLsbD c = true ↔ 0 ≤ fromP rows ins at_ c ∧ (rdN x).getLsbD (fromP rows ins at_ c).toNat = true := by
  obtain ⟨f1, f2⟩ := from_lines (rows := rows) (ins := ins) ha han hc
  obtain ⟨l0, l1⟩ := line_bd (rows := rows) hc
  rcases hx with ⟨r, rfl, hr⟩ | ⟨r, s, rfl, hr, hs⟩ | ⟨h3, h4, -, -⟩
  · cases hg : inGrid r
    · rw [moveN_out hg, rd_out hg]; simp
    · obtain ⟨a0, a1⟩ := ax_in (rows := rows) hg
      have hpf := point_from (ins := ins) (x := lineOf rows (c : Int)) a0 a1 ha han l0 l1
      rcases moveN_ref (ins := ins) ha han hg with ⟨hp, e⟩ | ⟨hp, e, h⟩
      · rw [e, rd_other (by decide) (by decide)]
        simp only [BitVec.getLsbD_zero, Bool.false_eq_true, false_iff, not_and]
        intro h0 hm
        obtain ⟨-, q1, -⟩ := f2 h0
        rw [mem_ref_ax hg rows, q1] at hm
        have := hpf.2 ⟨f1.1 h0, hm.1⟩
        omega
      · rw [e, mem_ref_ax h rows, (setAx_ax _ _).1, (setAx_ax _ _).2]
        constructor
        · rintro ⟨h1, h2⟩
          have := hpf.1 ⟨hp, h1⟩
          have h0 := f1.2 this.1
          obtain ⟨-, q1, q2⟩ := f2 h0
          exact ⟨h0, by rw [mem_ref_ax hg rows, q1, q2]; exact ⟨this.2, h2⟩⟩
        · rintro ⟨h0, hm⟩
          obtain ⟨-, q1, q2⟩ := f2 h0
          rw [mem_ref_ax hg rows, q1, q2] at hm
          exact ⟨(hpf.2 ⟨f1.1 h0, hm.1⟩).2, hm.2⟩
  · cases hg : blockOK r s
    · rw [moveN_rout hg, rd_rout hg]; simp
    · have hg2 : inGrid r = true ∧ inGrid s = true := by simpa [blockOK] using hg
      obtain ⟨lo, hi, elo, ehi, h⟩ := moveN_range (ins := ins) ha han hg
      have hlg := lg_in (rows := rows) hg2.1 hg2.2
      have hle := lesser_le (ax rows r) (ax rows s)
      rw [← elo, ← ehi] at hle
      rw [← elo, ← ehi] at hlg
      have hsf := stretch_from (ins := ins) (x := lineOf rows (c : Int)) hlg.1 hle hlg.2 ha han l0 l1 hnew
      rcases h with ⟨hp, e⟩ | ⟨hp, r', s', e, g1, g2, t1, t2, -, -, -, -, o1, o2⟩
      · rw [e, rd_other (by decide) (by decide)]
        simp only [BitVec.getLsbD_zero, Bool.false_eq_true, false_iff, not_and]
        intro h0 hm
        obtain ⟨-, q1, -⟩ := f2 h0
        rw [mem_range_ax hg rows, q1, ← elo, ← ehi] at hm
        have := hsf.2 ⟨f1.1 h0, hm.1.1, hm.1.2⟩
        omega
      · rw [e, mem_range_ax (by simp [blockOK, g1, g2]) rows, t1, t2, o1, o2]
        constructor
        · rintro ⟨⟨h1, h2⟩, h3⟩
          have := hsf.1 ⟨hp, h1, h2⟩
          have h0 := f1.2 this.1
          obtain ⟨-, q1, q2⟩ := f2 h0
          exact ⟨h0, by rw [mem_range_ax hg rows, q1, q2, ← elo, ← ehi]; exact ⟨this.2, h3⟩⟩
        · rintro ⟨h0, hm⟩
          obtain ⟨-, q1, q2⟩ := f2 h0
          rw [mem_range_ax hg rows, q1, q2, ← elo, ← ehi] at hm
          have := hsf.2 ⟨f1.1 h0, hm.1.1, hm.1.2⟩
          exact ⟨this.2, hm.2⟩
  · rw [(moveN_lm ha han).other x h3 h4, rd_other h3 h4]; simp
end
theorem mem_rdS (L : List Nd) (i : Nat) : ∀ k, (rdS L 0 k).getLsbD i = true ↔ ∃ j, j < k ∧ (rdN (nd L j)).getLsbD i = true
  | 0 => by simp [rdS]
  | k + 1 => by
    unfold rdS
    rw [BitVec.getLsbD_or, Bool.or_eq_true, mem_rdS L i k, Nat.zero_add]
    constructor
    · rintro (⟨j, h1, h2⟩ | h)
      · exact ⟨j, by omega, h2⟩
      · exact ⟨k, by omega, h⟩
    · rintro ⟨j, h1, h2⟩
      by_cases e : j = k
      · subst e; exact .inr h2
      · exact .inl ⟨j, by omega, h2⟩
/-- What a tree reads. -/
def rdT (t : Tr) : BitVec 32 := rdS t.nodes 0 t.nodes.length
theorem rdT_move {rows ins : Bool} {at_ : Int} (ha : 0 ≤ at_) (han : at_ < nAx rows) {t : Tr} (ht : TreeOK t) {c : Nat} (hc : c < 24) (hnew : ¬ (ins = true ∧ lineOf rows (c : Int) = at_)) :
    (rdT (mapT (moveN rows ins at_) t)).getLsbD c = true ↔ 0 ≤ fromP rows ins at_ c ∧ (rdT t).getLsbD (fromP rows ins at_ c).toNat = true := by
  unfold rdT mapT
  simp only [List.length_map]
  rw [mem_rdS, mem_rdS]
  constructor
  · rintro ⟨j, h1, h2⟩
    rw [nd_map (moveN_lm ha han).bad, read_move ha han (ht.all_ref j) hc hnew] at h2
    exact ⟨h2.1, j, h1, h2.2⟩
  · rintro ⟨h0, j, h1, h2⟩
    exact ⟨j, h1, by rw [nd_map (moveN_lm ha han).bad, read_move ha han (ht.all_ref j) hc hnew]; exact ⟨h0, h2⟩⟩
end Go.Proofs.Qxb6500326aGreat
