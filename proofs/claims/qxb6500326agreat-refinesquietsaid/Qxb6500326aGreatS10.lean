/-
  DERIVED. THE PLAIN LAW OF LAYER edit, 10: a formula behind an insert is worth what it was.
-/
import Derived.Test.Qxb6500326aGreatS9
namespace Go.Proofs.Qxb6500326aGreat
set_option linter.unusedVariables false
set_option linter.unusedSimpArgs false

/-- The values behind an insert. -/
def envI (rows : Bool) (at_ : Int) (env : Nat → Vl) (c : Nat) : Vl := if lineOf rows (c : Int) = at_ then v0 else env (fromP rows true at_ c).toNat
theorem fromL_ins {n at_ x : Int} (hx : x ≠ at_) (h0 : 0 ≤ x) (ha : 0 ≤ at_) : 0 ≤ fromL n at_ true x := by
  unfold fromL; simp [hx]; split <;> omega
theorem cell_lines {r : Ref} (h : inGrid r = true) (rows : Bool) : (cellOf r).toNat < 24 ∧ lineOf rows ((cellOf r).toNat : Int) = ax rows r ∧ lineOf (!rows) ((cellOf r).toNat : Int) = ax (!rows) r := by
  have hg := inGrid_iff.1 h
  have hc := cellOf_bd h
  unfold cellOf at hc ⊢
  cases rows <;> simp [lineOf, ax] <;> omega
theorem lines_eq {rows : Bool} {c d : Nat} (h1 : lineOf rows (c : Int) = lineOf rows (d : Int)) (h2 : lineOf (!rows) (c : Int) = lineOf (!rows) (d : Int)) : c = d := by
  cases rows <;> simp [lineOf] at h1 h2 <;> omega
theorem point_free {y n at_ : Int} (h0 : 0 ≤ y) (hn : y < n - 1) (ha : 0 ≤ at_) : 0 ≤ pointP y n at_ true := by
  unfold pointP; simp; (repeat' split) <;> omega
theorem stretch_free {lo hi n at_ : Int} (h0 : 0 ≤ lo) (hl : lo ≤ hi) (hn : hi < n - 1) (ha : 0 ≤ at_) : 0 ≤ (stretchP lo hi n at_ true).1 := by
  unfold stretchP; simp; (repeat' split) <;> simp <;> omega
theorem evm_insert {rows : Bool} {at_ : Int} (h0 : 0 ≤ at_) (h1 : at_ < nAx rows) {L : List Nd} (hL : ∀ j, NdRef (nd L j)) (env : Nat → Vl)
    (hfree : ∀ j, ∀ c : Nat, c < 24 → lineOf rows (c : Int) = nAx rows - 1 → (rdN (nd L j)).getLsbD c = false) : EvM (moveN rows true at_) L env (envI rows at_ env) := by
  refine ⟨moveN_lm h0 h1, fun j r e => ⟨fun hg => ?_, fun hg => moveN_out hg⟩, fun j p q e => ⟨fun hg => ?_, fun hg => moveN_rout hg⟩⟩
  · obtain ⟨c1, c2, c3⟩ := cell_lines hg rows
    obtain ⟨a0, a1⟩ := ax_in (rows := rows) hg
    have hne : ax rows r ≠ nAx rows - 1 := by
      intro e2
      have := hfree j _ c1 (by rw [c2]; exact e2)
      rw [e] at this
      rw [(mem_ref_ax hg rows _).2 ⟨c2, c3⟩] at this
      cases this
    have hp := point_free (n := nAx rows) (at_ := at_) a0 (by omega) h0
    rcases moveN_ref (ins := true) h0 h1 hg with ⟨hp2, -⟩ | ⟨-, e3, hg'⟩
    · omega
    · refine ⟨_, e3, hg', ?_⟩
      obtain ⟨d1, d2, d3⟩ := cell_lines hg' rows
      rw [(setAx_ax _ _).1] at d2
      rw [(setAx_ax _ _).2] at d3
      have hpf := (point_from (ins := true) (x := pointP (ax rows r) (nAx rows) at_ true) a0 a1 h0 h1 hp (point_bd a0 a1 h0 h1)).1 ⟨hp, rfl⟩
      obtain ⟨f1, f2⟩ := from_lines (rows := rows) (ins := true) h0 h1 d1
      rw [d2] at f1 f2
      obtain ⟨g1, g2, g3⟩ := f2 (f1.2 hpf.1)
      have hna : pointP (ax rows r) (nAx rows) at_ true ≠ at_ := by
        unfold pointP; simp; (repeat' split) <;> omega
      unfold envI
      rw [if_neg (by rw [d2]; exact hna)]
      congr 1
      refine lines_eq (rows := rows) ?_ ?_
      · rw [g2, c2]; exact hpf.2
      · rw [g3, c3]; exact d3
  · have hg2 : inGrid p = true ∧ inGrid q = true := by simpa [blockOK] using hg
    obtain ⟨lo, hi, elo, ehi, h⟩ := moveN_range (ins := true) h0 h1 hg
    have hlg := lg_in (rows := rows) hg2.1 hg2.2
    have hlg2 := lg_in (rows := !rows) hg2.1 hg2.2
    have hle := lesser_le (ax rows p) (ax rows q)
    have hle2 := lesser_le (ax (!rows) p) (ax (!rows) q)
    rw [← elo, ← ehi] at hle hlg
    have hhi : hi ≠ nAx rows - 1 := by
      intro e2
      -- the corner with the greatest line
      have : ∃ c : Nat, c < 24 ∧ lineOf rows (c : Int) = hi ∧ lineOf (!rows) (c : Int) = lesser (ax (!rows) p) (ax (!rows) q) := by
        cases rows
        · refine ⟨(lesser (ax true p) (ax true q) * 4 + hi).toNat, ?_, ?_, ?_⟩ <;> simp [lineOf, nAx] at * <;> omega
        · refine ⟨(hi * 4 + lesser (ax false p) (ax false q)).toNat, ?_, ?_, ?_⟩ <;> simp [lineOf, nAx] at * <;> omega
      obtain ⟨c, b1, b2, b3⟩ := this
      have hf := hfree j c b1 (by rw [b2]; exact e2)
      rw [e] at hf
      rw [(mem_range_ax hg rows c).2 ⟨⟨by rw [b2, ← elo]; exact hle, by rw [b2, ← ehi]; exact Int.le_refl _⟩, by rw [b3]; exact Int.le_refl _, by rw [b3]; exact hle2⟩] at hf
      cases hf
    have hp := stretch_free (n := nAx rows) (at_ := at_) hlg.1 hle (by omega) h0
    rcases h with ⟨hp2, -⟩ | ⟨-, p', q', e3, g1, g2, -⟩
    · omega
    · have hb' : blockOK p' q' = true := by simp [blockOK, g1, g2]
      refine ⟨p', q', e3, hb', fun op s n6 n7 => sweep_insert h0 h1 n6 n7 (fun c hc hl => by unfold envI; rw [if_pos hl]) (fun c hc hl => ⟨?_, by unfold envI; rw [if_neg hl]⟩) (fun c hc hl => ?_) s⟩
      · have hr := read_move (ins := true) h0 h1 (.inr (.inl ⟨p, q, rfl, grid_in hg2.1, grid_in hg2.2⟩) : NdRef (nRange p q)) hc (fun e => hl e.2)
        obtain ⟨f1, -⟩ := from_lines (rows := rows) (ins := true) h0 h1 hc
        have hfp := f1.2 (fromL_ins hl (line_bd (rows := rows) hc).1 h0)
        rw [e3] at hr
        have x1 : rdN (nRange p' q') = blockS p' q' := by
          unfold rdN; rw [if_neg (by show ¬ ((4 : Int) == 3) = true; decide), if_pos (by rfl)]; rfl
        have x2 : rdN (nRange p q) = blockS p q := by
          unfold rdN; rw [if_neg (by show ¬ ((4 : Int) == 3) = true; decide), if_pos (by rfl)]; rfl
        rw [x1, x2] at hr
        rw [Bool.eq_iff_iff, hr]
        exact ⟨fun h => h.2, fun h => ⟨hfp, h⟩⟩
      · have x2 : rdN (nRange p q) = blockS p q := by
          unfold rdN; rw [if_neg (by show ¬ ((4 : Int) == 3) = true; decide), if_pos (by rfl)]; rfl
        have := hfree j c hc hl
        rw [e, x2] at this
        exact this
end Go.Proofs.Qxb6500326aGreat
