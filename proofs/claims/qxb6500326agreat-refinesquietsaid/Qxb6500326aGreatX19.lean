import Derived.Test.Qxb6500326aGreatX19a
import Derived.Test.Qxb6500326aGreatX19b
import Derived.Test.Qxb6500326aGreatX19c
namespace Go.Proofs.Qxb6500326aGreat
set_option maxRecDepth 100000
set_option linter.unusedVariables false
set_option linter.unusedSimpArgs false
open Go.RowKit Go.PlainAid
/-- The cells of the operand on top. -/
theorem AF.lastV {w : World} {B : FB} {b : Nat → Int} {n nt k : Nat} {st : RS} (h : AF w B b n nt k st) {v : Int} {V' : List Int} (hV : st.V = v :: V') (hv : st.V.length ≤ 41) :
    w.cell? ⟨B.f, 6, none⟩ = some (sl B.v 41 41) ∧ w.cell? ⟨B.f, 7, none⟩ = some (I ((V'.length + 1 : Nat) : Int)) ∧ w.cell? ⟨B.v, V'.length, none⟩ = some (I v) := by
  obtain ⟨F, hF, hR, -, -⟩ := h
  have a6 := hF.row.cell 6 (by omega)
  have a7 := hF.row.cell 7 (by omega)
  have hnv := hR.nvl
  obtain ⟨t1, t2, -⟩ := hR.topV hV
  rw [hV] at hnv hv
  simp only [List.length_cons] at hnv hv
  rw [hnv, Nat.add_sub_cancel] at t2
  have b0 := hF.opnd.cell V'.length (by omega)
  simp only [fmC] at a6 a7
  rw [hnv] at a7
  rw [t2] at b0
  exact ⟨a6, a7, b0⟩
theorem AF.node {w : World} {B : FB} {b : Nat → Int} {n nt k : Nat} {st : RS} (h : AF w B b n nt k st) {j : Nat} {x : Nd} (hx : st.nodes[j]? = some x) :
    w.cell? ⟨B.f, 4, none⟩ = some (sl B.a 24 24) ∧ w.cell? ⟨B.a, j * 13, none⟩ = some (I x.kind) ∧ j < 24 := by
  obtain ⟨F, hF, hR, -, -⟩ := h
  have a4 := hF.row.cell 4 (by omega)
  simp only [fmC] at a4
  rw [hR.nodes, List.getElem?_map] at hx
  have hj : j < F.nn := by
    by_cases c : j < F.nn
    · exact c
    · rw [List.getElem?_eq_none (by simp; omega)] at hx; cases hx
  rw [List.getElem?_range hj] at hx
  have hx : F.arena j = x := by simpa using hx
  have h24 := hR.nn
  have b0 := hF.arena.cell0 j (by omega) (by omega)
  rw [hx] at b0
  exact ⟨a4, b0, by omega⟩
theorem AF.hv0 {w : World} {B : FB} {b : Nat → Int} {n nt k : Nat} {st : RS} (h : AF w B b n nt k st) : (∃ y, w.cell? ⟨B.f, 10, none⟩ = some (.bool y)) ∧ w.frozen? ⟨B.f, 10, none⟩ = false ∧ AF (w.setCell ⟨B.f, 10, none⟩ (.bool false)) B b n nt k (st.hv false) := by
  obtain ⟨F, hF, hR, h1, h2⟩ := h
  have a := hF.row.cell 10 (by omega)
  simp only [fmC] at a
  exact ⟨⟨_, a⟩, hF.row.frozen 10, ⟨{ F with hav := false }, hF.set (F' := { F with hav := false }) 10 (.bool false) (by intro i hi; rcases i with _ | _ | _ | _ | _ | _ | _ | _ | _ | _ | _ | _ | _ | _ | _ | _ | _ | i <;> first | rfl | omega) rfl rfl rfl rfl rfl rfl rfl, { hR with hav := rfl }, h1, h2⟩⟩
theorem strOf_no {t : Tok} (h : t.kind ≠ 6) : strOf t = 0 := by unfold strOf; rw [if_neg h]
theorem strOf_op {t : Tok} (h : t.kind = 6) : strOf t = strength t.n := by unfold strOf; rw [if_pos h]
theorem topOf_bd (O : List Mk) : 0 ≤ topOf O ∧ topOf O ≤ 3 := by
  cases O with
  | nil => show (0 : Int) ≤ 0 ∧ (0 : Int) ≤ 3; decide
  | cons m O =>
    show 0 ≤ (if m.kind = 2 then strength m.op else 0) ∧ (if m.kind = 2 then strength m.op else 0) ≤ 3
    split
    · unfold strength; split
      · decide
      · split <;> decide
    · decide
/-- What is left of 'after' where an operator is taken: in words of the state s behind the joins. -/
theorem after3_cases {s : RS} {k : Nat} (h : Hts k 1 s) : ∃ v V', s.V = v :: V' ∧ (v < 0 ∨ ∃ (j : Nat) (x : Nd), v = (j : Int) ∧ s.nodes[j]? = some x) := by
  cases hV : s.V with
  | nil => have := h.len; rw [hV] at this; simp at this
  | cons v V' =>
    refine ⟨v, V', rfl, ?_⟩
    by_cases hv : v < 0
    · exact .inl hv
    · have hin := h.vin v (by rw [hV]; exact List.mem_cons_self)
      refine .inr ⟨v.toNat, s.nodes[v.toNat]'(by omega), by omega, ?_⟩
      exact List.getElem?_eq_getElem _
end Go.Proofs.Qxb6500326aGreat
