import Derived.Test.Qxb6500327aGreatU2
import Derived.Test.Qxb6500327aGreatQ4
namespace Go.Proofs.Qxb6500327aGreat
set_option maxRecDepth 100000
set_option linter.unusedVariables false
set_option linter.unusedSimpArgs false
open Go.RowKit Go.PlainAid
theorem nd_get {L : List Nd} {i : Nat} (h : i < L.length) : L[i] = nd L i := by unfold nd; rw [List.getElem?_eq_getElem h]; rfl
theorem NL.cells {w : World} {g n cap : Nat} {L : List Nd} (h : NL w (.slice (some ⟨g, 0, none⟩) n cap) L) {i : Nat} (hi : i < L.length) {x : Nd} (hx : nd L i = x) :
    w.cell? ⟨g, i * 13, none⟩ = some (I x.kind) ∧ w.cell? ⟨g, i * 13 + 1, none⟩ = some (I x.op) ∧ w.cell? ⟨g, i * 13 + 2, none⟩ = some (I x.a) ∧ w.cell? ⟨g, i * 13 + 3, none⟩ = some (I x.b) ∧ w.cell? ⟨g, i * 13 + 4, none⟩ = some (I x.n) ∧
    w.cell? ⟨g, i * 13 + 5, none⟩ = some (I x.r1.col) ∧ w.cell? ⟨g, i * 13 + 6, none⟩ = some (I x.r1.row) ∧ w.cell? ⟨g, i * 13 + 7, none⟩ = some (.bool x.r1.absC) ∧ w.cell? ⟨g, i * 13 + 8, none⟩ = some (.bool x.r1.absR) ∧
    w.cell? ⟨g, i * 13 + 9, none⟩ = some (I x.r2.col) ∧ w.cell? ⟨g, i * 13 + 10, none⟩ = some (I x.r2.row) ∧ w.cell? ⟨g, i * 13 + 11, none⟩ = some (.bool x.r2.absC) ∧ w.cell? ⟨g, i * 13 + 12, none⟩ = some (.bool x.r2.absR) := by
  have e : L[i] = x := (nd_get hi).trans hx
  subst e
  exact ⟨h.cell i 0 hi (by omega) _ rfl, h.cell i 1 hi (by omega) _ rfl, h.cell i 2 hi (by omega) _ rfl, h.cell i 3 hi (by omega) _ rfl, h.cell i 4 hi (by omega) _ rfl, h.cell i 5 hi (by omega) _ rfl, h.cell i 6 hi (by omega) _ rfl, h.cell i 7 hi (by omega) _ rfl, h.cell i 8 hi (by omega) _ rfl, h.cell i 9 hi (by omega) _ rfl, h.cell i 10 hi (by omega) _ rfl, h.cell i 11 hi (by omega) _ rfl, h.cell i 12 hi (by omega) _ rfl⟩
theorem nb_new (w : World) (x : Nd) : Row (w.alloc (.cells (ndA x) 138)) w.heap.size 13 (ndC x) :=
  Row.new _ _ _ _ _ rfl (by
    intro i hi
    have : i = 0 ∨ i = 1 ∨ i = 2 ∨ i = 3 ∨ i = 4 ∨ i = 5 ∨ i = 6 ∨ i = 7 ∨ i = 8 ∨ i = 9 ∨ i = 10 ∨ i = 11 ∨ i = 12 := by omega
    rcases this with e | e | e | e | e | e | e | e | e | e | e | e | e <;> subst e <;> rfl)
/-- Reading only: the text of node i. -/
abbrev Shows (w : World) (T : List Int) : Ending → World → Prop := fun e w' => e = .returned (.string (bs T)) ∧ Fr S0 w w'
end Go.Proofs.Qxb6500327aGreat
