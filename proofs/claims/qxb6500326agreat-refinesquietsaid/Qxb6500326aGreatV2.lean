import Derived.Test.Qxb6500326aGreatV1
import Derived.Test.Qxb6500326aGreatU5
import Derived.Deep.RegionHeld3
namespace Go.Proofs.Qxb6500326aGreat
set_option linter.unusedVariables false
set_option linter.unusedSimpArgs false
open Go.RowKit Go.PlainAid
theorem Row.nd {w : World} {B : Nat} {x : Nd} (h : Row w B 13 (ndC x)) :
    w.cell? ⟨B, 0, none⟩ = some (I x.kind) ∧ w.cell? ⟨B, 1, none⟩ = some (I x.op) ∧ w.cell? ⟨B, 2, none⟩ = some (I x.a) ∧ w.cell? ⟨B, 3, none⟩ = some (I x.b) ∧ w.cell? ⟨B, 4, none⟩ = some (I x.n) ∧
    w.cell? ⟨B, 5, none⟩ = some (I x.r1.col) ∧ w.cell? ⟨B, 6, none⟩ = some (I x.r1.row) ∧ w.cell? ⟨B, 7, none⟩ = some (.bool x.r1.absC) ∧ w.cell? ⟨B, 8, none⟩ = some (.bool x.r1.absR) ∧
    w.cell? ⟨B, 9, none⟩ = some (I x.r2.col) ∧ w.cell? ⟨B, 10, none⟩ = some (I x.r2.row) ∧ w.cell? ⟨B, 11, none⟩ = some (.bool x.r2.absC) ∧ w.cell? ⟨B, 12, none⟩ = some (.bool x.r2.absR) :=
  ⟨h.cell 0 (by omega), h.cell 1 (by omega), h.cell 2 (by omega), h.cell 3 (by omega), h.cell 4 (by omega), h.cell 5 (by omega), h.cell 6 (by omega), h.cell 7 (by omega), h.cell 8 (by omega), h.cell 9 (by omega), h.cell 10 (by omega), h.cell 11 (by omega), h.cell 12 (by omega)⟩
theorem neq_nd (x y : Nd) (w : World) : (binOp .neq 149 (ndV x) (ndV y)).run Tryz.prog w = .ok (.bool (!ndEq x y)) w := by
  go_simp
  by_cases c0 : x.kind = y.kind
  · rw [if_pos c0]
    by_cases c1 : x.op = y.op
    · rw [if_pos c1]
      by_cases c2 : x.a = y.a
      · rw [if_pos c2]
        by_cases c3 : x.b = y.b
        · rw [if_pos c3]
          by_cases c4 : x.n = y.n
          · rw [if_pos c4]
            by_cases c5 : x.r1.col = y.r1.col
            · rw [if_pos c5]
              by_cases c6 : x.r1.row = y.r1.row
              · rw [if_pos c6]
                by_cases c7 : x.r1.absC = y.r1.absC
                · rw [if_pos c7]
                  by_cases c8 : x.r1.absR = y.r1.absR
                  · rw [if_pos c8]
                    by_cases c9 : x.r2.col = y.r2.col
                    · rw [if_pos c9]
                      by_cases c10 : x.r2.row = y.r2.row
                      · rw [if_pos c10]
                        by_cases c11 : x.r2.absC = y.r2.absC
                        · rw [if_pos c11]
                          by_cases c12 : x.r2.absR = y.r2.absR
                          · rw [if_pos c12]
                            simp [ndEq, refEq, c0, c1, c2, c3, c4, c5, c6, c7, c8, c9, c10, c11, c12]
                          · rw [if_neg c12]
                            simp [ndEq, refEq, c12]
                        · rw [if_neg c11]
                          simp [ndEq, refEq, c11]
                      · rw [if_neg c10]
                        simp [ndEq, refEq, c10]
                    · rw [if_neg c9]
                      simp [ndEq, refEq, c9]
                  · rw [if_neg c8]
                    simp [ndEq, refEq, c8]
                · rw [if_neg c7]
                  simp [ndEq, refEq, c7]
              · rw [if_neg c6]
                simp [ndEq, refEq, c6]
            · rw [if_neg c5]
              simp [ndEq, refEq, c5]
          · rw [if_neg c4]
            simp [ndEq, refEq, c4]
        · rw [if_neg c3]
          simp [ndEq, refEq, c3]
      · rw [if_neg c2]
        simp [ndEq, refEq, c2]
    · rw [if_neg c1]
      simp [ndEq, refEq, c1]
  · rw [if_neg c0]
    simp [ndEq, refEq, c0]
theorem guard_nd (a b : Operand) (x y : Nd) (w : World) : (eqGuard .neq 149 a b (ndV x) (ndV y)).run Tryz.prog w = .ok () w := by
  go_simp
set_option maxRecDepth 100000 in
set_option maxHeartbeats 2000000 in
theorem span_ne (g n cap : Nat) (L : List Nd) (i : Nat) (w : World) (arg : Bool) (hn : L.length = n) (h : NL w (.slice (some ⟨g, 0, none⟩) n cap) L) (hi : i < L.length) (x : Nd) (hx : nd L i = x) (hq : ndEq x (named x) = false) :
    Calls Tryz.prog 175 #[.slice (some ⟨g, 0, none⟩) n cap, I i, .bool arg] w fun e w' => e = .returned (I (-1)) ∧ Fr S0 w w' := by
  obtain ⟨k0, k1, k2, k3, k4, k5, k6, k7, k8, k9, k10, k11, k12⟩ := h.cells hi hx
  have hiI : (i : Int) < (n : Int) := by omega
  have hid : decide ((i : Int) < 0) = false := decide_eq_false (by omega)
  have hie : decide ((n : Int) ≤ (i : Int)) = false := decide_eq_false (by omega)
  have hif : decide (n ≤ i) = false := decide_eq_false (by omega)
  have hnm := named_any x (w.alloc (.cells (ndA x) 149)).drew
  have hX := Bx.mk (nb_new w x)
  have hrun : ∀ u : World, (binOp .neq 149 (ndV x) (ndV (named x))).run Tryz.prog u = .ok (.bool true) u := fun u => by rw [neq_nd, hq]; rfl
  have hgd : ∀ u : World, (eqGuard .neq 149 (.tmp 22) (.tmp 24) (ndV x) (ndV (named x))).run Tryz.prog u = .ok () u := fun u => guard_nd _ _ x (named x) u
  generalize ndV (named x) = yv at *
  have hnm := Bx.mk hnm
  go_enter Tryz.func175, Tryz.ntmps175
  go_wp2_with fail
  go_region_held3 (fun w' => w'.cell? ⟨w.heap.size, 0, none⟩ = some (I x.kind) ∧ w'.cell? ⟨w.heap.size, 1, none⟩ = some (I x.op) ∧ w'.cell? ⟨w.heap.size, 2, none⟩ = some (I x.a) ∧ w'.cell? ⟨w.heap.size, 3, none⟩ = some (I x.b) ∧ w'.cell? ⟨w.heap.size, 4, none⟩ = some (I x.n) ∧ w'.cell? ⟨w.heap.size, 5, none⟩ = some (I x.r1.col) ∧ w'.cell? ⟨w.heap.size, 6, none⟩ = some (I x.r1.row) ∧ w'.cell? ⟨w.heap.size, 7, none⟩ = some (.bool x.r1.absC) ∧ w'.cell? ⟨w.heap.size, 8, none⟩ = some (.bool x.r1.absR) ∧ w'.cell? ⟨w.heap.size, 9, none⟩ = some (I x.r2.col) ∧ w'.cell? ⟨w.heap.size, 10, none⟩ = some (I x.r2.row) ∧ w'.cell? ⟨w.heap.size, 11, none⟩ = some (.bool x.r2.absC) ∧ w'.cell? ⟨w.heap.size, 12, none⟩ = some (.bool x.r2.absR)) (go_keep)
    (first | (go_at_call 211; refine hnm.out.mono ?_; clear hnm; rintro e w2 ⟨rfl, hf2⟩; have hX2 := Bx.mk (hf2.row0 hX.out.drew); obtain ⟨j0, j1, j2, j3, j4, j5, j6, j7, j8, j9, j10, j11, j12⟩ := hX2.out.nd))
  go_wp2
  go_ret
  exact ⟨rfl, ((Fr.refl _ _).alloc _).drew.trans hf2⟩
set_option maxRecDepth 100000 in
theorem span_out (a : Option Addr) (n cap : Nat) (i : Int) (w : World) (arg : Bool) (hi : i < 0 ∨ (n : Int) ≤ i) :
    Calls Tryz.prog 175 #[.slice a n cap, I i, .bool arg] w fun e w' => e = .returned (I (-1)) ∧ Fr S0 w w' := by
  by_cases h0 : i < 0
  · have hd : decide (i < 0) = true := decide_eq_true h0
    clear hi
    go_enter Tryz.func175, Tryz.ntmps175
    go_wp2
    go_ret
    exact ⟨rfl, Fr.refl _ _⟩
  · have hd : decide (i < 0) = false := decide_eq_false h0
    have hd2 : decide ((n : Int) ≤ i) = true := decide_eq_true (by omega)
    clear hi h0
    go_enter Tryz.func175, Tryz.ntmps175
    go_wp2
    go_ret
    exact ⟨rfl, Fr.refl _ _⟩
end Go.Proofs.Qxb6500326aGreat
