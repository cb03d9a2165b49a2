import Derived.Test.Qxb6500326aGreatB4
import Derived.Test.Qxb6500326aGreatB5
import Derived.Test.Qxb6500326aGreatU5
import Derived.Test.Qxb6500326aGreatX8
namespace Go.Proofs.Qxb6500326aGreat
set_option maxRecDepth 100000
set_option linter.unusedVariables false
set_option linter.unusedSimpArgs false
open Go.RowKit Go.PlainAid

/-- What the definition of meaning reads: the nodes L in block g, the values env in block eb. -/
structure WM (w : World) (g eb : Nat) (L : List Nd) (env : Nat → Vl) : Prop where
  gl : g < w.heap.size
  el : eb < w.heap.size
  nod : ∀ j k, j < L.length → k < 13 → w.cell? ⟨g, j * 13 + k, none⟩ = some (ndC (nd L j) k)
  en : ∀ c k, c < 24 → k < 3 → w.cell? ⟨eb, c * 3 + k, none⟩ = some (vC (env c) k)
theorem WM.fr {w w' : World} {g eb : Nat} {L : List Nd} {env : Nat → Vl} (h : WM w g eb L env) (f : Fr S0 w w') : WM w' g eb L env :=
  ⟨Nat.lt_of_lt_of_le h.gl f.size, Nat.lt_of_lt_of_le h.el f.size, fun j k hj hk => by rw [f.cell (a := ⟨g, j * 13 + k, none⟩) h.gl (by simp)]; exact h.nod j k hj hk, fun c k hc hk => by rw [f.cell (a := ⟨eb, c * 3 + k, none⟩) h.el (by simp)]; exact h.en c k hc hk⟩
theorem WM.cells {w : World} {g eb : Nat} {L : List Nd} {env : Nat → Vl} (h : WM w g eb L env) {i : Nat} (hi : i < L.length) {x : Nd} (hx : nd L i = x) :
    w.cell? ⟨g, i * 13, none⟩ = some (I x.kind) ∧ w.cell? ⟨g, i * 13 + 1, none⟩ = some (I x.op) ∧ w.cell? ⟨g, i * 13 + 2, none⟩ = some (I x.a) ∧ w.cell? ⟨g, i * 13 + 3, none⟩ = some (I x.b) ∧ w.cell? ⟨g, i * 13 + 4, none⟩ = some (I x.n) ∧
    w.cell? ⟨g, i * 13 + 5, none⟩ = some (I x.r1.col) ∧ w.cell? ⟨g, i * 13 + 6, none⟩ = some (I x.r1.row) ∧ w.cell? ⟨g, i * 13 + 7, none⟩ = some (.bool x.r1.absC) ∧ w.cell? ⟨g, i * 13 + 8, none⟩ = some (.bool x.r1.absR) ∧
    w.cell? ⟨g, i * 13 + 9, none⟩ = some (I x.r2.col) ∧ w.cell? ⟨g, i * 13 + 10, none⟩ = some (I x.r2.row) ∧ w.cell? ⟨g, i * 13 + 11, none⟩ = some (.bool x.r2.absC) ∧ w.cell? ⟨g, i * 13 + 12, none⟩ = some (.bool x.r2.absR) := by
  subst hx
  exact ⟨h.nod i 0 hi (by omega), h.nod i 1 hi (by omega), h.nod i 2 hi (by omega), h.nod i 3 hi (by omega), h.nod i 4 hi (by omega), h.nod i 5 hi (by omega), h.nod i 6 hi (by omega), h.nod i 7 hi (by omega), h.nod i 8 hi (by omega), h.nod i 9 hi (by omega), h.nod i 10 hi (by omega), h.nod i 11 hi (by omega), h.nod i 12 hi (by omega)⟩
theorem WM.vals {w : World} {g eb : Nat} {L : List Nd} {env : Nat → Vl} (h : WM w g eb L env) {c : Nat} (hc : c < 24) :
    w.cell? ⟨eb, c * 3, none⟩ = some (I (env c).kind) ∧ w.cell? ⟨eb, c * 3 + 1, none⟩ = some (I (env c).n) ∧ w.cell? ⟨eb, c * 3 + 2, none⟩ = some (.string (env c).s) :=
  ⟨h.en c 0 hc (by omega), h.en c 1 hc (by omega), h.en c 2 hc (by omega)⟩
def WOK (g eb : Nat) (L : List Nd) (env : Nat → Vl) (i : Nat) (x : Vl) : Prop :=
  ∀ (w : World) (cap ecap : Nat), WM w g eb L env → Calls Tryz.prog 209 #[sl g L.length cap, I (i : Int), sl eb 24 ecap] w (VR w x)
def FOK (g eb : Nat) (L : List Nd) (env : Nat → Vl) (op b : Int) (s : Fd) : Prop :=
  ∀ (w : World) (cap ecap : Nat), WM w g eb L env → Calls Tryz.prog 232 #[sl g L.length cap, I b, I op, sl eb 24 ecap] w (FV w s)
theorem nd_row (w : World) (x : Nd) {H : Nat} (e : w.heap.size = H) : Row (w.alloc (.cells (ndA x) 149)) H 13 (ndC x) := e ▸ nb_new w x
end Go.Proofs.Qxb6500326aGreat
