import Derived.Test.Qxb6500326aGreatV4
import Derived.Test.Qxb6500326aGreatW19
namespace Go.Proofs.Qxb6500326aGreat
set_option linter.unusedVariables false
set_option linter.unusedSimpArgs false
open Go.RowKit Go.PlainAid
def refInB (r : Ref) : Bool := decide (0 ≤ r.col) && decide (r.col ≤ 25) && decide (0 ≤ r.row) && decide (r.row ≤ 98)
theorem refInB_iff (r : Ref) : refInB r = true ↔ refIn r := by simp [refInB, refIn, and_assoc]
def tokB (t : Tr) : Bool := t.err == 0 && t.pos == 0 && decide (1 ≤ t.nodes.length) && decide (t.nodes.length ≤ 24) && t.root == (t.nodes.length : Int) - 1 && t.nodes.all (fun x => refInB x.r1 && refInB x.r2) && spanP t.nodes t.nodes.length t.root false == 0
theorem refs_iff (L : List Nd) : L.all (fun x => refInB x.r1 && refInB x.r2) = true ↔ refsOK L := by
  simp only [List.all_eq_true, Bool.and_eq_true, refInB_iff]; rfl
theorem tokB_iff (t : Tr) : tokB t = true ↔ TreeOK t := by
  unfold tokB
  simp only [Bool.and_eq_true, beq_iff_eq, decide_eq_true_eq, refs_iff]
  constructor
  · rintro ⟨⟨⟨⟨⟨⟨a, b⟩, c⟩, d⟩, e⟩, f⟩, g⟩
    exact ⟨a, b, c, d, e, f, g⟩
  · intro h
    exact ⟨⟨⟨⟨⟨⟨h.err, h.pos⟩, h.one⟩, h.max⟩, h.root⟩, h.refs⟩, h.span⟩
theorem tok_no {t : Tr} (h : ¬ TreeOK t) : tokB t = false := by
  rw [← tokB_iff] at h; simpa using h
abbrev NumOK (L : List Nd) : Prop := ∀ x ∈ L, x.n ≤ 9223372036854775807
set_option maxRecDepth 100000 in
set_option maxHeartbeats 2000000 in
theorem tok_err (a : Option Addr) (c : Nat) (t : Tr) (w : World) (h : t.err ≠ 0) :
    Calls Tryz.prog 149 #[treeV (.slice a t.nodes.length c) t] w fun e w' => e = .returned (.bool (tokB t)) ∧ Fr S0 w w' := by
  rw [tok_no (t := t) (fun k => h k.err)]
  generalize t.nodes.length = n at *
  obtain ⟨L, root, err, pos⟩ := t
  simp only at *
  have d1 : (err != 0) = true := by simpa using h
  clear h
  go_enter Tryz.func149, Tryz.ntmps149
  go_wp2
  go_ret
  exact ⟨rfl, (Fr.refl _ _).alloc _⟩
set_option maxRecDepth 100000 in
set_option maxHeartbeats 2000000 in
theorem tok_pos (a : Option Addr) (c : Nat) (t : Tr) (w : World) (h : t.err = 0) (h2 : t.pos ≠ 0) :
    Calls Tryz.prog 149 #[treeV (.slice a t.nodes.length c) t] w fun e w' => e = .returned (.bool (tokB t)) ∧ Fr S0 w w' := by
  rw [tok_no (t := t) (fun k => h2 k.pos)]
  generalize t.nodes.length = n at *
  obtain ⟨L, root, err, pos⟩ := t
  simp only at *
  have d1 : (err != 0) = false := by simpa using h
  clear h
  have d2 : (pos != 0) = true := by simpa using h2
  clear h2
  go_enter Tryz.func149, Tryz.ntmps149
  go_wp2
  go_ret
  exact ⟨rfl, (Fr.refl _ _).alloc _⟩
set_option maxRecDepth 100000 in
set_option maxHeartbeats 2000000 in
theorem tok_one (a : Option Addr) (c : Nat) (t : Tr) (w : World) (h : t.err = 0) (h2 : t.pos = 0) (h3 : t.nodes.length < 1) :
    Calls Tryz.prog 149 #[treeV (.slice a t.nodes.length c) t] w fun e w' => e = .returned (.bool (tokB t)) ∧ Fr S0 w w' := by
  rw [tok_no (t := t) (fun k => by have := k.one; omega)]
  generalize t.nodes.length = n at *
  obtain ⟨L, root, err, pos⟩ := t
  simp only at *
  have d1 : (err != 0) = false := by simpa using h
  clear h
  have d2 : (pos != 0) = false := by simpa using h2
  clear h2
  have hn0 : n = 0 := by omega
  subst hn0
  go_enter Tryz.func149, Tryz.ntmps149
  go_wp2
  go_ret
  exact ⟨rfl, (Fr.refl _ _).alloc _⟩
set_option maxRecDepth 100000 in
set_option maxHeartbeats 2000000 in
theorem tok_max (a : Option Addr) (c : Nat) (t : Tr) (w : World) (h : t.err = 0) (h2 : t.pos = 0) (h3 : 1 ≤ t.nodes.length) (h4 : 24 < t.nodes.length) :
    Calls Tryz.prog 149 #[treeV (.slice a t.nodes.length c) t] w fun e w' => e = .returned (.bool (tokB t)) ∧ Fr S0 w w' := by
  rw [tok_no (t := t) (fun k => by have := k.max; omega)]
  generalize t.nodes.length = n at *
  obtain ⟨L, root, err, pos⟩ := t
  simp only at *
  have d1 : (err != 0) = false := by simpa using h
  clear h
  have d2 : (pos != 0) = false := by simpa using h2
  clear h2
  have d3 : decide ((n : Int) < 1) = false := decide_eq_false (by omega)
  have d3' : decide (n < 1) = false := decide_eq_false (by omega)
  have d3c : ¬ n = 0 := by omega
  have d4 : decide ((24 : Int) < (n : Int)) = true := decide_eq_true (by omega)
  have d4' : decide (24 < n) = true := decide_eq_true (by omega)
  go_enter Tryz.func149, Tryz.ntmps149
  go_wp2
  go_ret
  exact ⟨rfl, (Fr.refl _ _).alloc _⟩
set_option maxRecDepth 100000 in
set_option maxHeartbeats 2000000 in
theorem tok_root (a : Option Addr) (c : Nat) (t : Tr) (w : World) (h : t.err = 0) (h2 : t.pos = 0) (h3 : 1 ≤ t.nodes.length) (h4 : t.nodes.length ≤ 24) (h5 : t.root ≠ (t.nodes.length : Int) - 1) :
    Calls Tryz.prog 149 #[treeV (.slice a t.nodes.length c) t] w fun e w' => e = .returned (.bool (tokB t)) ∧ Fr S0 w w' := by
  rw [tok_no (t := t) (fun k => h5 k.root)]
  generalize t.nodes.length = n at *
  obtain ⟨L, root, err, pos⟩ := t
  simp only at *
  have d1 : (err != 0) = false := by simpa using h
  clear h
  have d2 : (pos != 0) = false := by simpa using h2
  clear h2
  have d3 : decide ((n : Int) < 1) = false := decide_eq_false (by omega)
  have d3' : decide (n < 1) = false := decide_eq_false (by omega)
  have d3c : ¬ n = 0 := by omega
  have d4 : decide ((24 : Int) < (n : Int)) = false := decide_eq_false (by omega)
  have d4' : decide (24 < n) = false := decide_eq_false (by omega)
  have d5 : (root != (n : Int) - 1) = true := by simpa using h5
  clear h5
  go_enter Tryz.func149, Tryz.ntmps149
  go_wp2
  go_ret
  exact ⟨rfl, (Fr.refl _ _).alloc _⟩
end Go.Proofs.Qxb6500326aGreat
