import Derived.WalkKit
import Derived.BigQuiet
import Derived.Deep.QuietTactic
import Derived.PlainAid
import Derived.Test.Qxb6500326aGreatQ3
import Derived.Test.Qxb6500326aGreatQ5
import Derived.Test.Qxb6500326aGreatP7
namespace Go.Proofs.Qxb6500326aGreat
set_option maxRecDepth 100000
set_option linter.unusedVariables false
set_option linter.unusedSimpArgs false
open Go.RowKit

theorem hide {p : Prop} (h : p) : Hid p := h
/-- As 'Hid', but no tactic can lay it open. -/
structure Bx (p : Prop) : Prop where
  out : p

/-! ### Blocks as rows of cells -/
/-- Block b holds n cells, the i-th is 'vs i'; nothing of it is frozen. -/
def Row (w : World) (b n : Nat) (vs : Nat → Value) : Prop :=
  ∃ (arr : Array Value) (T : TypeId), w.heap[b]? = some (.cells arr T (0, 0)) ∧ arr.size = n ∧ ∀ i, i < n → arr[i]? = some (vs i)

def upd {α : Type} (f : Nat → α) (k : Nat) (v : α) : Nat → α := fun i => if i = k then v else f i

theorem upd_same {α : Type} (f : Nat → α) (k : Nat) (v : α) : upd f k v k = v := by simp [upd]
theorem upd_other {α : Type} (f : Nat → α) {k i : Nat} (v : α) (h : i ≠ k) : upd f k v i = f i := by simp [upd, h]

theorem Row.lt {w : World} {b n : Nat} {vs : Nat → Value} (h : Row w b n vs) : b < w.heap.size := by
  obtain ⟨arr, T, h1, -⟩ := h
  rcases Nat.lt_or_ge b w.heap.size with h | h
  · exact h
  · rw [Array.getElem?_eq_none h] at h1; cases h1
theorem Row.cell {w : World} {b n : Nat} {vs : Nat → Value} (h : Row w b n vs) : ∀ i, i < n → w.cell? ⟨b, i, none⟩ = some (vs i) := by
  intro i hi
  obtain ⟨arr, T, h1, h2, h3⟩ := h
  simp [World.cell?, h1, h3 i hi]
theorem Row.frozen {w : World} {b n : Nat} {vs : Nat → Value} (h : Row w b n vs) : ∀ i, w.frozen? ⟨b, i, none⟩ = false := by
  intro i
  obtain ⟨arr, T, h1, h2, h3⟩ := h
  simp [World.frozen?, h1]
theorem Row.of_heap {w w' : World} {b n : Nat} {vs : Nat → Value} (h : Row w b n vs) (e : w'.heap[b]? = w.heap[b]?) : Row w' b n vs := by
  obtain ⟨arr, T, h1, h2, h3⟩ := h
  exact ⟨arr, T, by rw [e, h1], h2, h3⟩
theorem Row.congr {w : World} {b n : Nat} {vs us : Nat → Value} (h : Row w b n vs) (e : ∀ i, i < n → vs i = us i) : Row w b n us := by
  obtain ⟨arr, T, h1, h2, h3⟩ := h
  exact ⟨arr, T, h1, h2, fun i hi => by rw [h3 i hi, e i hi]⟩
theorem Row.set {w : World} {b n : Nat} {vs : Nat → Value} (h : Row w b n vs) (k : Nat) (v : Value) : Row (w.setCell ⟨b, k, none⟩ v) b n (upd vs k v) := by
  obtain ⟨arr, T, h1, h2, h3⟩ := h
  refine ⟨arr.setIfInBounds k v, T, ?_, by simpa using h2, fun i hi => ?_⟩
  · have hb : b < w.heap.size := Row.lt ⟨arr, T, h1, h2, h3⟩
    simp only [World.setCell, Array.getElem?_modify, h1]
    simp
  · rw [Array.getElem?_setIfInBounds]
    by_cases e : k = i
    · subst e; simp [upd, h2, hi]
    · rw [if_neg e, h3 i hi]; simp [upd, Ne.symm e]
theorem Row.set_other {w : World} {b n : Nat} {vs : Nat → Value} (h : Row w b n vs) {p : Addr} (hp : b ≠ p.block) (v : Value) : Row (w.setCell p v) b n vs :=
  h.of_heap (Below.heap_setCell _ _ _ _ hp)
theorem Row.alloc {w : World} {b n : Nat} {vs : Nat → Value} (h : Row w b n vs) (o : Obj) : Row (w.alloc o) b n vs :=
  h.of_heap (Below.heap_alloc _ _ _ h.lt)
theorem Row.drew {w : World} {b n : Nat} {vs : Nat → Value} (h : Row w b n vs) : Row w.drew b n vs := h
theorem Row.new (w : World) (arr : Array Value) (T : TypeId) (n : Nat) (vs : Nat → Value) (hn : arr.size = n) (hv : ∀ i, i < n → arr[i]? = some (vs i)) : Row (w.alloc (.cells arr T)) w.heap.size n vs :=
  ⟨arr, T, by show (w.heap.push _)[w.heap.size]? = _; simp, hn, hv⟩

/-! ### Frames -/
/-- All blocks that were there, but for those of S, are as they were; the streams too. -/
structure Fr (S : Nat → Prop) (w w' : World) : Prop where
  os : w'.os = w.os
  tape : w'.tape = w.tape
  output : w'.output = w.output
  size : w.heap.size ≤ w'.heap.size
  block : ∀ k, k < w.heap.size → ¬ S k → w'.heap[k]? = w.heap[k]?
/-- No block. -/
abbrev S0 : Nat → Prop := fun _ => False
theorem Fr.refl (S : Nat → Prop) (w : World) : Fr S w w := ⟨rfl, rfl, rfl, Nat.le_refl _, fun _ _ _ => rfl⟩
theorem Fr.trans {S : Nat → Prop} {a b c : World} (h : Fr S a b) (k : Fr S b c) : Fr S a c :=
  ⟨k.os.trans h.os, k.tape.trans h.tape, k.output.trans h.output, Nat.le_trans h.size k.size, fun i hi hs => (k.block i (Nat.lt_of_lt_of_le hi h.size) hs).trans (h.block i hi hs)⟩
theorem Fr.mono {S S' : Nat → Prop} {w w' : World} (h : Fr S w w') (hS : ∀ k, S k → S' k) : Fr S' w w' :=
  ⟨h.os, h.tape, h.output, h.size, fun k hk hs => h.block k hk (fun hm => hs (hS k hm))⟩
theorem Fr.up {S : Nat → Prop} {w w' : World} (h : Fr S0 w w') : Fr S w w' := h.mono (fun _ h => h.elim)
theorem Fr.drew {S : Nat → Prop} {a w : World} (h : Fr S a w) : Fr S a w.drew := ⟨h.os, h.tape, h.output, h.size, h.block⟩
theorem Fr.drewN {S : Nat → Prop} {a w : World} (h : Fr S a w) (n : Nat) : Fr S a (w.drewN n) := ⟨h.os, h.tape, h.output, h.size, h.block⟩
theorem Fr.alloc {S : Nat → Prop} {a w : World} (h : Fr S a w) (o : Obj) : Fr S a (w.alloc o) :=
  h.trans ⟨rfl, rfl, rfl, by simp, fun k hk _ => Below.heap_alloc _ _ _ hk⟩
theorem Fr.setCell {S : Nat → Prop} {a w : World} (h : Fr S a w) {p : Addr} (hp : S p.block ∨ a.heap.size ≤ p.block) (u : Value) : Fr S a (w.setCell p u) :=
  ⟨h.os, h.tape, h.output, by simpa [World.setCell] using h.size, fun k hk hs => by
    rw [Below.heap_setCell]
    · exact h.block k hk hs
    · rintro rfl
      rcases hp with hp | hp
      · exact hs hp
      · omega⟩
/-- What is written further lies in blocks of S, or in such as are new since a. -/
theorem Fr.step {S S' : Nat → Prop} {a b c : World} (h : Fr S a b) (k : Fr S' b c) (hS : ∀ x, S' x → S x ∨ a.heap.size ≤ x) : Fr S a c :=
  ⟨k.os.trans h.os, k.tape.trans h.tape, k.output.trans h.output, Nat.le_trans h.size k.size, fun i hi hs =>
    (k.block i (Nat.lt_of_lt_of_le hi h.size) (fun hm => by rcases hS i hm with h | h; exact hs h; omega)).trans (h.block i hi hs)⟩
theorem Fr.below {w w' : World} (h : Fr S0 w w') : Below w.heap.size w w' := ⟨h.os, h.tape, h.output, h.size, fun k hk => h.block k hk (by simp)⟩
theorem Fr.row {S : Nat → Prop} {w w' : World} {b n : Nat} {vs : Nat → Value} (h : Fr S w w') (hr : Row w b n vs) (hb : ¬ S b) : Row w' b n vs :=
  hr.of_heap (h.block b hr.lt hb)
theorem Fr.row0 {w w' : World} {b n : Nat} {vs : Nat → Value} (h : Fr S0 w w') (hr : Row w b n vs) : Row w' b n vs :=
  hr.of_heap (h.block b hr.lt (by simp))
theorem Fr.cell {S : Nat → Prop} {w w' : World} (h : Fr S w w') {a : Addr} (ha : a.block < w.heap.size) (hb : ¬ S a.block) : w'.cell? a = w.cell? a :=
  World.cell?_of_block (w := w) (h.block a.block ha hb)

theorem Fr.of_grown {w w' : World} {row : Option Nat} (h : w.grownBy w' row) : Fr (fun k => some k = row) w w' := ⟨h.os, h.tape, h.output, h.size, h.block⟩

/-! ### Values -/
abbrev I (n : Int) : Value := .int .i64 n
abbrev sl (b n c : Nat) : Value := .slice (some ⟨b, 0, none⟩) n c
abbrev pt (b : Nat) : Value := .pointer (some ⟨b, 0, none⟩)
/-- A node as a value. -/
abbrev ndV (x : Nd) : Value := .agg #[I x.kind, I x.op, I x.a, I x.b, I x.n, I x.r1.col, I x.r1.row, .bool x.r1.absC, .bool x.r1.absR, I x.r2.col, I x.r2.row, .bool x.r2.absC, .bool x.r2.absR]
abbrev refV (r : Ref) : Value := .agg #[I r.col, I r.row, .bool r.absC, .bool r.absR]
/-- The cells of a node. -/
def ndC (x : Nd) : Nat → Value
  | 0 => I x.kind
  | 1 => I x.op
  | 2 => I x.a
  | 3 => I x.b
  | 4 => I x.n
  | 5 => I x.r1.col
  | 6 => I x.r1.row
  | 7 => .bool x.r1.absC
  | 8 => .bool x.r1.absR
  | 9 => I x.r2.col
  | 10 => I x.r2.row
  | 11 => .bool x.r2.absC
  | _ => .bool x.r2.absR
end Go.Proofs.Qxb6500326aGreat
