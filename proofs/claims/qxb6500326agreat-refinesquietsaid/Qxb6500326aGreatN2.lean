import Derived.Test.Qxb6500326aGreatX22
import Derived.Laws.MakeOwn
import Derived.Orders
namespace Go.Proofs.Qxb6500326aGreat
set_option maxRecDepth 100000
set_option linter.unusedVariables false
set_option linter.unusedSimpArgs false
open Go.RowKit Go.PlainAid
/-- A made row of n things of m cells. -/
def Made (M : Array Value) (n m : Nat) (c : Nat → Value) : Prop := M.size = n * m ∧ ∀ j, j < n * m → M[j]? = some (c (j % m))
theorem made_of {z : Array Value} {n m : Nat} {c : Nat → Value} (hz : z.size = m) (hc : ∀ k, k < m → z[k]? = some (c k)) (hm : 0 < m) : Made (madeCells z (n * m)) n m c := by
  refine ⟨size_madeCells _ _, fun j hj => ?_⟩
  have hlt := Nat.mod_lt j hm
  have h1 := hc _ hlt
  unfold madeCells
  rw [Array.getElem?_map, Array.getElem?_range]
  rw [if_pos hj]
  simp only [Option.map_some, hz]
  obtain ⟨h2, h3⟩ := Array.getElem?_eq_some_iff.1 h1
  rw [getElem!_pos z _ h2, h3]
theorem Made.grid {M : Array Value} {n m : Nat} {c : Nat → Value} (h : Made M n m c) (w : World) (T : TypeId) : Grid (w.alloc (.cells M T)) w.heap.size n m (fun _ => c) :=
  Row.new w M T (n * m) _ h.1 (fun j hj => h.2 j hj)
theorem Tryz.info213 : (Tryz.prog.info? 213).map (fun i => (i.zero, i.size, i.bytes)) = some (some (tkV tok0), 9, 64) := by kernel_rfl
theorem Tryz.info220 : (Tryz.prog.info? 220).map (fun i => (i.zero, i.size, i.bytes)) = some (some (mkV ⟨0, 0, 0, 0, 0⟩), 5, 40) := by kernel_rfl
theorem Tryz.info223 : (Tryz.prog.info? 223).map (fun i => (i.zero, i.size, i.bytes)) = some (some (.agg #[I 0, .bool false]), 2, 16) := by kernel_rfl
theorem Tryz.info3 : (Tryz.prog.info? 3).map (fun i => (i.zero, i.size, i.bytes)) = some (some (I 0), 1, 8) := by kernel_rfl
theorem Tryz.info5 : (Tryz.prog.info? 5).map (fun i => (i.zero, i.size, i.bytes)) = some (some (Y 0), 1, 1) := by kernel_rfl
theorem mkOf {t e : TypeId} {z : Value} {sz by_ : Nat} (hu : Tryz.prog.underlying t = some (.slice e)) (hi : (Tryz.prog.info? e).map (fun i => (i.zero, i.size, i.bytes)) = some (some z, sz, by_)) (n : Nat) (hb : by_ * n ≤ 100000) (hn : n ≤ 1000) : ∀ u : World, (Instr.makeSlice t (.int .i64 (n : Int)) (.int .i64 (n : Int))).run Tryz.prog u = .ok (sl u.heap.size n n) (u.alloc (.cells (madeCells z.cells (n * sz)) e)) := by
  intro u
  obtain ⟨i0, hi0, hz0, hz1, hzb⟩ := info_parts hi
  have hq : (i0.bytes : Int) * (n : Int) ≤ 281474976710656 := by
    rw [hzb, ← Int.natCast_mul]; omega
  have := run_make (P := Tryz.prog) u t e i0 z hu hi0 hz0 .i64 .i64 (n : Int) (n : Int) (by omega) (by omega) hq (by omega)
  rw [this, hz1]
  simp
/-! ### The six slices, made in any order -/
def regionOps (n : Nat) : Code → Array Oper
  | .region id ops _ => if id = n then ops else #[]
  | .seq a b => if (regionOps n a).isEmpty then regionOps n b else regionOps n a
  | _ => #[]
def opsOf (f : Func) : Array Oper := match f.body with | some c => regionOps 1 c | none => #[]
def nop : Oper := { dst := none, op := .move (.tmp 0), type := 0, pos := "", after := #[], guard := none }
theorem opsN_size : (opsOf Tryz.f47).size = 9 := by kernel_rfl
def ln6 (i : Nat) : Nat := if i = 1 ∨ i = 4 then 24 else if i = 5 then 288 else 41
def ty6 : Nat → TypeId
  | 0 => 110
  | 1 => 103
  | 2 => 111
  | 3 => 112
  | 4 => 113
  | _ => 81
def el6 : Nat → TypeId
  | 0 => 213
  | 1 => 149
  | 2 => 3
  | 3 => 220
  | 4 => 223
  | _ => 5
def xs6 (f : Nat → Bool) (b : Nat → Nat) (i : Nat) : Value := if f i = true then sl (b i) (ln6 i) (ln6 i) else undef
def st6 (f : Nat → Bool) (b : Nat → Nat) : Act := { tmps := #[.pointer none, xs6 f b 0, xs6 f b 1, xs6 f b 2, xs6 f b 3, xs6 f b 4, xs6 f b 5, undef, undef], defers := [] }
def lst6 (f : Nat → Bool) : Array Bool := #[f 0, f 1, f 2, f 3, f 4, f 5, false, false, false]
theorem op25 (i : Nat) (hi : i < 6) : ∃ o, (opsOf Tryz.f47)[i]? = some o ∧ o.guard = none ∧ o.dst = some (i + 1) ∧ o.op = .makeSlice (ty6 i) (.const (.int .i64 (ln6 i : Nat))) (.const (.int .i64 (ln6 i : Nat))) := by
  have : i = 0 ∨ i = 1 ∨ i = 2 ∨ i = 3 ∨ i = 4 ∨ i = 5 := by omega
  rcases this with e | e | e | e | e | e <;> subst e
  · exact ⟨((opsOf Tryz.f47)[0]?).getD nop, by kernel_rfl, by kernel_rfl, by kernel_rfl, by kernel_rfl⟩
  · exact ⟨((opsOf Tryz.f47)[1]?).getD nop, by kernel_rfl, by kernel_rfl, by kernel_rfl, by kernel_rfl⟩
  · exact ⟨((opsOf Tryz.f47)[2]?).getD nop, by kernel_rfl, by kernel_rfl, by kernel_rfl, by kernel_rfl⟩
  · exact ⟨((opsOf Tryz.f47)[3]?).getD nop, by kernel_rfl, by kernel_rfl, by kernel_rfl, by kernel_rfl⟩
  · exact ⟨((opsOf Tryz.f47)[4]?).getD nop, by kernel_rfl, by kernel_rfl, by kernel_rfl, by kernel_rfl⟩
  · exact ⟨((opsOf Tryz.f47)[5]?).getD nop, by kernel_rfl, by kernel_rfl, by kernel_rfl, by kernel_rfl⟩
theorem ready6 (f0 f1 f2 f3 f4 f5 : Bool) (h : (f0 && f1 && f2 && f3 && f4 && f5) = false) : (Region.ready .any (opsOf Tryz.f47) #[f0, f1, f2, f3, f4, f5, false, false, false]).isEmpty = false ∧ (Region.ready .any (opsOf Tryz.f47) #[f0, f1, f2, f3, f4, f5, false, false, false]).all (fun i => decide (i < 6) && !(#[f0, f1, f2, f3, f4, f5].getD i true)) = true := by
  cases f0 <;> cases f1 <;> cases f2 <;> cases f3 <;> cases f4 <;> cases f5 <;> first | (simp at h; done) | exact ⟨by kernel_rfl, by kernel_rfl⟩
end Go.Proofs.Qxb6500326aGreat
