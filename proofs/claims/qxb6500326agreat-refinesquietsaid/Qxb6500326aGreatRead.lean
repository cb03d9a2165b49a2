import Derived.Test.Qxb6500326aGreatM1
import Derived.WalkKit
import Derived.ProofKit
import Derived.OpenShut
import Derived.Deep.Slices
namespace Go.Proofs.Qxb6500326aGreat
set_option linter.unusedVariables false
set_option linter.unusedSimpArgs false
open Go.ChangeShapes Go.WideShapes Go.ChangeAt Go.RowKit

theorem Tryz.own : ownKnob Tryz.prog.godebug = none := by kernel_rfl
theorem Tryz.laidOut : laidOutB Tryz.prog = true := by kernel_rfl
theorem Tryz.cells30 : Tryz.prog.cellsOf 30 = 6 := by kernel_rfl
theorem Tryz.cells3 : Tryz.prog.cellsOf 3 = 1 := by kernel_rfl
theorem Tryz.cells9 : Tryz.prog.cellsOf 9 = 1 := by kernel_rfl
theorem Tryz.bytes30 : Tryz.prog.bytesOf 30 = 64 := by kernel_rfl

set_option maxRecDepth 100000 in
/-- One op of the script, out of its reading. -/
theorem opAt_of {H : Type} {enc : TypeId × Value → H} {w : World} {b o n : Nat} {cs : List Value} {x : DataW H × List MemPlace}
    (hcs : w.cells? 0 ⟨b, o, none⟩ 6 = some cs) (h : DataW.trod enc Tryz.prog w 0 (fun _ => true) true n 30 cs = some x) : ∃ kd A Bv C S T, OpAt w b o kd A Bv C S T := by
  obtain ⟨-, hlen, hcell⟩ := World.cells?_some hcs
  obtain ⟨xs, m, rfl, -, -, hxl, hf⟩ := DataW.trod_struct Tryz.underlying30 h
  have f0 : DataW.trod enc Tryz.prog w 0 (fun _ => true) true m 3 ((cs.drop 0).take (Tryz.prog.cellsOf 3)) = xs[0]? := hf 0 _ rfl
  have f1 : DataW.trod enc Tryz.prog w 0 (fun _ => true) true m 3 ((cs.drop 1).take (Tryz.prog.cellsOf 3)) = xs[1]? := hf 1 _ rfl
  have f2 : DataW.trod enc Tryz.prog w 0 (fun _ => true) true m 3 ((cs.drop 2).take (Tryz.prog.cellsOf 3)) = xs[2]? := hf 2 _ rfl
  have f3 : DataW.trod enc Tryz.prog w 0 (fun _ => true) true m 3 ((cs.drop 3).take (Tryz.prog.cellsOf 3)) = xs[3]? := hf 3 _ rfl
  have f4 : DataW.trod enc Tryz.prog w 0 (fun _ => true) true m 9 ((cs.drop 4).take (Tryz.prog.cellsOf 9)) = xs[4]? := hf 4 _ rfl
  have f5 : DataW.trod enc Tryz.prog w 0 (fun _ => true) true m 9 ((cs.drop 5).take (Tryz.prog.cellsOf 9)) = xs[5]? := hf 5 _ rfl
  match xs, hxl with
  | [x0, x1, x2, x3, x4, x5], _ =>
    match cs, hlen with
    | [v0, v1, v2, v3, v4, v5], _ =>
      simp only [Tryz.cells3, Tryz.cells9, List.drop, List.take] at f0 f1 f2 f3 f4 f5
      obtain ⟨kd, e0, -, -⟩ := DataW.trod_int Tryz.underlying3 f0
      obtain ⟨A, e1, -, -⟩ := DataW.trod_int Tryz.underlying3 f1
      obtain ⟨Bv, e2, -, -⟩ := DataW.trod_int Tryz.underlying3 f2
      obtain ⟨C, e3, -, -⟩ := DataW.trod_int Tryz.underlying3 f3
      obtain ⟨S, e4, -, -⟩ := DataW.trod_string Tryz.underlying9 f4
      obtain ⟨T, e5, -, -⟩ := DataW.trod_string Tryz.underlying9 f5
      simp only [List.cons.injEq, and_true] at e0 e1 e2 e3 e4 e5
      have c0 := hcell 0 (by omega)
      have c1 := hcell 1 (by omega)
      have c2 := hcell 2 (by omega)
      have c3 := hcell 3 (by omega)
      have c4 := hcell 4 (by omega)
      have c5 := hcell 5 (by omega)
      simp [Addr.add, e0, e1, e2, e3, e4, e5] at c0 c1 c2 c3 c4 c5
      exact ⟨kd, A, Bv, C, S, T, c0, c1, c2, c3, c4, c5⟩
set_option maxRecDepth 100000 in
/-- The script, out of its reading. -/
theorem script_of {H : Type} {enc : TypeId × Value → H} {W : World} {ad : Option Addr} {len cap : Nat} {d : DataW H} {p : List MemPlace}
    (h : DataW.Trod enc Tryz.prog W 0 (fun _ => true) true 22 (.slice ad len cap) d p) (hlt : ∀ x ∈ p, x.block < W.heap.size)
    (hsz : (DataW.weightsEach Tryz.prog [22] [d]).all (fun x => decide (x ≤ reachBytes)) = true) : Script W ad len ∧ len ≤ 140737488355328 := by
  obtain ⟨fuel, hf⟩ := h
  rcases Go.Deep.open_slice Tryz.underlying22 hf with ⟨hcs, -⟩ | ⟨a, len', cap', m, n, D, Pl, hcs, -, hl, hm, hmm, hx, hel⟩
  · simp [Value.cells] at hcs
    obtain ⟨-, rfl, -⟩ := hcs
    exact ⟨fun i hi => absurd hi (by omega), by omega⟩
  · simp [Value.cells] at hcs
    obtain ⟨rfl, rfl, rfl⟩ := hcs
    simp only [Prod.mk.injEq] at hx
    obtain ⟨rfl, rfl⟩ := hx
    have hb := sized_slice hsz (j := 0) (t := 22) (e := 30) rfl rfl Tryz.underlying22
    rw [Tryz.bytes30] at hb
    simp only [List.length_map, List.length_range, reachBytes] at hb
    have hm' : m = cap := by simpa using hmm
    refine ⟨fun i hi => ?_, by omega⟩
    rw [Tryz.cells30] at hel hlt
    obtain ⟨cs', h1, h2⟩ := hel i (by omega)
    obtain ⟨b, o, spot⟩ := a
    have hspot : spot = none := by
      obtain ⟨cs0, g1, -⟩ := hel 0 (by omega)
      obtain ⟨-, gl, gc⟩ := World.cells?_some g1
      have g0 := gc 0 (by omega)
      have : cs0[0]? = some (cs0[0]'(by omega)) := List.getElem?_eq_getElem (by omega)
      rw [this] at g0
      simpa [Addr.add] using World.cell?_spot g0
    subst hspot
    have hadd : (⟨b, o, none⟩ : Addr).add (i * 6) = ⟨b, o + i * 6, none⟩ := by
      unfold Addr.add
      split
      · rename_i h0; rw [h0]; rfl
      · rfl
    rw [hadd] at h1
    obtain ⟨kd, A, Bv, C, S, T, hop⟩ := opAt_of h1 h2
    have hbl : b < W.heap.size := hlt (.cell b o) (List.mem_append.2 (.inl (MemPlace.mem_row.2 ⟨0, by omega, by simp⟩)))
    exact ⟨b, o, kd, A, Bv, C, S, T, rfl, hbl, hop⟩

end Go.Proofs.Qxb6500326aGreat
