import Derived.Test.Qxb6500326aGreatGX1
import Derived.Test.Qxb6500326aGreatGInv
namespace Go.Proofs.Qxb6500326aGreat.Gr
set_option maxRecDepth 100000
set_option linter.unusedVariables false
set_option linter.unusedSimpArgs false
open Go.RowKit
attribute [local go_sem] bv_and bv_or bv_andNot bv_and_all bv_andNot_all bv_all_andNot bv_eq_all bv_ne_all bv_pred bv_pred' bv_eq_zero bv_ne_zero bv_eq bv_ne bv_bit

def x0 : XS := { reads := fun _ => 0#32, readBy := fun _ => 0#32, level := fun _ => 0, need := fun _ => 0, cyc := 0#32, touched := 0 }
theorem x0_inv : XI x0 (fun _ => 0#32) :=
  ⟨rfl, fun _ _ d hd => by simp at hd, fun _ _ _ _ => by simp [x0], fun _ _ d hd => by simp [x0] at hd, fun c hc => by rw [lev_none hc]; rfl, by rw [cyc_none]; rfl⟩
set_option maxHeartbeats 400000 in
theorem xNew_any (w : World) :
    Calls Tryz.prog 49 #[] w fun e w' => e = .returned (pt w.heap.size) ∧ XG w' w.heap.size x0 ∧ Fr S0 w w' ∧ w'.heap.size = w.heap.size + 5 := by
  have hmk := mk44
  have hmk2 := mk35
  go_enter Tryz.func49, Tryz.ntmps49
  go_wp2
  go_ret
  refine ⟨rfl, ?_, ((((Fr.refl _ _).alloc _).alloc _).alloc _).alloc _ |>.alloc _, by simp⟩
  generalize ho : Obj.cells #[sl (w.heap.size + 1) 24 24, sl (w.heap.size + 1 + 1) 24 24, sl (w.heap.size + 1 + 1 + 1) 24 24, .int .u32 0, sl (w.heap.size + 1 + 1 + 1 + 1) 24 24, .int .i64 0] 123 = ob
  have r0 : Row (w.alloc ob) w.heap.size 6 (xcells w.heap.size 0#32 0) := by
    rw [← ho]
    refine Row.new _ _ _ _ _ rfl (fun i hi => ?_)
    match i, hi with
    | 0, _ => rfl
    | 1, _ => rfl
    | 2, _ => rfl
    | 3, _ => rfl
    | 4, _ => rfl
    | 5, _ => rfl
  have r1 : Row ((w.alloc ob).alloc (.cells (zU 24) 117)) (w.heap.size + 1) 24 (fun _ => U 0#32) := by simpa using Row.zU (w.alloc ob) 24 117
  have r2 : Row (((w.alloc ob).alloc (.cells (zU 24) 117)).alloc (.cells (zU 24) 117)) (w.heap.size + 2) 24 (fun _ => U 0#32) := by simpa using Row.zU ((w.alloc ob).alloc (.cells (zU 24) 117)) 24 117
  have r3 : Row ((((w.alloc ob).alloc (.cells (zU 24) 117)).alloc (.cells (zU 24) 117)).alloc (.cells (zI 24) 3)) (w.heap.size + 3) 24 (fun _ => I 0) := by simpa using Row.zI (((w.alloc ob).alloc (.cells (zU 24) 117)).alloc (.cells (zU 24) 117)) 24 3
  have r4 : Row (((((w.alloc ob).alloc (.cells (zU 24) 117)).alloc (.cells (zU 24) 117)).alloc (.cells (zI 24) 3)).alloc (.cells (zI 24) 3)) (w.heap.size + 4) 24 (fun _ => I 0) := by simpa using Row.zI ((((w.alloc ob).alloc (.cells (zU 24) 117)).alloc (.cells (zU 24) 117)).alloc (.cells (zI 24) 3)) 24 3
  exact ⟨(((r0.alloc _).alloc _).alloc _).alloc _, ((r1.alloc _).alloc _).alloc _, (r2.alloc _).alloc _, r3.alloc _, r4⟩
theorem ripens_sound (R : Nat → BitVec 32) {q k : Nat} (hk : k < 24) : ripens R (lvs R q).1 (lvs R q).2 k = (!(lvs R q).2.getLsbD k && (R k &&& ~~~(lvs R q).2 == 0#32)) := by
  unfold ripens
  congr 1
  have := (lvs_inv R q k hk).1
  cases h : (lvs R q).2.getLsbD k
  · have h2 : ¬ 0 ≤ (lvs R q).1 k := fun h2 => by rw [this.2 h2] at h; cases h
    simp; omega
  · have := this.1 h
    simp; omega
theorem ripens_lev (R : Nat → BitVec 32) {q k : Nat} (hq : q < 24) (hk : k < 24) (h : ripens R (lvs R q).1 (lvs R q).2 k = true) : lev R k = (q : Int) := by
  have h1 : (lvs R (q + 1)).1 k = (q : Int) := by rw [lvs_fst, h]; rfl
  have := lvs_stay R (show q + 1 ≤ 24 by omega) hk (by rw [h1]; omega)
  unfold lev
  rw [this, h1]
theorem cyc_sound (R : Nat → BitVec 32) : cyc R = 16777215#32 &&& ~~~(lvs R 24).2 := by
  refine set_ext (fun i _ => ?_)
  rw [mem_cyc, mem_andNot, mem_All]
  by_cases h : i < 24
  · have := sound_iff R h
    cases hs : (lvs R 24).2.getLsbD i
    · have : ¬ 0 ≤ lev R i := fun h2 => by rw [this.2 h2] at hs; cases hs
      simp [h]; omega
    · have := this.1 hs
      simp [h]; omega
  · simp [h]
end Go.Proofs.Qxb6500326aGreat.Gr
