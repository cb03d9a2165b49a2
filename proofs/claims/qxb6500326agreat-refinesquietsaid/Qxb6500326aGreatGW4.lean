import Derived.Test.Qxb6500326aGreatGW3
namespace Go.Proofs.Qxb6500326aGreat.Gr
set_option maxRecDepth 100000
set_option linter.unusedVariables false
set_option linter.unusedSimpArgs false
open Go.RowKit
attribute [local go_sem] bv_and bv_or bv_andNot bv_and_all bv_andNot_all bv_all_andNot bv_eq_all bv_ne_all bv_pred bv_pred' bv_eq_zero bv_ne_zero bv_eq bv_ne bv_bit

set_option maxHeartbeats 400000 in
theorem mNew_any (w : World) :
    Calls Tryz.prog 164 #[] w fun e w' => e = .returned (pt (w.heap.size + 1)) ∧ MG w' w.heap.size (fun _ => 0#32) ∧ Fr S0 w w' ∧ w'.heap.size = w.heap.size + 2 := by
  have hmk := mk44
  go_enter Tryz.func164, Tryz.ntmps164
  go_wp2
  go_ret
  have h1 : Row (w.alloc (.cells (zU 24) 117)) w.heap.size 24 (fun _ => U 0#32) := Row.zU _ _ _
  refine ⟨rfl, ⟨h1.alloc _, 0, 0, ?_⟩, ((Fr.refl _ _).alloc _).alloc _, by simp⟩
  have := Row.new (w.alloc (.cells (zU 24) 117)) #[sl w.heap.size 24 24, .int .i64 0, .int .i64 0] 199 3 (mcells w.heap.size 0 0) rfl (fun i hi => by
    match i, hi with
    | 0, _ => rfl
    | 1, _ => rfl
    | 2, _ => rfl)
  simpa using this
set_option maxHeartbeats 400000 in
theorem mSet_ok (b : Nat) (R : Nat → BitVec 32) (c : Nat) (s : BitVec 32) (w : World) (hm : MG w b R) (hc : c < 24) (hs : s &&& Out = 0#32) :
    Calls Tryz.prog 166 #[pt (b + 1), .int .i64 c, U s] w fun e w' => e = .returned (I 0) ∧ MG w' b (upd R c s) ∧ Fr (fun k => k = b ∨ k = b + 1) w w' := by
  obtain ⟨p, q, ho⟩ := hm.obj
  have hc0 := hm.cell0
  have hc1 := ho.cell 1 (by omega)
  simp only [mcells] at hc1
  have hz1 := ho.frozen 1
  have hcc := hm.row.cell c hc
  have hcz := hm.row.frozen c
  have h3 : (s &&& 4278190080#32 != 0#32) = false := by simp [hs]
  go_enter Tryz.func166, Tryz.ntmps166
  go_wp2
  go_ret
  refine ⟨rfl, ⟨((hm.row.set_other (by simp) _).set c _).congr (fun i hi => ?_), wrap64 (p + 1), q, ?_⟩, (((Fr.refl _ w).setCell (p := ⟨b + 1, 1, none⟩) (.inl (.inr rfl)) _).setCell (p := ⟨b, c, none⟩) (.inl (.inl rfl)) _)⟩
  · simp only [upd]; split <;> rfl
  · exact ((ho.set 1 _).congr (fun i hi => by
      match i, hi with
      | 0, _ => rfl
      | 1, _ => rfl
      | 2, _ => rfl)).set_other (by simp) _
set_option maxHeartbeats 400000 in
theorem mSet_bad (b : Nat) (R : Nat → BitVec 32) (c : Int) (s : BitVec 32) (w : World) (hm : MG w b R) (hg : ¬ good c s) :
    Calls Tryz.prog 166 #[pt (b + 1), .int .i64 c, U s] w fun e w' => e = .returned (I 9) ∧ MG w' b R ∧ Fr (fun k => k = b + 1) w w' := by
  obtain ⟨p, q, ho⟩ := hm.obj
  have hc1 := ho.cell 1 (by omega)
  simp only [mcells] at hc1
  have hz1 := ho.frozen 1
  have hm1 : MG (w.setCell ⟨b + 1, 1, none⟩ (I (wrap64 (p + 1)))) b R := ⟨hm.row.set_other (by simp) _, wrap64 (p + 1), q, (ho.set 1 _).congr (fun i hi => by
    match i, hi with
    | 0, _ => rfl
    | 1, _ => rfl
    | 2, _ => rfl)⟩
  have hf1 : Fr (fun k => k = b + 1) w (w.setCell ⟨b + 1, 1, none⟩ (I (wrap64 (p + 1)))) := (Fr.refl (fun k => k = b + 1) w).setCell (p := ⟨b + 1, 1, none⟩) (.inl rfl) _
  clear ho hm
  by_cases h0 : c < 0
  · go_enter Tryz.func166, Tryz.ntmps166
    go_wp2
    go_ret
    exact ⟨rfl, hm1, hf1⟩
  · have hd : decide (c < 0) = false := by simpa using h0
    by_cases h1 : 24 ≤ c
    · go_enter Tryz.func166, Tryz.ntmps166
      go_wp2
      go_ret
      exact ⟨rfl, hm1, hf1⟩
    · have hd1 : decide (24 ≤ c) = false := by simpa using h1
      have h3 : (s &&& 4278190080#32 != 0#32) = true := by
        rw [bne_iff_ne]
        intro h
        exact hg ⟨by omega, by omega, h⟩
      clear hg
      go_enter Tryz.func166, Tryz.ntmps166
      go_wp2
      go_ret
      exact ⟨rfl, hm1, hf1⟩
/-- The arms of a Set that is refused. -/
def BadArm (c : Int) (s : BitVec 32) : Prop := decide (0 ≤ c) = false ∨ (0 ≤ c ∧ decide (c < 24) = false) ∨ (0 ≤ c ∧ c < 24 ∧ (s &&& 4278190080#32 == 0#32) = false)
theorem badArm {c : Int} {s : BitVec 32} (hg : ¬ good c s) : BadArm c s := by
  unfold BadArm
  by_cases h0 : 0 ≤ c
  · by_cases h1 : c < 24
    · refine .inr (.inr ⟨h0, h1, ?_⟩)
      rw [beq_eq_false_iff_ne]
      exact fun h => hg ⟨h0, h1, h⟩
    · exact .inr (.inl ⟨h0, by simpa using h1⟩)
  · exact .inl (by simpa using h0)
end Go.Proofs.Qxb6500326aGreat.Gr
