import Derived.Test.Qxb6500326aGreatK2
namespace Go.Proofs.Qxb6500326aGreat
set_option maxRecDepth 100000
set_option linter.unusedVariables false
set_option linter.unusedSimpArgs false
open Go.RowKit Go.PlainAid

/-! ### the model's sheet: the small functions -/
theorem plain_es : plainP es = v0 := by unfold plainP; rw [if_pos (by decide)]
theorem shows0 : Sheet (fun _ => es) (fun _ => v0) := shows_none plain_es
section
variable {cb mb fb rb sb : Nat} {T : Nat → ByteArray} {E : Nat → Vl}
set_option maxHeartbeats 400000 in
theorem cRaw_any (c : Int) (w : World) (h : CM w cb mb fb rb sb T E) : Calls Tryz.prog 75 #[pt cb, I c] w fun e w' => e = .returned (.string (rawP T c)) ∧ w = w' := by
  obtain ⟨n, ho⟩ := h.obj
  obtain ⟨-, c1, -, -, -, -⟩ := ho.cm4
  have hlt := ho.lt
  have hlr := h.raw.lt
  by_cases hc : 0 ≤ c ∧ c < 24
  · obtain ⟨i, rfl⟩ : ∃ i : Nat, c = (i : Int) := ⟨c.toNat, by omega⟩
    have hi : i < 24 := by omega
    have hr : Bx (rawP T (i : Int) = T i) := ⟨by unfold rawP; rw [if_pos hc]; rfl⟩
    have e0 := h.raw.cell i hi
    have d0 : decide ((i : Int) < 0) = false := by simp
    have d1 : decide (24 ≤ (i : Int)) = false := by simp; omega
    have hiI : (i : Int) < 24 := by omega
    rw [hr.out]
    clear h ho hc hr
    go_enter Tryz.func75, Tryz.ntmps75
    go_wp2
    go_ret
    exact ⟨rfl, rfl⟩
  · have hr : rawP T c = es := by unfold rawP; rw [if_neg hc]
    rw [hr]
    cases d0 : decide (c < 0) <;> cases d1 : decide (24 ≤ c)
    all_goals first | (exfalso; simp at d0 d1; omega) | skip
    all_goals (
      clear h ho hc hr
      go_enter Tryz.func75, Tryz.ntmps75
      go_wp2
      go_ret
      exact ⟨rfl, rfl⟩)
set_option maxHeartbeats 1000000 in
theorem cValue_any (c : Int) (w : World) (h : CM w cb mb fb rb sb T E) : Calls Tryz.prog 121 #[pt cb, I c] w (VR w (valP E c)) := by
  have ha := h.fr0 ((Fr.refl S0 w).alloc (.cells #[I 0, I 0, .string es] 92))
  obtain ⟨n, ho⟩ := ha.obj
  obtain ⟨-, -, c2, -, -, -⟩ := ho.cm4
  have hz := Bx.mk (v_zero w 92 rfl)
  obtain ⟨q0, q1, q2, y0, y1, y2⟩ := hz.out.v3
  have hf := Bx.mk (fr_zero w 92)
  by_cases hc : 0 ≤ c ∧ c < 24
  · obtain ⟨i, rfl⟩ : ∃ i : Nat, c = (i : Int) := ⟨c.toNat, by omega⟩
    have hi : i < 24 := by omega
    have hr : Bx (valP E (i : Int) = E i) := ⟨by unfold valP; rw [if_pos hc]; rfl⟩
    obtain ⟨e0, e1, e2, -, -, -⟩ := ha.sh.ev3 hi
    have d0 : decide ((i : Int) < 0) = false := by simp
    have d1 : decide (24 ≤ (i : Int)) = false := by simp; omega
    have hiI : (i : Int) < 24 := by omega
    rw [hr.out]
    clear h ho hc hr ha
    generalize E i = x at e0 e1 e2 ⊢
    go_enter Tryz.func121, Tryz.ntmps121
    go_wp2
    go_returns
    exact ⟨rfl, (Fr.refl _ _).alloc _⟩
  · have hr : valP E c = v0 := by unfold valP; rw [if_neg hc]
    rw [hr]
    cases d0 : decide (c < 0) <;> cases d1 : decide (24 ≤ c)
    all_goals first | (exfalso; simp at d0 d1; omega) | skip
    all_goals (
      clear h ho hc hr ha
      go_enter Tryz.func121, Tryz.ntmps121
      go_wp2
      go_returns
      exact ⟨rfl, (Fr.refl _ _).alloc _⟩)
end
theorem Tryz.info9 : (Tryz.prog.info? 9).map (fun i => (i.zero, i.size, i.bytes)) = some (some (.string es), 1, 16) := by kernel_rfl
def MS : Array Value := madeCells (Value.string es).cells (24 * 1)
theorem MS_made : Made MS 24 1 (fun _ => .string es) := made_of rfl (by intro k hk; rcases k with _ | k <;> first | rfl | omega) (by omega)
theorem mk38 : ∀ u : World, (Instr.makeSlice 38 (.int .i64 24) (.int .i64 24)).run Tryz.prog u = .ok (sl u.heap.size 24 24) (u.alloc (.cells MS 9)) := mkOf Tryz.underlying38 Tryz.info9 24 (by omega) (by omega)
theorem mk39 : ∀ u : World, (Instr.makeSlice 118 (.int .i64 24) (.int .i64 24)).run Tryz.prog u = .ok (sl u.heap.size 24 24) (u.alloc (.cells (M47 24) 92)) := mk47 24 (by omega)
theorem ms_row {A : Array Value} (h : MS = A) (w : World) {H : Nat} (e : w.heap.size = H) : Row (w.alloc (.cells A 9)) H 24 (fun _ => .string es) := by
  subst h; exact MS_made.gridAt w 9 e
theorem mv_row {A : Array Value} (h : M47 24 = A) (w : World) {H : Nat} (e : w.heap.size = H) : EL (w.alloc (.cells A 92)) H 24 (fun _ => v0) := by
  subst h; exact (M47_made 24).gridAt w 92 e
theorem cm_mk {w1 w' : World} {cb mb fb rb sb : Nat} {n : Int} (hm : MEv w1 mb fb) (hf : Fr S0 w1 w') (h1 : Row w' cb 4 (cmC mb rb sb n)) (h2 : Row w' rb 24 (fun _ => .string es)) (h3 : EL w' sb 24 (fun _ => v0))
    (hM : ∀ k, MeS mb fb k → k < w1.heap.size) (g1 : w1.heap.size ≤ cb) (g2 : w1.heap.size ≤ rb) (g3 : w1.heap.size ≤ sb) (k1 : cb ≠ rb) (k2 : cb ≠ sb) (k3 : rb ≠ sb) : CM w' cb mb fb rb sb (fun _ => es) (fun _ => v0) := by
  have a1 := hM mb (.inl rfl)
  have a2 := hM fb (.inr rfl)
  exact ⟨⟨n, h1⟩, hm.fr hf (fun e => e) (fun e => e), h2, h3, ⟨by omega, by omega, k1, k2⟩, ⟨by omega, by omega, k3⟩, ⟨by omega, by omega⟩⟩
theorem cm_obj (w : World) (mb rb sb : Nat) (T : TypeId) {H : Nat} (e : w.heap.size = H) : Row (w.alloc (.cells #[pt mb, sl rb 24 24, sl sb 24 24, I 0] T)) H 4 (cmC mb rb sb 0) := by
  subst e
  exact Row.new w _ T 4 _ rfl (by intro i hi; rcases i with _ | _ | _ | _ | i <;> first | rfl | omega)
set_option maxHeartbeats 2000000 in
theorem cNew_any (w : World) : Calls Tryz.prog 71 #[] w fun e w' => ∃ cb mb fb rb sb, e = .returned (pt cb) ∧ CM w' cb mb fb rb sb (fun _ => es) (fun _ => v0) ∧ Fr S0 w w' ∧ (∀ k, CmS cb mb fb rb sb k → w.heap.size ≤ k ∧ k < w'.heap.size) := by
  have k1 := mk38
  have k2 := mk39
  generalize hA : MS = A1 at k1
  generalize hB : M47 24 = A2 at k2
  have hA := Bx.mk hA
  have hB := Bx.mk hB
  go_enter Tryz.func71, Tryz.ntmps71
  go_wp2_with (first | (go_at_call 107; refine (meNew_any _).mono ?_; rintro e w1 ⟨mb, fb, rfl, hm, hf, hM⟩; have hm := Bx.mk hm; have hf := Bx.mk hf; have hM := Bx.mk hM))
  go_region
  all_goals go_wp2_with fail
  all_goals go_ret
  · have hC := cm_mk (w' := ((w1.alloc (.cells A1 9)).alloc (.cells A2 92)).alloc (.cells #[pt mb, sl w1.heap.size 24 24, sl (w1.heap.size + 1) 24 24, I 0] 143)) hm.out (((Fr.refl S0 w1).alloc _).alloc _ |>.alloc _) (cm_obj _ mb w1.heap.size (w1.heap.size + 1) 143 (H := w1.heap.size + 2) (by simp)) (((ms_row hA.out w1 rfl).alloc _).alloc _) ((mv_row hB.out _ (H := w1.heap.size + 1) (by simp)).alloc _) (fun k hk => (hM.out k hk).2) (by omega) (by omega) (by omega) (by omega) (by omega) (by omega)
    refine ⟨_, mb, fb, _, _, rfl, hC.fr0 (Fr.refl S0 _).drew, (hf.out.trans (((Fr.refl S0 w1).alloc _).alloc _ |>.alloc _).drew), fun k hk => ⟨?_, hC.lt k hk⟩⟩
    have := hf.out.size
    rcases hk with rfl | rfl | rfl | rfl | rfl
    · omega
    · exact (hM.out _ (.inl rfl)).1
    · exact (hM.out _ (.inr rfl)).1
    · omega
    · omega
  · have hC := cm_mk (w' := ((w1.alloc (.cells A2 92)).alloc (.cells A1 9)).alloc (.cells #[pt mb, sl (w1.heap.size + 1) 24 24, sl w1.heap.size 24 24, I 0] 143)) hm.out (((Fr.refl S0 w1).alloc _).alloc _ |>.alloc _) (cm_obj _ mb (w1.heap.size + 1) w1.heap.size 143 (H := w1.heap.size + 2) (by simp)) ((ms_row hA.out _ (H := w1.heap.size + 1) (by simp)).alloc _) (((mv_row hB.out w1 rfl).alloc _).alloc _) (fun k hk => (hM.out k hk).2) (by omega) (by omega) (by omega) (by omega) (by omega) (by omega)
    refine ⟨_, mb, fb, _, _, rfl, hC.fr0 (Fr.refl S0 _).drew, (hf.out.trans (((Fr.refl S0 w1).alloc _).alloc _ |>.alloc _).drew), fun k hk => ⟨?_, hC.lt k hk⟩⟩
    have := hf.out.size
    rcases hk with rfl | rfl | rfl | rfl | rfl
    · omega
    · exact (hM.out _ (.inl rfl)).1
    · exact (hM.out _ (.inr rfl)).1
    · omega
    · omega
end Go.Proofs.Qxb6500326aGreat
