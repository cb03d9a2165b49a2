import Derived.Test.Qxb6500326aGreatN5
namespace Go.Proofs.Qxb6500326aGreat
set_option maxRecDepth 100000
set_option linter.unusedVariables false
set_option linter.unusedSimpArgs false
open Go.RowKit Go.PlainAid
def fz0 : Fmr := ⟨0, 0, 0, 0, 0, 0, false, false, 0, 0, 0, fun _ => tok0, fun _ => ⟨0, 0, 0, 0, 0, rz, rz⟩, fun _ => 0, fun _ => ⟨0, 0, 0, 0, 0⟩, fun _ => 0, fun _ => false, fun _ => 0⟩
abbrev fmA (b : Nat → Nat) : Array Value := #[sl (b 0) 41 41, I 0, I 0, I 0, sl (b 1) 24 24, I 0, sl (b 2) 41 41, I 0, sl (b 3) 41 41, I 0, .bool false, .bool false, I 0, I 0, sl (b 4) 24 24, sl (b 5) 288 288, I 0]
theorem N6.fm {w0 w : World} {f : Nat → Bool} {b : Nat → Nat} (h : N6 w0 w f b) (hall : ∀ i, i < 6 → f i = true) : FM (w.alloc (.cells (fmA b) 115)) ⟨w.heap.size, b 0, b 1, b 2, b 3, b 4, b 5⟩ fz0 := by
  have hm := fun i hi => h.mks i hi (hall i hi)
  have ne : ∀ i j, i < 6 → j < 6 → i ≠ j → b i ≠ b j := fun i j hi hj hne e => hne (h.inj i j hi hj (hall i hi) (hall j hj) e)
  have hw : ∀ i, i < 6 → w.heap.size ≠ b i := fun i hi e => by have := (hm i hi).2.2; omega
  have f1 : Fr S0 w (w.alloc (.cells (fmA b) 115)) := (Fr.refl _ _).alloc _
  refine ⟨⟨hw 0 (by omega), hw 1 (by omega), hw 2 (by omega), hw 3 (by omega), hw 4 (by omega), hw 5 (by omega), ne 0 1 (by omega) (by omega) (by omega), ne 0 2 (by omega) (by omega) (by omega), ne 0 3 (by omega) (by omega) (by omega), ne 0 4 (by omega) (by omega) (by omega), ne 0 5 (by omega) (by omega) (by omega), ne 1 2 (by omega) (by omega) (by omega), ne 1 3 (by omega) (by omega) (by omega), ne 1 4 (by omega) (by omega) (by omega), ne 1 5 (by omega) (by omega) (by omega), ne 2 3 (by omega) (by omega) (by omega), ne 2 4 (by omega) (by omega) (by omega), ne 2 5 (by omega) (by omega) (by omega), ne 3 4 (by omega) (by omega) (by omega), ne 3 5 (by omega) (by omega) (by omega), ne 4 5 (by omega) (by omega) (by omega)⟩, ?_, ?_, ?_, ?_, ?_, ?_, ?_⟩
  · exact Row.new w (fmA b) 115 17 _ rfl (by intro i hi; rcases i with _ | _ | _ | _ | _ | _ | _ | _ | _ | _ | _ | _ | _ | _ | _ | _ | _ | i <;> first | rfl | omega)
  · exact Grid.of (show Grid w (b 0) 41 9 (fun _ => tkC tok0) from (hm 0 (by omega)).1) f1 (fun c => c)
  · exact Grid.of (show Grid w (b 1) 24 13 (fun _ => ndC ⟨0, 0, 0, 0, 0, rz, rz⟩) from (hm 1 (by omega)).1) f1 (fun c => c)
  · exact f1.row0 (show Row w (b 2) 41 (fun _ => I 0) from (hm 2 (by omega)).1)
  · exact Grid.of (show Grid w (b 3) 41 5 (fun _ => mkC ⟨0, 0, 0, 0, 0⟩) from (hm 3 (by omega)).1) f1 (fun c => c)
  · exact Grid.of (show Grid w (b 4) 24 2 (fun _ => ntC 0 false) from (hm 4 (by omega)).1) f1 (fun c => c)
  · exact f1.row0 (show Row w (b 5) 288 (fun _ => Y 0) from (hm 5 (by omega)).1)
abbrev stA (b : Nat → Nat) (x y z : Value) : Act := { tmps := #[z, sl (b 0) 41 41, sl (b 1) 24 24, sl (b 2) 41 41, sl (b 3) 41 41, sl (b 4) 24 24, sl (b 5) 288 288, x, y], defers := [] }
theorem st_all {f : Nat → Bool} {b : Nat → Nat} (hall : ∀ i, i < 6 → f i = true) : st6 f b = stA b undef undef (.pointer none) := by
  unfold st6 xs6
  rw [hall 0 (by omega), hall 1 (by omega), hall 2 (by omega), hall 3 (by omega), hall 4 (by omega), hall 5 (by omega)]
  rfl
theorem lst_all {f : Nat → Bool} (hall : ∀ i, i < 6 → f i = true) : lst6 f = #[true, true, true, true, true, true, false, false, false] := by
  unfold lst6
  rw [hall 0 (by omega), hall 1 (by omega), hall 2 (by omega), hall 3 (by omega), hall 4 (by omega), hall 5 (by omega)]
theorem run25_6 (b : Nat → Nat) (w : World) : (execOp (stA b undef undef (.pointer none)).eval (((opsOf Tryz.f47)[6]?).getD nop)).run Tryz.prog w = .ok (.value (.agg (fmA b))) w := by kernel_rfl
theorem run25_7 (b : Nat → Nat) (w : World) : (execOp (stA b (.agg (fmA b)) undef (.pointer none)).eval (((opsOf Tryz.f47)[7]?).getD nop)).run Tryz.prog w = .ok (.value (pt w.heap.size)) (w.alloc (.cells (fmA b) 115)) := by kernel_rfl
theorem run25_8 (b : Nat → Nat) (q : Nat) (w : World) : (execOp (stA b (.agg (fmA b)) (pt q) (.pointer none)).eval (((opsOf Tryz.f47)[8]?).getD nop)).run Tryz.prog w = .ok (.value (pt q)) w := by kernel_rfl
set_option maxRecDepth 100000 in
set_option maxHeartbeats 2000000 in
theorem new_any (w : World) : Calls Tryz.prog 47 #[] w fun e w' => ∃ B : FB, e = .returned (pt B.f) ∧ FZ w' B ∧ Fr S0 w w' ∧ (∀ k, FmS B k → w.heap.size ≤ k ∧ k < w'.heap.size) := by
  go_enter Tryz.func47, Tryz.ntmps47
  go_wp2_with fail
  refine wp_region_any (by kernel_rfl) ?_
  have key := fun Q hF => new_dp (Q := Q) w hF 9 (fun _ => false) (fun _ => 0) w.drew ⟨fun i _ e => (by cases e), fun i j _ _ e => (by cases e), (Fr.refl _ _).drew⟩ rfl
  refine key _ (fun f b w1 h6 hall => ?_)
  rw [st_all hall, lst_all hall]
  refine wpAny_all (rs := [6]) (by kernel_rfl) (by simp) (fun i hi => ?_)
  rw [List.mem_singleton] at hi
  subst hi
  refine wpOp_value (o := ((opsOf Tryz.f47)[6]?).getD nop) (by kernel_rfl) (by kernel_rfl) (run25_6 b w1) ?_
  show wpAny Tryz.prog .any (opsOf Tryz.f47) _ 2 #[true, true, true, true, true, true, true, false, false] (stA b (.agg (fmA b)) undef (.pointer none)) w1
  refine wpAny_all (rs := [7]) (by kernel_rfl) (by simp) (fun i hi => ?_)
  rw [List.mem_singleton] at hi
  subst hi
  refine wpOp_value (o := ((opsOf Tryz.f47)[7]?).getD nop) (by kernel_rfl) (by kernel_rfl) (run25_7 b w1) ?_
  show wpAny Tryz.prog .any (opsOf Tryz.f47) _ 1 #[true, true, true, true, true, true, true, true, false] (stA b (.agg (fmA b)) (pt w1.heap.size) (.pointer none)) (w1.alloc (.cells (fmA b) 115))
  refine wpAny_all (rs := [8]) (by kernel_rfl) (by simp) (fun i hi => ?_)
  rw [List.mem_singleton] at hi
  subst hi
  refine wpOp_value (o := ((opsOf Tryz.f47)[8]?).getD nop) (by kernel_rfl) (by kernel_rfl) (run25_8 b w1.heap.size _) ?_
  show wpAny Tryz.prog .any (opsOf Tryz.f47) _ 0 #[true, true, true, true, true, true, true, true, true] (stA b (.agg (fmA b)) (pt w1.heap.size) (pt w1.heap.size)) (w1.alloc (.cells (fmA b) 115))
  refine wpAny_done (by kernel_rfl) ?_ 0
  have hFM := Bx.mk (h6.fm hall)
  have hsz := h6.fr.size
  have hfr := Bx.mk (h6.fr.alloc (.cells (fmA b) 115))
  have hbs : Bx (∀ k, FmS ⟨w1.heap.size, b 0, b 1, b 2, b 3, b 4, b 5⟩ k → w.heap.size ≤ k ∧ k < (w1.alloc (.cells (fmA b) 115)).heap.size) := Bx.mk (by
    have hm := fun i hi => (h6.mks i hi (hall i hi)).2
    rintro k (e | e | e | e | e | e | e)
    · rw [show k = w1.heap.size from e]; simp; exact hsz
    · rw [show k = b 0 from e]; have := hm 0 (by omega); simp; omega
    · rw [show k = b 1 from e]; have := hm 1 (by omega); simp; omega
    · rw [show k = b 2 from e]; have := hm 2 (by omega); simp; omega
    · rw [show k = b 3 from e]; have := hm 3 (by omega); simp; omega
    · rw [show k = b 4 from e]; have := hm 4 (by omega); simp; omega
    · rw [show k = b 5 from e]; have := hm 5 (by omega); simp; omega)
  clear h6 hall
  generalize w1.alloc (.cells (fmA b) 115) = w2 at *
  go_wp2_with fail
  go_ret
  exact ⟨⟨w1.heap.size, b 0, b 1, b 2, b 3, b 4, b 5⟩, rfl, ⟨_, hFM.out, rfl, rfl, rfl, rfl⟩, hfr.out, hbs.out⟩
end Go.Proofs.Qxb6500326aGreat
