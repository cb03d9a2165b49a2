import Derived.Test.Qxb6500326aGreatN2
import Derived.Test.Qxb6500326aGreatY4
namespace Go.Proofs.Qxb6500326aGreat
set_option maxRecDepth 100000
set_option linter.unusedVariables false
set_option linter.unusedSimpArgs false
open Go.RowKit Go.PlainAid
def MkR (w : World) (b : Nat) : Nat → Prop
  | 0 => Grid w b 41 9 (fun _ => tkC tok0)
  | 1 => Grid w b 24 13 (fun _ => ndC ⟨0, 0, 0, 0, 0, rz, rz⟩)
  | 2 => Grid w b 41 1 (fun _ _ => I 0)
  | 3 => Grid w b 41 5 (fun _ => mkC ⟨0, 0, 0, 0, 0⟩)
  | 4 => Grid w b 24 2 (fun _ => ntC 0 false)
  | _ => Grid w b 288 1 (fun _ _ => Y 0)
theorem MkR.fr0 {w w' : World} {b i : Nat} (h : MkR w b i) (f : Fr S0 w w') : MkR w' b i := by
  unfold MkR at *
  split at h <;> exact Grid.of h f (fun c => c)
structure N6 (w0 w : World) (f : Nat → Bool) (b : Nat → Nat) : Prop where
  mks : ∀ i, i < 6 → f i = true → MkR w (b i) i ∧ w0.heap.size ≤ b i ∧ b i < w.heap.size
  inj : ∀ i j, i < 6 → j < 6 → f i = true → f j = true → b i = b j → i = j
  fr : Fr S0 w0 w
theorem N6.step {w0 w : World} {f : Nat → Bool} {b : Nat → Nat} (h : N6 w0 w f b) {i : Nat} (hi : i < 6) (hf : f i = false) (o : Obj) (hM : MkR (w.alloc o) w.heap.size i) : N6 w0 (w.alloc o) (upd f i true) (upd b i w.heap.size) := by
  have f1 : Fr S0 w (w.alloc o) := (Fr.refl _ _).alloc o
  have hs := h.fr.size
  refine ⟨fun j hj hfj => ?_, fun j k hj hk hfj hfk e => ?_, h.fr.alloc o⟩
  · by_cases c : j = i
    · subst c; rw [upd_same]; exact ⟨hM, hs, by simp⟩
    · rw [upd_other _ _ c] at hfj ⊢
      obtain ⟨h1, h2, h3⟩ := h.mks j hj hfj
      exact ⟨h1.fr0 f1, h2, by simp; omega⟩
  · by_cases c : j = i
    · by_cases c2 : k = i
      · rw [c, c2]
      · rw [upd_other _ _ c2] at hfk e
        rw [c, upd_same] at e
        have := (h.mks k hk hfk).2.2
        omega
    · rw [upd_other _ _ c] at hfj e
      by_cases c2 : k = i
      · rw [c2, upd_same] at e
        have := (h.mks j hj hfj).2.2
        omega
      · rw [upd_other _ _ c2] at hfk e
        exact h.inj j k hj hk hfj hfk e
theorem one1 {z : Array Value} {c : Nat → Value} (h : z[0]? = some (c 0)) : ∀ k, k < 1 → z[k]? = some (c k) := by
  intro k hk
  rw [show k = 0 from by omega]
  exact h
theorem make6 (i : Nat) (hi : i < 6) : ∃ M : Array Value, (∀ u : World, (Instr.makeSlice (ty6 i) (.int .i64 (ln6 i : Nat)) (.int .i64 (ln6 i : Nat))).run Tryz.prog u = .ok (sl u.heap.size (ln6 i) (ln6 i)) (u.alloc (.cells M (el6 i)))) ∧ ∀ u : World, MkR (u.alloc (.cells M (el6 i))) u.heap.size i := by
  have : i = 0 ∨ i = 1 ∨ i = 2 ∨ i = 3 ∨ i = 4 ∨ i = 5 := by omega
  rcases this with e | e | e | e | e | e <;> subst e
  · exact ⟨_, mkOf Tryz.underlying110 Tryz.info213 41 (by omega) (by omega), fun u => (made_of (z := (tkV tok0).cells) (m := 9) (n := 41) (c := tkC tok0) rfl (nine rfl rfl rfl rfl rfl rfl rfl rfl rfl) (by omega)).grid u 213⟩
  · exact ⟨_, mkOf Tryz.underlying103 Tryz.info149 24 (by omega) (by omega), fun u => (made_of (z := (ndV ⟨0, 0, 0, 0, 0, rz, rz⟩).cells) (m := 13) (n := 24) (c := ndC ⟨0, 0, 0, 0, 0, rz, rz⟩) rfl (by
      intro k hk
      have : k = 0 ∨ k = 1 ∨ k = 2 ∨ k = 3 ∨ k = 4 ∨ k = 5 ∨ k = 6 ∨ k = 7 ∨ k = 8 ∨ k = 9 ∨ k = 10 ∨ k = 11 ∨ k = 12 := by omega
      rcases this with e | e | e | e | e | e | e | e | e | e | e | e | e <;> subst e <;> rfl) (by omega)).grid u 149⟩
  · exact ⟨_, mkOf Tryz.underlying111 Tryz.info3 41 (by omega) (by omega), fun u => (made_of (z := (I 0).cells) (m := 1) (n := 41) (c := fun _ => I 0) rfl (one1 rfl) (by omega)).grid u 3⟩
  · exact ⟨_, mkOf Tryz.underlying112 Tryz.info220 41 (by omega) (by omega), fun u => (made_of (z := (mkV ⟨0, 0, 0, 0, 0⟩).cells) (m := 5) (n := 41) (c := mkC ⟨0, 0, 0, 0, 0⟩) rfl (by
      intro k hk
      have : k = 0 ∨ k = 1 ∨ k = 2 ∨ k = 3 ∨ k = 4 := by omega
      rcases this with e | e | e | e | e <;> subst e <;> rfl) (by omega)).grid u 220⟩
  · exact ⟨_, mkOf Tryz.underlying113 Tryz.info223 24 (by omega) (by omega), fun u => (made_of (z := (Value.agg #[I 0, .bool false]).cells) (m := 2) (n := 24) (c := ntC 0 false) rfl (by
      intro k hk
      have : k = 0 ∨ k = 1 := by omega
      rcases this with e | e <;> subst e <;> rfl) (by omega)).grid u 223⟩
  · exact ⟨_, mkOf Tryz.underlying81 Tryz.info5 288 (by omega) (by omega), fun u => (made_of (z := (Y 0).cells) (m := 1) (n := 288) (c := fun _ => Y 0) rfl (one1 rfl) (by omega)).grid u 5⟩
theorem wpOp_value {P : Program} {ops : Array Oper} {Q : Exit → Act → World → Prop} {i : Nat} {o : Oper} {K : Act → World → Prop} {a : Act} {w w' : World} {v : Value} (ho : ops[i]? = some o) (hg : o.guard = none) (hr : (execOp a.eval o).run P w = .ok (.value v) w') (h : K (a.put o.dst v) w') : wpOp P ops Q i K a w := by
  unfold wpOp
  rw [ho]
  simp only
  rw [if_pos (by simp [Region.wanted, hg])]
  left
  unfold Oper.wp
  rw [hr]
  exact h
def fal (f : Nat → Bool) : Nat := (if f 0 = true then 0 else 1) + (if f 1 = true then 0 else 1) + (if f 2 = true then 0 else 1) + (if f 3 = true then 0 else 1) + (if f 4 = true then 0 else 1) + (if f 5 = true then 0 else 1)
theorem fal_step {f : Nat → Bool} {i : Nat} (hi : i < 6) (h : f i = false) : fal (upd f i true) + 1 = fal f := by
  have : i = 0 ∨ i = 1 ∨ i = 2 ∨ i = 3 ∨ i = 4 ∨ i = 5 := by omega
  rcases this with e | e | e | e | e | e <;> subst e <;> (unfold fal upd; simp [h]; try omega)
theorem st_step {f : Nat → Bool} {b : Nat → Nat} {i : Nat} (hi : i < 6) (q : Nat) : (st6 f b).put (some (i + 1)) (sl q (ln6 i) (ln6 i)) = st6 (upd f i true) (upd b i q) := by
  have : i = 0 ∨ i = 1 ∨ i = 2 ∨ i = 3 ∨ i = 4 ∨ i = 5 := by omega
  rcases this with e | e | e | e | e | e <;> subst e <;> simp [st6, Act.put, xs6, upd]
theorem lst_step {f : Nat → Bool} {i : Nat} (hi : i < 6) : (lst6 f).setIfInBounds i true = lst6 (upd f i true) := by
  have : i = 0 ∨ i = 1 ∨ i = 2 ∨ i = 3 ∨ i = 4 ∨ i = 5 := by omega
  rcases this with e | e | e | e | e | e <;> subst e <;> simp [lst6, upd]
theorem all_six {f : Nat → Bool} (h : (f 0 && f 1 && f 2 && f 3 && f 4 && f 5) = true) (i : Nat) (hi : i < 6) : f i = true := by
  simp at h
  have : i = 0 ∨ i = 1 ∨ i = 2 ∨ i = 3 ∨ i = 4 ∨ i = 5 := by omega
  rcases this with e | e | e | e | e | e <;> subst e <;> simp [h]
theorem get_six {f : Nat → Bool} {i : Nat} (hi : i < 6) (h : (#[f 0, f 1, f 2, f 3, f 4, f 5].getD i true) = false) : f i = false := by
  have : i = 0 ∨ i = 1 ∨ i = 2 ∨ i = 3 ∨ i = 4 ∨ i = 5 := by omega
  rcases this with e | e | e | e | e | e <;> subst e <;> simpa using h
theorem new_dp {Q : Exit → Act → World → Prop} (w0 : World) (hF : ∀ f b w, N6 w0 w f b → (∀ i, i < 6 → f i = true) → wpAny Tryz.prog .any (opsOf Tryz.f47) Q 3 (lst6 f) (st6 f b) w) :
    ∀ (fuel : Nat) (f : Nat → Bool) (b : Nat → Nat) (w : World), N6 w0 w f b → fal f + 3 = fuel → wpAny Tryz.prog .any (opsOf Tryz.f47) Q fuel (lst6 f) (st6 f b) w
  | 0, f, b, w, h, e => by omega
  | fuel + 1, f, b, w, h, e => by
    cases ha : (f 0 && f 1 && f 2 && f 3 && f 4 && f 5) with
    | true =>
      have hall := all_six ha
      have : fuel + 1 = 3 := by
        unfold fal at e
        rw [if_pos (hall 0 (by omega)), if_pos (hall 1 (by omega)), if_pos (hall 2 (by omega)), if_pos (hall 3 (by omega)), if_pos (hall 4 (by omega)), if_pos (hall 5 (by omega))] at e
        omega
      rw [this]
      exact hF f b w h hall
    | false =>
      obtain ⟨r1, r2⟩ := ready6 (f 0) (f 1) (f 2) (f 3) (f 4) (f 5) ha
      refine ⟨fun h0 => ?_, fun i hi => ?_⟩
      · have h0 : Region.ready .any (opsOf Tryz.f47) #[f 0, f 1, f 2, f 3, f 4, f 5, false, false, false] = [] := h0
        rw [h0] at r1; cases r1
      · have hi : i ∈ Region.ready .any (opsOf Tryz.f47) #[f 0, f 1, f 2, f 3, f 4, f 5, false, false, false] := hi
        have h2 := List.all_eq_true.1 r2 i hi
        rw [Bool.and_eq_true] at h2
        have hi6 : i < 6 := by simpa using h2.1
        have hfi : f i = false := get_six hi6 (by simpa using h2.2)
        obtain ⟨o, o1, o2, o3, o4⟩ := op25 i hi6
        obtain ⟨M, m1, m2⟩ := make6 i hi6
        refine wpOp_value o1 o2 (v := sl w.heap.size (ln6 i) (ln6 i)) (w' := w.alloc (.cells M (el6 i))) ?_ ?_
        · simp [execOp, o4, Act.eval, m1]
        · rw [o3, st_step hi6, lst_step hi6]
          exact new_dp w0 hF fuel _ _ _ (h.step hi6 hfi _ (m2 w)) (by have := fal_step hi6 hfi; omega)
end Go.Proofs.Qxb6500326aGreat
