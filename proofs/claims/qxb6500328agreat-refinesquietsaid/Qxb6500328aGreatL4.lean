import Derived.Test.Qxb6500328aGreatL2
namespace Go.Proofs.Qxb6500328aGreat
set_option maxRecDepth 100000
set_option linter.unusedVariables false
set_option linter.unusedSimpArgs false
open Go.RowKit Go.PlainAid
attribute [local go_sem] bv_and bv_or bv_eq_zero bv_ne_zero bv_ne bv_eq bv_andNot

/-! ### the signs of a formula -/
def DoP (s : ByteArray) (w : World) : Ending → World → Prop := fun e w' => ∃ p l : Bool, e = .returned (.tuple #[.bool p, .bool l]) ∧ (p = true → frm s = true ∧ ∀ j, j < (tlT s).nodes.length → Pinned (nd (tlT s).nodes j)) ∧ (l = true → frm s = true ∧ ∀ j, j < (tlT s).nodes.length → Loose (nd (tlT s).nodes j)) ∧ Fr S0 w w'
theorem pin_o {x : Nd} (h3 : x.kind ≠ 3) (h4 : x.kind ≠ 4) : Pinned x := ⟨fun h => by rcases h with h | h; exact absurd h h3; exact absurd h h4, fun h => absurd h h4⟩
theorem loo_o {x : Nd} (h3 : x.kind ≠ 3) (h4 : x.kind ≠ 4) : Loose x := ⟨fun h => by rcases h with h | h; exact absurd h h3; exact absurd h h4, fun h => absurd h h4⟩
theorem pin_3 {x : Nd} (h3 : x.kind = 3) (h1 : x.r1.absC = true) (h2 : x.r1.absR = true) : Pinned x := ⟨fun _ => ⟨h1, h2⟩, fun h => by rw [h3] at h; cases h⟩
theorem loo_3 {x : Nd} (h3 : x.kind = 3) (h1 : x.r1.absC = false) (h2 : x.r1.absR = false) : Loose x := ⟨fun _ => ⟨h1, h2⟩, fun h => by rw [h3] at h; cases h⟩
theorem pin_4 {x : Nd} (h1 : x.r1.absC = true) (h2 : x.r1.absR = true) (h5 : x.r2.absC = true) (h6 : x.r2.absR = true) : Pinned x := ⟨fun _ => ⟨h1, h2⟩, fun _ => ⟨h5, h6⟩⟩
theorem loo_4 {x : Nd} (h1 : x.r1.absC = false) (h2 : x.r1.absR = false) (h5 : x.r2.absC = false) (h6 : x.r2.absR = false) : Loose x := ⟨fun _ => ⟨h1, h2⟩, fun _ => ⟨h5, h6⟩⟩
theorem all_step {P : Nat → Prop} {k : Nat} {b : Bool} (h : b = true → ∀ j, j < k → P j) (hk : P k) : b = true → ∀ j, j < k + 1 → P j := fun hb j hj => by
  by_cases e : j = k
  · exact e ▸ hk
  · exact h hb j (by omega)
theorem all_off {P : Nat → Prop} {k : Nat} : false = true → ∀ j, j < k → P j := fun h => by cases h
set_option maxHeartbeats 16000000 in
theorem dollars_any (s : ByteArray) (w : World) : Calls Tryz.prog 75 #[.string s] w (DoP s w) := by
  have hF := Bx.mk (formula_any s w)
  unfold DoP
  cases hfrm : frm s
  · rw [hfrm] at hF
    go_enter Tryz.func75, Tryz.ntmps75
    go_wp2_with (first
      | (go_at_call 48; refine hF.out.mono ?_; clear hF; rintro e w1 ⟨rfl, hf⟩; have hf := Bx.mk hf))
    go_ret2
    exact ⟨false, false, rfl, fun h => by (cases h), fun h => by (cases h), hf.out⟩
  · rw [hfrm] at hF
    have hpos : 0 < s.size := by
      have := (frm_iff.1 hfrm).1
      unfold isForm at this
      rw [Bool.and_eq_true] at this
      exact size_pos (by simpa using this.1)
    have hto := (frm_tree hfrm).1
    have hmax := hto.max
    have hP := Bx.mk (fun w => parseN s w)
    obtain ⟨n, hn⟩ : ∃ n, (tlT s).nodes.length = n := ⟨_, rfl⟩
    have hag : Bx (∀ w B v, XL w B v (tlT s).nodes → ∃ g, B ≤ g ∧ v = sl g n n ∧ AG w g n (nd (tlT s).nodes)) := ⟨fun w B v h => by
      obtain ⟨g, hg, e, hA⟩ := h.ag hto.ne
      rw [hn] at e hA
      exact ⟨g, hg, e, hA⟩⟩
    have hn24 : n ≤ 24 := by omega
    rw [hn]
    clear hto hmax hn
    generalize tlT s = t at *
    go_enter Tryz.func75, Tryz.ntmps75
    go_wp2_with (first
      | (go_at_call 48; refine hF.out.mono ?_; clear hF; rintro e w1 ⟨rfl, hf⟩; have hf := Bx.mk hf)
      | (go_at_call 21; refine (mnew_any _).mono ?_; rintro e w2 ⟨rfl, hm, hf2, -⟩; have hm := Bx.mk hm; have hf2 := Bx.mk hf2)
      | (go_at_call 77; refine (hP.out _ _ hm.out hf2.out).mono ?_; clear hP; rintro e w3 ⟨v', rfl, hX, -, hf3⟩; obtain ⟨g, hg, rfl, hA⟩ := hag.out _ _ _ hX; clear hag hX; have fa : Fr S0 w3 (w3.alloc (.cells (trA (sl g n n) t) 111)) := (Fr.refl S0 _).alloc _; have hA3 := Bx.mk (hA.fr0 fa); have hf3 := Bx.mk ((hf.out.trans hf3).trans fa); have hT3 := Bx.mk (tv_new w3 (sl g n n) t 111 rfl); clear fa hA))
    generalize hHH : w3.heap.size = H at *
    go_loopw [6, 7, 8, 9] (fun p l m c wr => ∃ (k : Nat) (pb lb nb : Bool), k ≤ n ∧ p = .bool pb ∧ l = .bool lb ∧ m = .bool nb ∧ c = I (k : Int) ∧ Bx (pb = true → ∀ j, j < k → Pinned (nd t.nodes j)) ∧ Bx (lb = true → ∀ j, j < k → Loose (nd t.nodes j)) ∧ Bx (AG wr g n (nd t.nodes)) ∧ Bx (Row wr H 4 (tvC (sl g n n) t)) ∧ Bx (Fr S0 w wr)) (fun _ _ _ c _ => n - (intOf c).toNat)
    case atStart => exact ⟨0, true, true, false, by omega, rfl, rfl, rfl, rfl, ⟨fun _ j hj => absurd hj (by omega)⟩, ⟨fun _ j hj => absurd hj (by omega)⟩, hA3, hT3, hf3⟩
    case round =>
      clear hA3 hT3 hf3 hf2 hf hm
      obtain ⟨k, pb, lb, nb, hk, rfl, rfl, rfl, rfl, hPi, hLo, hA, hT, hfr⟩ := hrel
      have hk24 : k ≤ 24 := by omega
      obtain ⟨x0, x1, x2, x3⟩ := hT.out.tr4
      have hlT := hT.out.lt
      cases hlt : decide ((k : Int) < (n : Int))
      · have hkn : Bx (k = n) := ⟨by simp at hlt; omega⟩
        have hlt2 : decide (k < n) = false := decide_eq_false (by simp at hlt; omega)
        cases nb
        · go_wp2_with fail
          go_ret2
          exact ⟨false, false, rfl, fun h => by (cases h), fun h => by (cases h), hfr.out⟩
        · go_wp2_with fail
          go_ret2
          exact ⟨pb, lb, rfl, fun h => ⟨trivial, by rw [← hkn.out]; exact hPi.out h⟩, fun h => ⟨trivial, by rw [← hkn.out]; exact hLo.out h⟩, hfr.out⟩
      · have hkn : k < n := by simp at hlt; omega
        obtain ⟨x, hx⟩ : ∃ x, nd t.nodes k = x := ⟨_, rfl⟩
        obtain ⟨k0, k1, k2, k3, k4, k5, k6, k7, k8, k9, k10, k11, k12⟩ := hA.out.cells hkn hx
        have hlg := hA.out.lt
        have hx := Bx.mk hx
        have hA2 := Bx.mk (hA.out.fr0 ((Fr.refl S0 wr).alloc (.cells (ndA x) 144)))
        have hT2 := Bx.mk (hT.out.alloc (.cells (ndA x) 144))
        have hf2 := Bx.mk (hfr.out.alloc (.cells (ndA x) 144))
        clear hA hT hfr
        obtain ⟨kd0, op, a, b, nn, ⟨co1, ro1, ac1, ar1⟩, ⟨co2, ro2, ac2, ar2⟩⟩ := x
        simp only at *
        cases h3 : (kd0 == 3)
        · cases h4 : (kd0 == 4)
          · have hpn := Bx.mk (pin_o (x := ⟨kd0, op, a, b, nn, ⟨co1, ro1, ac1, ar1⟩, ⟨co2, ro2, ac2, ar2⟩⟩) (by simpa using h3) (by simpa using h4))
            have hln := Bx.mk (loo_o (x := ⟨kd0, op, a, b, nn, ⟨co1, ro1, ac1, ar1⟩, ⟨co2, ro2, ac2, ar2⟩⟩) (by simpa using h3) (by simpa using h4))
            go_wp2_with fail
            go_roundw
            case rel => exact ⟨k + 1, pb, lb, nb, by omega, rfl, rfl, rfl, by go_num, ⟨all_step hPi.out (by rw [hx.out]; exact hpn.out)⟩, ⟨all_step hLo.out (by rw [hx.out]; exact hln.out)⟩, hA2, hT2, hf2⟩
            case measure => simp [intOf]; omega
          · cases ac1 <;> cases ar1 <;> cases ac2 <;> cases ar2
            all_goals go_wp2_with fail
            all_goals go_roundw
            all_goals try (case measure => simp [intOf]; omega)
            all_goals first
              | exact ⟨k + 1, false, false, true, by omega, rfl, rfl, rfl, by go_num, ⟨all_off⟩, ⟨all_off⟩, hA2, hT2, hf2⟩
              | exact ⟨k + 1, pb, false, true, by omega, rfl, rfl, rfl, by go_num, ⟨all_step hPi.out (by rw [hx.out]; exact pin_4 rfl rfl rfl rfl)⟩, ⟨all_off⟩, hA2, hT2, hf2⟩
              | exact ⟨k + 1, false, lb, true, by omega, rfl, rfl, rfl, by go_num, ⟨all_off⟩, ⟨all_step hLo.out (by rw [hx.out]; exact loo_4 rfl rfl rfl rfl)⟩, hA2, hT2, hf2⟩
        · have h4 : (kd0 == 4) = false := by have : kd0 = 3 := (by simpa using h3); rw [this]; rfl
          have hk3 : Bx (kd0 = 3) := ⟨by simpa using h3⟩
          cases ac1 <;> cases ar1
          all_goals go_wp2_with fail
          all_goals go_roundw
          all_goals try (case measure => simp [intOf]; omega)
          all_goals first
            | exact ⟨k + 1, false, false, true, by omega, rfl, rfl, rfl, by go_num, ⟨all_off⟩, ⟨all_off⟩, hA2, hT2, hf2⟩
            | exact ⟨k + 1, pb, false, true, by omega, rfl, rfl, rfl, by go_num, ⟨all_step hPi.out (by rw [hx.out]; exact pin_3 hk3.out rfl rfl)⟩, ⟨all_off⟩, hA2, hT2, hf2⟩
            | exact ⟨k + 1, false, lb, true, by omega, rfl, rfl, rfl, by go_num, ⟨all_off⟩, ⟨all_step hLo.out (by rw [hx.out]; exact loo_3 hk3.out rfl rfl)⟩, hA2, hT2, hf2⟩
end Go.Proofs.Qxb6500328aGreat
