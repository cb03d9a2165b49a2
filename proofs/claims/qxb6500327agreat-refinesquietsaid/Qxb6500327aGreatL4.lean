import Derived.Test.Qxb6500327aGreatL3
namespace Go.Proofs.Qxb6500327aGreat
set_option maxRecDepth 100000
set_option linter.unusedVariables false
set_option linter.unusedSimpArgs false
open Go.RowKit Go.PlainAid

section
variable {A : AD} {msb : Nat} {x : Gr.XS} {T T0 : Nat → ByteArray} {E E0 : Nat → Vl} {D : DS}
/-- What Taken reads. -/
structure TK (w : World) (A : AD) (msb : Nat) (T T0 : Nat → ByteArray) (E E0 : Nat → Vl) (D : DS) : Prop where
  cm : CM w A.cb A.mb A.fb A.mrb msb T E
  dk : Row w A.d 9 (dkC A D)
  tb : Row w A.tb 24 (fun i => .string (T0 i))
  wb : EL w A.wb 24 E0
theorem TK.fr0 {w w' : World} (h : TK w A msb T T0 E E0 D) (f : Fr S0 w w') : TK w' A msb T T0 E E0 D := ⟨h.cm.fr0 f, f.row0 h.dk, f.row0 h.tb, h.wb.of f (by simp)⟩
theorem TK.raw {w : World} (h : TK w A msb T T0 E E0 D) {k : Nat} (hk : k < 24) : Calls Tryz.prog 29 #[pt A.cb, I (k : Int)] w fun e w' => e = .returned (.string (T k)) ∧ w = w' := by
  have := cRaw_any (k : Int) w h.cm
  unfold rawP at this
  rw [if_pos ⟨by omega, by omega⟩] at this
  exact this
theorem TK.value {w : World} (h : TK w A msb T T0 E E0 D) {k : Nat} (hk : k < 24) : Calls Tryz.prog 28 #[pt A.cb, I (k : Int)] w (VR w (E k)) := by
  have := cValue_any (k : Int) w h.cm
  unfold valP at this
  rw [if_pos ⟨by omega, by omega⟩] at this
  exact this
set_option maxHeartbeats 4000000 in
theorem taken_bad (c : Int) (s : ByteArray) (w : World) (h : TK w A msb T T E E D) (her : D.er = setP c s) (hbad : setP c s ≠ 0) : Calls Tryz.prog 46 #[pt A.cb, pt A.d, I c, .string s] w fun e w' => e = .returned (.bool true) ∧ Fr S0 w w' := by
  have hK : Bx (∀ w', Fr S0 w w' → TK w' A msb T T E E D) := ⟨fun w' f => h.fr0 f⟩
  obtain ⟨-, -, -, -, c4, -, -, -, -⟩ := h.dk.dk9
  have hdl := h.dk.lt
  rw [her] at c4
  clear h her
  have key : (40 < s.size ∧ setP c s = 1) ∨ (¬ 40 < s.size ∧ c < 0 ∧ setP c s = 9) ∨ (¬ 40 < s.size ∧ ¬ c < 0 ∧ 24 ≤ c ∧ setP c s = 9) := by
    unfold setP at hbad ⊢
    by_cases h1 : 40 < s.size
    · rw [if_pos h1]; exact .inl ⟨h1, rfl⟩
    · rw [if_neg h1] at hbad ⊢
      by_cases h2 : c < 0
      · rw [if_pos (.inl h2)]; exact .inr (.inl ⟨h1, h2, rfl⟩)
      · by_cases h3 : 24 ≤ c
        · rw [if_pos (.inr h3)]; exact .inr (.inr ⟨h1, h2, h3, rfl⟩)
        · rw [if_neg (by omega)] at hbad; exact absurd rfl hbad
  clear hbad
  rcases key with ⟨h1, e1⟩ | ⟨h1, h2, e1⟩ | ⟨h1, h2, h3, e1⟩
  all_goals rw [e1] at c4
  all_goals clear e1
  · have hd : decide (40 < (s.size : Int)) = true := by simp; omega
    clear h1
    go_enter Tryz.func46, Tryz.ntmps46
    go_wp2_with fail
    clear c4 hdl
    go_loopw [10] (fun c wr => ∃ k : Nat, k ≤ 24 ∧ c = I (k : Int) ∧ Bx (Fr S0 w wr)) (fun c _ => 24 - (intOf c).toNat)
    case atStart => exact ⟨0, by omega, rfl, ⟨Fr.refl _ _⟩⟩
    case round =>
      obtain ⟨k, hk, rfl, hf⟩ := hrel
      cases hlt : decide ((k : Int) < 24)
      · go_wp2_with fail
        go_ret
        exact ⟨rfl, hf.out⟩
      · have hk24 : k < 24 := by simp at hlt; omega
        have hkI : (k : Int) < 24 := by omega
        have hKr := hK.out wr hf.out
        have hR := Bx.mk (hKr.raw hk24)
        have hV := Bx.mk (hKr.value hk24)
        have hKn : Bx (∀ w', Fr S0 wr w' → w'.cell? ⟨A.d, 1, none⟩ = some (sl A.tb 24 24) ∧ w'.cell? ⟨A.d, 2, none⟩ = some (sl A.wb 24 24) ∧ A.d < w'.heap.size ∧ w'.cell? ⟨A.tb, k, none⟩ = some (.string (T k)) ∧ A.tb < w'.heap.size ∧ w'.cell? ⟨A.wb, k * 3, none⟩ = some (I (E k).kind) ∧ w'.cell? ⟨A.wb, k * 3 + 1, none⟩ = some (I (E k).n) ∧ w'.cell? ⟨A.wb, k * 3 + 2, none⟩ = some (.string (E k).s) ∧ A.wb < w'.heap.size) := ⟨fun w' f => by
          have hq := hKr.fr0 f
          obtain ⟨a0, a1, a2, -, -, -⟩ := hq.wb.ev3 hk24
          exact ⟨hq.dk.dk9.2.1, hq.dk.dk9.2.2.1, hq.dk.lt, hq.tb.cell k hk24, hq.tb.lt, a0, a1, a2, Row.lt hq.wb⟩⟩
        generalize E k = v at hV hKn
        generalize T k = t at hR hKn
        have hrun : ∀ u : World, (binOp .neq 66 (vV v) (vV v)).run Tryz.prog u = .ok (.bool false) u := fun u => by rw [neq_v, vEq_self]; rfl
        have hgd : ∀ u : World, (eqGuard .neq 66 (.tmp 60) (.tmp 67) (vV v) (vV v)).run Tryz.prog u = .ok () u := fun u => guard_v _ _ _ _ u
        clear hKr
        go_wp2_with (first
          | (go_at_call 29; refine hR.out.mono ?_; clear hR; rintro e w1 ⟨rfl, rfl⟩)
          | (go_at_call 28; refine hV.out.mono ?_; clear hV; rintro e w2 ⟨rfl, hf2⟩; have hv2 := Bx.mk (v_new w2 v 66 rfl); obtain ⟨q0, q1, q2, -, -, -⟩ := hv2.out.v3; have hf2 := Bx.mk (hf2.alloc (.cells (vA v) 66)); obtain ⟨c1, c2, hdl, t0, htl, m0, m1, m2, hwl⟩ := hKn.out _ hf2.out; clear hKn))
        go_quiet (fail)
        go_wp2_with fail
        go_roundw
        case rel => exact ⟨k + 1, by omega, by go_num, ⟨(hf.out.trans hf2.out).trans ⟨rfl, rfl, rfl, Nat.le_refl _, fun _ _ _ => rfl⟩⟩⟩
        case measure => simp [intOf]; omega
  · have hd : decide (40 < (s.size : Int)) = false := by simp; omega
    have d0 : decide (c < 0) = true := by simp; omega
    clear h1 h2
    go_enter Tryz.func46, Tryz.ntmps46
    go_wp2_with fail
    clear c4 hdl
    go_loopw [10] (fun c wr => ∃ k : Nat, k ≤ 24 ∧ c = I (k : Int) ∧ Bx (Fr S0 w wr)) (fun c _ => 24 - (intOf c).toNat)
    case atStart => exact ⟨0, by omega, rfl, ⟨Fr.refl _ _⟩⟩
    case round =>
      obtain ⟨k, hk, rfl, hf⟩ := hrel
      cases hlt : decide ((k : Int) < 24)
      · go_wp2_with fail
        go_ret
        exact ⟨rfl, hf.out⟩
      · have hk24 : k < 24 := by simp at hlt; omega
        have hkI : (k : Int) < 24 := by omega
        have hKr := hK.out wr hf.out
        have hR := Bx.mk (hKr.raw hk24)
        have hV := Bx.mk (hKr.value hk24)
        have hKn : Bx (∀ w', Fr S0 wr w' → w'.cell? ⟨A.d, 1, none⟩ = some (sl A.tb 24 24) ∧ w'.cell? ⟨A.d, 2, none⟩ = some (sl A.wb 24 24) ∧ A.d < w'.heap.size ∧ w'.cell? ⟨A.tb, k, none⟩ = some (.string (T k)) ∧ A.tb < w'.heap.size ∧ w'.cell? ⟨A.wb, k * 3, none⟩ = some (I (E k).kind) ∧ w'.cell? ⟨A.wb, k * 3 + 1, none⟩ = some (I (E k).n) ∧ w'.cell? ⟨A.wb, k * 3 + 2, none⟩ = some (.string (E k).s) ∧ A.wb < w'.heap.size) := ⟨fun w' f => by
          have hq := hKr.fr0 f
          obtain ⟨a0, a1, a2, -, -, -⟩ := hq.wb.ev3 hk24
          exact ⟨hq.dk.dk9.2.1, hq.dk.dk9.2.2.1, hq.dk.lt, hq.tb.cell k hk24, hq.tb.lt, a0, a1, a2, Row.lt hq.wb⟩⟩
        generalize E k = v at hV hKn
        generalize T k = t at hR hKn
        have hrun : ∀ u : World, (binOp .neq 66 (vV v) (vV v)).run Tryz.prog u = .ok (.bool false) u := fun u => by rw [neq_v, vEq_self]; rfl
        have hgd : ∀ u : World, (eqGuard .neq 66 (.tmp 60) (.tmp 67) (vV v) (vV v)).run Tryz.prog u = .ok () u := fun u => guard_v _ _ _ _ u
        clear hKr
        go_wp2_with (first
          | (go_at_call 29; refine hR.out.mono ?_; clear hR; rintro e w1 ⟨rfl, rfl⟩)
          | (go_at_call 28; refine hV.out.mono ?_; clear hV; rintro e w2 ⟨rfl, hf2⟩; have hv2 := Bx.mk (v_new w2 v 66 rfl); obtain ⟨q0, q1, q2, -, -, -⟩ := hv2.out.v3; have hf2 := Bx.mk (hf2.alloc (.cells (vA v) 66)); obtain ⟨c1, c2, hdl, t0, htl, m0, m1, m2, hwl⟩ := hKn.out _ hf2.out; clear hKn))
        go_quiet (fail)
        go_wp2_with fail
        go_roundw
        case rel => exact ⟨k + 1, by omega, by go_num, ⟨(hf.out.trans hf2.out).trans ⟨rfl, rfl, rfl, Nat.le_refl _, fun _ _ _ => rfl⟩⟩⟩
        case measure => simp [intOf]; omega
  · have hd : decide (40 < (s.size : Int)) = false := by simp; omega
    have d0 : decide (c < 0) = false := by simp; omega
    have d1 : decide (24 ≤ c) = true := by simp; omega
    clear h1 h2 h3
    go_enter Tryz.func46, Tryz.ntmps46
    go_wp2_with fail
    clear c4 hdl
    go_loopw [10] (fun c wr => ∃ k : Nat, k ≤ 24 ∧ c = I (k : Int) ∧ Bx (Fr S0 w wr)) (fun c _ => 24 - (intOf c).toNat)
    case atStart => exact ⟨0, by omega, rfl, ⟨Fr.refl _ _⟩⟩
    case round =>
      obtain ⟨k, hk, rfl, hf⟩ := hrel
      cases hlt : decide ((k : Int) < 24)
      · go_wp2_with fail
        go_ret
        exact ⟨rfl, hf.out⟩
      · have hk24 : k < 24 := by simp at hlt; omega
        have hkI : (k : Int) < 24 := by omega
        have hKr := hK.out wr hf.out
        have hR := Bx.mk (hKr.raw hk24)
        have hV := Bx.mk (hKr.value hk24)
        have hKn : Bx (∀ w', Fr S0 wr w' → w'.cell? ⟨A.d, 1, none⟩ = some (sl A.tb 24 24) ∧ w'.cell? ⟨A.d, 2, none⟩ = some (sl A.wb 24 24) ∧ A.d < w'.heap.size ∧ w'.cell? ⟨A.tb, k, none⟩ = some (.string (T k)) ∧ A.tb < w'.heap.size ∧ w'.cell? ⟨A.wb, k * 3, none⟩ = some (I (E k).kind) ∧ w'.cell? ⟨A.wb, k * 3 + 1, none⟩ = some (I (E k).n) ∧ w'.cell? ⟨A.wb, k * 3 + 2, none⟩ = some (.string (E k).s) ∧ A.wb < w'.heap.size) := ⟨fun w' f => by
          have hq := hKr.fr0 f
          obtain ⟨a0, a1, a2, -, -, -⟩ := hq.wb.ev3 hk24
          exact ⟨hq.dk.dk9.2.1, hq.dk.dk9.2.2.1, hq.dk.lt, hq.tb.cell k hk24, hq.tb.lt, a0, a1, a2, Row.lt hq.wb⟩⟩
        generalize E k = v at hV hKn
        generalize T k = t at hR hKn
        have hrun : ∀ u : World, (binOp .neq 66 (vV v) (vV v)).run Tryz.prog u = .ok (.bool false) u := fun u => by rw [neq_v, vEq_self]; rfl
        have hgd : ∀ u : World, (eqGuard .neq 66 (.tmp 60) (.tmp 67) (vV v) (vV v)).run Tryz.prog u = .ok () u := fun u => guard_v _ _ _ _ u
        clear hKr
        go_wp2_with (first
          | (go_at_call 29; refine hR.out.mono ?_; clear hR; rintro e w1 ⟨rfl, rfl⟩)
          | (go_at_call 28; refine hV.out.mono ?_; clear hV; rintro e w2 ⟨rfl, hf2⟩; have hv2 := Bx.mk (v_new w2 v 66 rfl); obtain ⟨q0, q1, q2, -, -, -⟩ := hv2.out.v3; have hf2 := Bx.mk (hf2.alloc (.cells (vA v) 66)); obtain ⟨c1, c2, hdl, t0, htl, m0, m1, m2, hwl⟩ := hKn.out _ hf2.out; clear hKn))
        go_quiet (fail)
        go_wp2_with fail
        go_roundw
        case rel => exact ⟨k + 1, by omega, by go_num, ⟨(hf.out.trans hf2.out).trans ⟨rfl, rfl, rfl, Nat.le_refl _, fun _ _ _ => rfl⟩⟩⟩
        case measure => simp [intOf]; omega
set_option maxHeartbeats 4000000 in
theorem taken_ok (i : Nat) (hi : i < 24) (s : ByteArray) (hs : s.size ≤ 40) (w : World) (h : TK w A msb (upd T i s) T E E0 D) (her : D.er = 0) : Calls Tryz.prog 46 #[pt A.cb, pt A.d, I (i : Int), .string s] w fun e w' => e = .returned (.bool true) ∧ Fr S0 w w' := by
  have hK : Bx (∀ w', Fr S0 w w' → TK w' A msb (upd T i s) T E E0 D) := ⟨fun w' f => h.fr0 f⟩
  obtain ⟨-, -, -, -, c4, -, -, -, -⟩ := h.dk.dk9
  have hdl := h.dk.lt
  rw [her] at c4
  have hd : decide (40 < (s.size : Int)) = false := by simp; omega
  have d0 : decide ((i : Int) < 0) = false := by simp
  have d1 : decide (24 ≤ (i : Int)) = false := by simp; omega
  clear h her
  go_enter Tryz.func46, Tryz.ntmps46
  go_wp2_with fail
  clear c4 hdl
  go_loopw [10] (fun c wr => ∃ k : Nat, k ≤ 24 ∧ c = I (k : Int) ∧ Bx (Fr S0 w wr)) (fun c _ => 24 - (intOf c).toNat)
  case atStart => exact ⟨0, by omega, rfl, ⟨Fr.refl _ _⟩⟩
  case round =>
    obtain ⟨k, hk, rfl, hf⟩ := hrel
    cases hlt : decide ((k : Int) < 24)
    · go_wp2_with fail
      go_ret
      exact ⟨rfl, hf.out⟩
    · have hk24 : k < 24 := by simp at hlt; omega
      have hkI : (k : Int) < 24 := by omega
      have hKr := hK.out wr hf.out
      have hR := Bx.mk (hKr.raw hk24)
      have hV := Bx.mk (hKr.value hk24)
      have hKn : Bx (∀ w', Fr S0 wr w' → w'.cell? ⟨A.d, 1, none⟩ = some (sl A.tb 24 24) ∧ A.d < w'.heap.size ∧ w'.cell? ⟨A.tb, k, none⟩ = some (.string (T k)) ∧ A.tb < w'.heap.size) := ⟨fun w' f => by
        have hq := hKr.fr0 f
        exact ⟨hq.dk.dk9.2.1, hq.dk.lt, hq.tb.cell k hk24, hq.tb.lt⟩⟩
      generalize E k = v at hV
      clear hKr
      by_cases hki : k = i
      · subst hki
        rw [upd_same] at hR
        have hkk : ((k : Int) == (k : Int)) = true := by simp
        clear hKn
        go_wp2_with (first
          | (go_at_call 29; refine hR.out.mono ?_; clear hR; rintro e w1 ⟨rfl, rfl⟩)
          | (go_at_call 28; refine hV.out.mono ?_; clear hV; rintro e w2 ⟨rfl, hf2⟩; have hf2 := Bx.mk (hf2.alloc (.cells (vA v) 66))))
        go_quiet (fail)
        go_wp2_with fail
        go_roundw
        case rel => exact ⟨k + 1, by omega, by go_num, ⟨(hf.out.trans hf2.out).trans ⟨rfl, rfl, rfl, Nat.le_refl _, fun _ _ _ => rfl⟩⟩⟩
        case measure => simp [intOf]; omega
      · rw [upd_other _ _ hki] at hR
        have hkk : ((k : Int) == (i : Int)) = false := by simp; omega
        generalize T k = t at hR hKn
        go_wp2_with (first
          | (go_at_call 29; refine hR.out.mono ?_; clear hR; rintro e w1 ⟨rfl, rfl⟩)
          | (go_at_call 28; refine hV.out.mono ?_; clear hV; rintro e w2 ⟨rfl, hf2⟩; have hf2 := Bx.mk (hf2.alloc (.cells (vA v) 66)); obtain ⟨c1, hdl, t0, htl⟩ := hKn.out _ hf2.out; clear hKn))
        go_quiet (fail)
        go_wp2_with fail
        go_roundw
        case rel => exact ⟨k + 1, by omega, by go_num, ⟨(hf.out.trans hf2.out).trans ⟨rfl, rfl, rfl, Nat.le_refl _, fun _ _ _ => rfl⟩⟩⟩
        case measure => simp [intOf]; omega
end
end Go.Proofs.Qxb6500327aGreat
