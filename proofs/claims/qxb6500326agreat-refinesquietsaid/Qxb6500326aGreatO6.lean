import Derived.Test.Qxb6500326aGreatO5
namespace Go.Proofs.Qxb6500326aGreat
set_option maxRecDepth 100000
set_option linter.unusedVariables false
set_option linter.unusedSimpArgs false
open Go.RowKit Go.PlainAid

/-! ### a reference carried -/
def RB (r : Ref) : Prop := -1000 ≤ r.col ∧ r.col ≤ 1000 ∧ -1000 ≤ r.row ∧ r.row ≤ 1000
theorem AG.keep {w : World} {g n j : Nat} {L : Nat → Nd} {x : Nd} (h : AG w g n L) (hx : L j = x) : AG w g n (upd L j x) := h.congr (fun i _ => by
  unfold upd
  by_cases e : i = j
  · rw [if_pos e, e, hx]
  · rw [if_neg e])
theorem refIn_RB {r : Ref} (h : refIn r) : RB r := by obtain ⟨h1, h2, h3, h4⟩ := h; exact ⟨by omega, by omega, by omega, by omega⟩

def setR1 (x : Nd) (r : Ref) : Nd := ⟨x.kind, x.op, x.a, x.b, x.n, r, x.r2⟩
set_option maxHeartbeats 4000000 in
theorem carry1_any (dc dr : Int) (g n j : Nat) (L : Nat → Nd) (w : World) (h : AG w g n L) (hj : j < n) (hb : RB (L j).r1) (hc : -100 ≤ dc ∧ dc ≤ 100) (hr : -100 ≤ dr ∧ dr ≤ 100) :
    Calls Tryz.prog 135 #[.pointer (some ⟨g, j * 13 + 5, none⟩), I dc, I dr] w fun e w' => e = .returned (.bool (inSheet (slideP dc dr (L j).r1))) ∧ AG w' g n (upd L j (setR1 (L j) (slideP dc dr (L j).r1))) ∧ Fr (fun k => k = g) w w' := by
  obtain ⟨b1, b2, b3, b4⟩ := hb
  obtain ⟨c1, c2⟩ := hc
  obtain ⟨r1, r2⟩ := hr
  have hlt := h.lt
  obtain ⟨x, hx⟩ : ∃ x, L j = x := ⟨_, rfl⟩
  obtain ⟨k0, k1, k2, k3, k4, k5, k6, k7, k8, k9, k10, k11, k12⟩ := h.cells hj hx
  obtain ⟨z0, z1, z2, z3, z4, z5, z6, z7, z8, z9, z10, z11, z12⟩ := h.fz j
  rw [hx] at b1 b2 b3 b4 ⊢
  have hx := Bx.mk hx
  have hN := Bx.mk h
  have hfr := Bx.mk (Fr.refl S0 w)
  clear h
  obtain ⟨kd0, op, a, b, nn, R1, R2⟩ := x
  obtain ⟨co, ro, ac, ar⟩ := R1
  simp only at *
  cases ac <;> cases ar
  · generalize hR : inSheet (slideP dc dr ⟨co, ro, false, false⟩) = R
    have hR := Bx.mk hR
    go_enter Tryz.func135, Tryz.ntmps135
    go_wp2
    all_goals go_ret
    all_goals exact ⟨by rw [← hR.out]; simp only [inSheet, slideP, if_false, Bool.false_eq_true]; congr 2; simp_all; try omega, hN.out.set2 j 5 6 (by omega) (by omega) _ _ _ (by rw [hx.out]; intro i hi; rcases i with _ | _ | _ | _ | _ | _ | _ | _ | _ | _ | _ | _ | _ | i <;> first | rfl | omega), fr_g2 hfr.out⟩
  · generalize hR : inSheet (slideP dc dr ⟨co, ro, false, true⟩) = R
    have hR := Bx.mk hR
    go_enter Tryz.func135, Tryz.ntmps135
    go_wp2
    all_goals go_ret
    all_goals exact ⟨by rw [← hR.out]; simp only [inSheet, slideP, if_true, if_false, Bool.false_eq_true]; congr 2; simp_all; try omega, hN.out.set1 j 5 (by omega) _ _ (by rw [hx.out]; intro i hi; rcases i with _ | _ | _ | _ | _ | _ | _ | _ | _ | _ | _ | _ | _ | i <;> first | rfl | omega), fr_g hfr.out⟩
  · generalize hR : inSheet (slideP dc dr ⟨co, ro, true, false⟩) = R
    have hR := Bx.mk hR
    go_enter Tryz.func135, Tryz.ntmps135
    go_wp2
    all_goals go_ret
    all_goals exact ⟨by rw [← hR.out]; simp only [inSheet, slideP, if_true, if_false, Bool.false_eq_true]; congr 2; simp_all; try omega, hN.out.set1 j 6 (by omega) _ _ (by rw [hx.out]; intro i hi; rcases i with _ | _ | _ | _ | _ | _ | _ | _ | _ | _ | _ | _ | _ | i <;> first | rfl | omega), fr_g hfr.out⟩
  · generalize hR : inSheet (slideP dc dr ⟨co, ro, true, true⟩) = R
    have hR := Bx.mk hR
    go_enter Tryz.func135, Tryz.ntmps135
    go_wp2
    all_goals go_ret
    all_goals exact ⟨by rw [← hR.out]; simp only [inSheet, slideP, if_true, if_false, Bool.false_eq_true]; congr 2; simp_all; try omega, (AG.keep hN.out hx.out : AG w g n (upd L j _)), hfr.out.up⟩

def setR2 (x : Nd) (r : Ref) : Nd := ⟨x.kind, x.op, x.a, x.b, x.n, x.r1, r⟩
set_option maxHeartbeats 4000000 in
theorem carry2_any (dc dr : Int) (g n j : Nat) (L : Nat → Nd) (w : World) (h : AG w g n L) (hj : j < n) (hb : RB (L j).r2) (hc : -100 ≤ dc ∧ dc ≤ 100) (hr : -100 ≤ dr ∧ dr ≤ 100) :
    Calls Tryz.prog 135 #[.pointer (some ⟨g, j * 13 + 9, none⟩), I dc, I dr] w fun e w' => e = .returned (.bool (inSheet (slideP dc dr (L j).r2))) ∧ AG w' g n (upd L j (setR2 (L j) (slideP dc dr (L j).r2))) ∧ Fr (fun k => k = g) w w' := by
  obtain ⟨b1, b2, b3, b4⟩ := hb
  obtain ⟨c1, c2⟩ := hc
  obtain ⟨r1, r2⟩ := hr
  have hlt := h.lt
  obtain ⟨x, hx⟩ : ∃ x, L j = x := ⟨_, rfl⟩
  obtain ⟨k0, k1, k2, k3, k4, k5, k6, k7, k8, k9, k10, k11, k12⟩ := h.cells hj hx
  obtain ⟨z0, z1, z2, z3, z4, z5, z6, z7, z8, z9, z10, z11, z12⟩ := h.fz j
  rw [hx] at b1 b2 b3 b4 ⊢
  have hx := Bx.mk hx
  have hN := Bx.mk h
  have hfr := Bx.mk (Fr.refl S0 w)
  clear h
  obtain ⟨kd0, op, a, b, nn, R1, R2⟩ := x
  obtain ⟨co, ro, ac, ar⟩ := R2
  simp only at *
  cases ac <;> cases ar
  · generalize hR : inSheet (slideP dc dr ⟨co, ro, false, false⟩) = R
    have hR := Bx.mk hR
    go_enter Tryz.func135, Tryz.ntmps135
    go_wp2
    all_goals go_ret
    all_goals exact ⟨by rw [← hR.out]; simp only [inSheet, slideP, if_false, Bool.false_eq_true]; congr 2; simp_all; try omega, hN.out.set2 j 9 10 (by omega) (by omega) _ _ _ (by rw [hx.out]; intro i hi; rcases i with _ | _ | _ | _ | _ | _ | _ | _ | _ | _ | _ | _ | _ | i <;> first | rfl | omega), fr_g2 hfr.out⟩
  · generalize hR : inSheet (slideP dc dr ⟨co, ro, false, true⟩) = R
    have hR := Bx.mk hR
    go_enter Tryz.func135, Tryz.ntmps135
    go_wp2
    all_goals go_ret
    all_goals exact ⟨by rw [← hR.out]; simp only [inSheet, slideP, if_true, if_false, Bool.false_eq_true]; congr 2; simp_all; try omega, hN.out.set1 j 9 (by omega) _ _ (by rw [hx.out]; intro i hi; rcases i with _ | _ | _ | _ | _ | _ | _ | _ | _ | _ | _ | _ | _ | i <;> first | rfl | omega), fr_g hfr.out⟩
  · generalize hR : inSheet (slideP dc dr ⟨co, ro, true, false⟩) = R
    have hR := Bx.mk hR
    go_enter Tryz.func135, Tryz.ntmps135
    go_wp2
    all_goals go_ret
    all_goals exact ⟨by rw [← hR.out]; simp only [inSheet, slideP, if_true, if_false, Bool.false_eq_true]; congr 2; simp_all; try omega, hN.out.set1 j 10 (by omega) _ _ (by rw [hx.out]; intro i hi; rcases i with _ | _ | _ | _ | _ | _ | _ | _ | _ | _ | _ | _ | _ | i <;> first | rfl | omega), fr_g hfr.out⟩
  · generalize hR : inSheet (slideP dc dr ⟨co, ro, true, true⟩) = R
    have hR := Bx.mk hR
    go_enter Tryz.func135, Tryz.ntmps135
    go_wp2
    all_goals go_ret
    all_goals exact ⟨by rw [← hR.out]; simp only [inSheet, slideP, if_true, if_false, Bool.false_eq_true]; congr 2; simp_all; try omega, (AG.keep hN.out hx.out : AG w g n (upd L j _)), hfr.out.up⟩

theorem updN_updN {L : Nat → Nd} {j : Nat} {x y : Nd} (i : Nat) : upd (upd L j x) j y i = upd L j y i := by
  unfold upd; split <;> rfl
theorem copyN_3 {dc dr : Int} {x : Nd} (h3 : x.kind = 3) : copyN dc dr x = if inSheet (slideP dc dr x.r1) = true then setR1 x (slideP dc dr x.r1) else nBad := by unfold copyN setR1; rw [if_pos h3]
theorem copyN_4 {dc dr : Int} {x : Nd} (h4 : x.kind = 4) : copyN dc dr x = if inSheet (slideP dc dr x.r1) = true ∧ inSheet (slideP dc dr x.r2) = true then setR2 (setR1 x (slideP dc dr x.r1)) (slideP dc dr x.r2) else nBad := by unfold copyN setR1 setR2; rw [if_neg (by rw [h4]; decide), if_pos h4]
theorem copyN_o {dc dr : Int} {x : Nd} (h3 : x.kind ≠ 3) (h4 : x.kind ≠ 4) : copyN dc dr x = x := by unfold copyN; rw [if_neg h3, if_neg h4]
set_option maxHeartbeats 8000000 in
theorem carryAll_any (dc dr : Int) (g n : Nat) (L : Nat → Nd) (w : World) (hb : ∀ j, j < n → RB (L j).r1 ∧ RB (L j).r2) (hc : -100 ≤ dc ∧ dc ≤ 100) (hr : -100 ≤ dr ∧ dr ≤ 100) (h : AG w g n L) (hn : n ≤ 24) :
    Calls Tryz.prog 106 #[sl g n n, I dc, I dr] w fun e w' => e = .returned (.tuple #[]) ∧ AG w' g n (fun j => copyN dc dr (L j)) ∧ Fr (fun k => k = g) w w' := by
  have hgl := h.lt
  have hN0 := Bx.mk h
  have hfr0 := Bx.mk (Fr.refl (fun k => k = g) w)
  clear h
  have hC1 : Bx (∀ (M : Nat → Nd) (j : Nat) (x : Nd) (b : Bool) wx, AG wx g n M → j < n → M j = x → RB x.r1 → inSheet (slideP dc dr x.r1) = b → Calls Tryz.prog 135 #[.pointer (some ⟨g, j * 13 + 5, none⟩), I dc, I dr] wx fun e w' => e = .returned (.bool b) ∧ AG w' g n (upd M j (setR1 x (slideP dc dr x.r1))) ∧ Fr (fun k => k = g) wx w') := ⟨fun M j x b wx h hj ex hb eb => by subst ex; subst eb; exact carry1_any dc dr g n j M wx h hj hb hc hr⟩
  have hC2 : Bx (∀ (M : Nat → Nd) (j : Nat) (x : Nd) (b : Bool) wx, AG wx g n M → j < n → M j = x → RB x.r2 → inSheet (slideP dc dr x.r2) = b → Calls Tryz.prog 135 #[.pointer (some ⟨g, j * 13 + 9, none⟩), I dc, I dr] wx fun e w' => e = .returned (.bool b) ∧ AG w' g n (upd M j (setR2 x (slideP dc dr x.r2))) ∧ Fr (fun k => k = g) wx w') := ⟨fun M j x b wx h hj ex hb eb => by subst ex; subst eb; exact carry2_any dc dr g n j M wx h hj hb hc hr⟩
  have hK : Bx (∀ (M : Nat → Nd) (j : Nat) wx, AG wx g n M → j < n → Calls Tryz.prog 136 #[ep g j] wx fun e w' => e = .returned (.tuple #[]) ∧ AG w' g n (upd M j nBad) ∧ Fr (fun k => k = g) wx w') := ⟨fun M j wx h hj => kill_any g n j M wx h hj⟩
  have hb := Bx.mk hb
  clear hc hr
  go_enter Tryz.func106, Tryz.ntmps106
  go_wp2_with fail
  go_loopw [6] (fun c wr => ∃ k : Nat, k ≤ n ∧ c = I (k : Int) ∧ Bx (AG wr g n (upTo (copyN dc dr) L k)) ∧ Bx (Fr (fun k => k = g) w wr)) (fun c _ => n - (intOf c).toNat)
  case atStart => exact ⟨0, by omega, rfl, ⟨hN0.out.congr (fun j _ => by unfold upTo; rw [if_neg (by omega)])⟩, hfr0⟩
  case round =>
    clear hN0 hfr0
    obtain ⟨k, hk, rfl, hN, hf⟩ := hrel
    have hk24 : k ≤ 24 := by omega
    cases hlt : decide ((k : Int) < (n : Int))
    · have hkn : k = n := by simp at hlt; omega
      go_wp2_with fail
      go_end0
      exact ⟨rfl, hN.out.congr (fun j hj => by unfold upTo; rw [if_pos (by omega)]), hf.out⟩
    · have hkn : k < n := by simp at hlt; omega
      have hb2 := Bx.mk (hb.out k hkn)
      obtain ⟨x, hxL⟩ : ∃ x, L k = x := ⟨_, rfl⟩
      rw [hxL] at hb2
      have hxL := Bx.mk hxL
      have hxk : Bx (upTo (copyN dc dr) L k k = x) := ⟨by rw [upTo_at, hxL.out]⟩
      obtain ⟨k0, k1, k2, k3, k4, k5, k6, k7, k8, k9, k10, k11, k12⟩ := hN.out.cells hkn hxk.out
      have hl1 := hN.out.lt
      cases h3 : (x.kind == 3)
      · cases h4 : (x.kind == 4)
        · have HX := Bx.mk (copyN_o (dc := dc) (dr := dr) (x := x) (by simpa using h3) (by simpa using h4))
          go_wp2_with fail
          go_roundw
          case rel => exact ⟨k + 1, by omega, by go_num, ⟨hN.out.congr (fun j _ => upTo_same _ _ _ (by rw [hxL.out]; exact HX.out) j)⟩, hf⟩
          case measure => simp [intOf]; omega
        · have HX := Bx.mk (copyN_4 (dc := dc) (dr := dr) (x := x) (by simpa using h4))
          cases hi1 : inSheet (slideP dc dr x.r1) <;> cases hi2 : inSheet (slideP dc dr x.r2)
          all_goals rw [hi1, hi2] at HX
          all_goals go_wp2_with (first
            | (go_at_call 135; refine (hC1.out _ k x _ _ hN.out hkn hxk.out hb2.out.1 hi1).mono ?_; clear hC1; rintro e w1 ⟨rfl, hN1, hf1⟩; have hN1 := Bx.mk hN1; have hf1 := Bx.mk (hf.out.trans hf1); have hx1 : Bx (upd (upTo (copyN dc dr) L k) k (setR1 x (slideP dc dr x.r1)) k = setR1 x (slideP dc dr x.r1)) := ⟨upd_same _ _ _⟩; obtain ⟨k0, k1, k2, k3, k4, k5, k6, k7, k8, k9, k10, k11, k12⟩ := hN1.out.cells hkn hx1.out)
            | (go_at_call 135; refine (hC2.out _ k _ _ _ hN1.out hkn hx1.out hb2.out.2 hi2).mono ?_; clear hC2; rintro e w2 ⟨rfl, hN2, hf2⟩; have hN2 := Bx.mk hN2; have hf2 := Bx.mk (hf1.out.trans hf2))
            | (go_at_call 136; refine (hK.out _ k _ hN2.out hkn).mono ?_; clear hK; rintro e w3 ⟨rfl, hN3, hf3⟩; have hN3 := Bx.mk hN3; have hf3 := Bx.mk (hf2.out.trans hf3)))
          all_goals go_roundw
          all_goals try (case measure => simp [intOf]; omega)
          · exact ⟨k + 1, by omega, by go_num, ⟨hN3.out.congr (fun j _ => (updN_updN (L := upd _ k _) j).trans ((updN_updN j).trans (upTo_upd _ _ _ (by rw [hxL.out]; exact HX.out) j)))⟩, hf3⟩
          · exact ⟨k + 1, by omega, by go_num, ⟨hN3.out.congr (fun j _ => (updN_updN (L := upd _ k _) j).trans ((updN_updN j).trans (upTo_upd _ _ _ (by rw [hxL.out]; exact HX.out) j)))⟩, hf3⟩
          · exact ⟨k + 1, by omega, by go_num, ⟨hN3.out.congr (fun j _ => (updN_updN (L := upd _ k _) j).trans ((updN_updN j).trans (upTo_upd _ _ _ (by rw [hxL.out]; exact HX.out) j)))⟩, hf3⟩
          · exact ⟨k + 1, by omega, by go_num, ⟨hN2.out.congr (fun j _ => (updN_updN j).trans (upTo_upd _ _ _ (by rw [hxL.out]; exact HX.out) j))⟩, hf2⟩
      · have h4 : (x.kind == 4) = false := by have : x.kind = 3 := (by simpa using h3); rw [this]; rfl
        have HX := Bx.mk (copyN_3 (dc := dc) (dr := dr) (x := x) (by simpa using h3))
        cases hi1 : inSheet (slideP dc dr x.r1)
        all_goals rw [hi1] at HX
        all_goals go_wp2_with (first
            | (go_at_call 135; refine (hC1.out _ k x _ _ hN.out hkn hxk.out hb2.out.1 hi1).mono ?_; clear hC1; rintro e w1 ⟨rfl, hN1, hf1⟩; have hN1 := Bx.mk hN1; have hf1 := Bx.mk (hf.out.trans hf1))
            | (go_at_call 136; refine (hK.out _ k _ hN1.out hkn).mono ?_; clear hK; rintro e w3 ⟨rfl, hN3, hf3⟩; have hN3 := Bx.mk hN3; have hf3 := Bx.mk (hf1.out.trans hf3)))
        all_goals go_roundw
        all_goals try (case measure => simp [intOf]; omega)
        · exact ⟨k + 1, by omega, by go_num, ⟨hN3.out.congr (fun j _ => (updN_updN j).trans (upTo_upd _ _ _ (by rw [hxL.out]; exact HX.out) j))⟩, hf3⟩
        · exact ⟨k + 1, by omega, by go_num, ⟨hN1.out.congr (fun j _ => upTo_upd _ _ _ (by rw [hxL.out]; exact HX.out) j)⟩, hf1⟩
end Go.Proofs.Qxb6500326aGreat
