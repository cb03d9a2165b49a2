import Derived.Test.Qxb6500326aGreatO3
namespace Go.Proofs.Qxb6500326aGreat
set_option maxRecDepth 100000
set_option linter.unusedVariables false
set_option linter.unusedSimpArgs false
open Go.RowKit Go.PlainAid

/-! ### a range -/
theorem AG.set2 {w : World} {g n : Nat} {L : Nat → Nd} (h : AG w g n L) (j k l : Nat) (hk : k < 13) (hl : l < 13) (u v : Value) (x : Nd) (hx : ∀ i, i < 13 → ndC x i = if i = l then v else if i = k then u else ndC (L j) i) :
    AG ((w.setCell ⟨g, j * 13 + k, none⟩ u).setCell ⟨g, j * 13 + l, none⟩ v) g n (upd L j x) := by
  refine ⟨Row.congr (Row.set (Row.set h.gr (j * 13 + k) u) (j * 13 + l) v) (fun i hi => ?_), (h.ty.set _ _ u).set _ _ v⟩
  unfold upd
  simp only []
  by_cases e : i / 13 = j
  · have a1 : (i % 13 = l) = (i = j * 13 + l) := propext (by omega)
    have a2 : (i % 13 = k) = (i = j * 13 + k) := propext (by omega)
    rw [if_pos e, hx _ (Nat.mod_lt _ (by omega)), e]
    simp only [a1, a2]
  · rw [if_neg (by omega : ¬ i = j * 13 + l), if_neg (by omega : ¬ i = j * 13 + k), if_neg e]
theorem fr_g2 {g k l : Nat} {w w1 : World} {u v : Value} (h : Fr S0 w w1) : Fr (fun k => k = g) w ((w1.setCell ⟨g, k, none⟩ u).setCell ⟨g, l, none⟩ v) :=
  Fr.setCell (S := fun k => k = g) (fr_g h) (p := ⟨g, l, none⟩) (.inl rfl) v
theorem setAx2_row (x : Nd) (u v : Int) : ∀ i, i < 13 → ndC ⟨x.kind, x.op, x.a, x.b, x.n, setAx true x.r1 u, setAx true x.r2 v⟩ i = if i = 10 then I v else if i = 6 then I u else ndC x i := by
  intro i hi; rcases i with _ | _ | _ | _ | _ | _ | _ | _ | _ | _ | _ | _ | _ | i <;> first | rfl | omega
theorem setAx2_col (x : Nd) (u v : Int) : ∀ i, i < 13 → ndC ⟨x.kind, x.op, x.a, x.b, x.n, setAx false x.r1 u, setAx false x.r2 v⟩ i = if i = 9 then I v else if i = 5 then I u else ndC x i := by
  intro i hi; rcases i with _ | _ | _ | _ | _ | _ | _ | _ | _ | _ | _ | _ | _ | i <;> first | rfl | omega
/-- The two ends behind the edit, as the corners stand. -/
def sgR (rows ins : Bool) (at_ : Int) (x : Nd) : Int × Int := if ax rows x.r1 ≤ ax rows x.r2 then sgB rows ins at_ (ax rows x.r1) (ax rows x.r2) else sgB rows ins at_ (ax rows x.r2) (ax rows x.r1)
def sgU (rows ins : Bool) (at_ : Int) (x : Nd) : Int × Int := if ax rows x.r1 ≤ ax rows x.r2 then sgR rows ins at_ x else ((sgR rows ins at_ x).2, (sgR rows ins at_ x).1)
theorem moveRg_span {rows ins : Bool} {at_ : Int} (ha : 0 ≤ at_) (han : at_ < nAx rows) {x : Nd} (hg : inGrid x.r1 = true) (hg2 : inGrid x.r2 = true) :
    moveRg rows ins at_ x = if (sgR rows ins at_ x).1 ≤ (sgR rows ins at_ x).2 then ⟨x.kind, x.op, x.a, x.b, x.n, setAx rows x.r1 (sgU rows ins at_ x).1, setAx rows x.r2 (sgU rows ins at_ x).2⟩ else nBad := by
  obtain ⟨h0, h1⟩ := ax_in (rows := rows) hg
  obtain ⟨h2, h3⟩ := ax_in (rows := rows) hg2
  by_cases e : ax rows x.r2 < ax rows x.r1
  · obtain ⟨p1, p2⟩ := stretch_span (ins := ins) h2 (Int.le_of_lt e) h1 ha han
    have eR : sgR rows ins at_ x = spanG (nAx rows) (stepOf ins) at_ (ax rows x.r2) (ax rows x.r1) := by unfold sgR; rw [if_neg (by omega)]; rfl
    have eU : sgU rows ins at_ x = ((sgR rows ins at_ x).2, (sgR rows ins at_ x).1) := by unfold sgU; rw [if_neg (by omega)]
    rw [eU, eR]
    unfold moveRg
    rw [if_pos e]
    split
    · rename_i hp; rw [if_neg (p1.1 hp)]
    · rename_i hp
      rw [if_pos (by apply Classical.byContradiction; intro hn; exact hp (p1.2 hn)), p2 (by omega)]
  · obtain ⟨p1, p2⟩ := stretch_span (ins := ins) h0 (by omega : ax rows x.r1 ≤ ax rows x.r2) h3 ha han
    have eR : sgR rows ins at_ x = spanG (nAx rows) (stepOf ins) at_ (ax rows x.r1) (ax rows x.r2) := by unfold sgR; rw [if_pos (by omega)]; rfl
    have eU : sgU rows ins at_ x = sgR rows ins at_ x := by unfold sgU; rw [if_pos (by omega)]
    rw [eU, eR]
    unfold moveRg
    rw [if_neg e]
    split
    · rename_i hp; rw [if_neg (p1.1 hp)]
    · rename_i hp
      rw [if_pos (by apply Classical.byContradiction; intro hn; exact hp (p1.2 hn)), p2 (by omega)]
set_option maxHeartbeats 4000000 in
theorem shiftRange_any (rows ins : Bool) (at_ : Int) (g n j : Nat) (L : Nat → Nd) (w : World) (ha : 0 ≤ at_) (han : at_ < nAx rows) (h : AG w g n L) (hj : j < n) (hg : inGrid (L j).r1 = true) (hg2 : inGrid (L j).r2 = true) :
    Calls Tryz.prog 133 #[gpV rows ins at_, ep g j] w fun e w' => e = .returned (.tuple #[]) ∧ AG w' g n (upd L j (moveRg rows ins at_ (L j))) ∧ Fr (fun k => k = g) w w' := by
  rw [moveRg_span ha han hg hg2]
  obtain ⟨p0, p1⟩ := ax_in (rows := rows) hg
  obtain ⟨q0, q1⟩ := ax_in (rows := rows) hg2
  have hn6 := (nAx_bd rows).2
  cases hle : decide (ax rows (L j).r1 ≤ ax rows (L j).r2)
  · have hS : Bx (∀ w, Calls Tryz.prog 162 #[gpV rows ins at_, I (ax rows (L j).r2), I (ax rows (L j).r1)] w fun e w' => e = .returned (.tuple #[I (sgR rows ins at_ (L j)).1, I (sgR rows ins at_ (L j)).2, .bool (decide ((sgR rows ins at_ (L j)).1 ≤ (sgR rows ins at_ (L j)).2))]) ∧ Fr S0 w w') := ⟨fun w => by
      have e : sgR rows ins at_ (L j) = sgB rows ins at_ (ax rows (L j).r2) (ax rows (L j).r1) := by unfold sgR; rw [if_neg (by simpa using hle)]
      rw [e]; exact spanG_any rows ins at_ _ _ w q0 (by omega) p0 (by omega)⟩
    have eU : sgU rows ins at_ (L j) = ((sgR rows ins at_ (L j)).2, (sgR rows ins at_ (L j)).1) := by unfold sgU; rw [if_neg (by simpa using hle)]
    rw [eU]
    clear eU
    generalize sgR rows ins at_ (L j) = ab at *
    obtain ⟨a, b⟩ := ab
    simp only at *
    generalize hR : (if a ≤ b then (⟨(L j).kind, (L j).op, (L j).a, (L j).b, (L j).n, setAx rows (L j).r1 b, setAx rows (L j).r2 a⟩ : Nd) else nBad) = R
    have hR := Bx.mk hR
    have hK : Bx (∀ w, AG w g n L → Calls Tryz.prog 136 #[ep g j] w fun e w' => e = .returned (.tuple #[]) ∧ AG w' g n (upd L j nBad) ∧ Fr (fun k => k = g) w w') := ⟨fun w h => kill_any g n j L w h hj⟩
    have hlt := h.lt
    have hA := Bx.mk (h.fr0 ((Fr.refl S0 w).alloc (.cells (gpA rows ins at_) 133)))
    have hfr := Bx.mk ((Fr.refl S0 w).alloc (.cells (gpA rows ins at_) 133))
    have hgp := Bx.mk (gp_new w rows ins at_ 133 rfl)
    have hng : Bx (∀ w1, AG w1 g n L → _) := ⟨fun w1 (h : AG w1 g n L) => And.intro (h.cells hj rfl) (h.fz j)⟩
    obtain ⟨k0, k1, k2, k3, k4, k5, k6, k7, k8, k9, k10, k11, k12⟩ := h.cells hj rfl
    clear h p0 p1 q0 q1 hn6 han hg hg2
    have hx1 := Bx.mk (setAx2_row (L j) b a)
    have hx2 := Bx.mk (setAx2_col (L j) b a)
    cases rows <;> cases hok : decide (a ≤ b) <;> simp only [ax, if_true, if_false, Bool.false_eq_true] at hS hle <;> simp only [hok] at hS
    all_goals go_enter Tryz.func133, Tryz.ntmps133
    all_goals go_wp2_with fail
    all_goals go_quiet (fail)
    all_goals go_wp2_with (first
      | (go_at_call 162; refine (hS.out _).mono ?_; clear hS; rintro e w1 ⟨rfl, hf⟩; have hf : Fr S0 (w.alloc (.cells (gpA _ ins at_) 133)) w1 := ⟨hf.os, hf.tape, hf.output, hf.size, hf.block⟩; have hA := Bx.mk (hA.out.fr0 hf); have hgp := Bx.mk (hf.row0 hgp.out); obtain ⟨b0, b1, b2, b3⟩ := hgp.out.gp4; obtain ⟨⟨l0, l1, l2, l3, l4, l5, l6, l7, l8, l9, l10, l11, l12⟩, ⟨z0, z1, z2, z3, z4, z5, z6, z7, z8, z9, z10, z11, z12⟩⟩ := hng.out w1 hA.out; have hlt1 := hA.out.lt; have hfr := Bx.mk (hfr.out.trans hf); clear hf k0 k1 k2 k3 k4 k5 k6 k7 k8 k9 k10 k11 k12)
      | (go_at_call 136; refine (hK.out _ hA.out).mono ?_; clear hK; rintro e w2 ⟨rfl, hN2, hf2⟩; have hN2 := Bx.mk hN2; have hf2 := Bx.mk (hfr.out.up.trans hf2)))
    all_goals try go_quiet (fail)
    all_goals try go_wp2_with (first
      | (go_at_call 162; refine (hS.out _).mono ?_; clear hS; rintro e w1 ⟨rfl, hf⟩; have hf : Fr S0 (w.alloc (.cells (gpA _ ins at_) 133)) w1 := ⟨hf.os, hf.tape, hf.output, hf.size, hf.block⟩; have hA := Bx.mk (hA.out.fr0 hf); have hgp := Bx.mk (hf.row0 hgp.out); obtain ⟨b0, b1, b2, b3⟩ := hgp.out.gp4; obtain ⟨⟨l0, l1, l2, l3, l4, l5, l6, l7, l8, l9, l10, l11, l12⟩, ⟨z0, z1, z2, z3, z4, z5, z6, z7, z8, z9, z10, z11, z12⟩⟩ := hng.out w1 hA.out; have hlt1 := hA.out.lt; have hfr := Bx.mk (hfr.out.trans hf); clear hf k0 k1 k2 k3 k4 k5 k6 k7 k8 k9 k10 k11 k12)
      | (go_at_call 136; refine (hK.out _ hA.out).mono ?_; clear hK; rintro e w2 ⟨rfl, hN2, hf2⟩; have hN2 := Bx.mk hN2; have hf2 := Bx.mk (hfr.out.up.trans hf2)))
    all_goals first | go_end0 | go_returns
    · exact ⟨rfl, by rw [← hR.out, if_neg (by simpa using hok)]; exact hN2.out, hf2.out⟩
    · exact ⟨rfl, by rw [← hR.out, if_pos (by simpa using hok)]; exact hA.out.set2 j 5 9 (by omega) (by omega) _ _ _ hx2.out, fr_g2 hfr.out⟩
    · exact ⟨rfl, by rw [← hR.out, if_neg (by simpa using hok)]; exact hN2.out, hf2.out⟩
    · exact ⟨rfl, by rw [← hR.out, if_pos (by simpa using hok)]; exact hA.out.set2 j 6 10 (by omega) (by omega) _ _ _ hx1.out, fr_g2 hfr.out⟩
  · have hS : Bx (∀ w, Calls Tryz.prog 162 #[gpV rows ins at_, I (ax rows (L j).r1), I (ax rows (L j).r2)] w fun e w' => e = .returned (.tuple #[I (sgR rows ins at_ (L j)).1, I (sgR rows ins at_ (L j)).2, .bool (decide ((sgR rows ins at_ (L j)).1 ≤ (sgR rows ins at_ (L j)).2))]) ∧ Fr S0 w w') := ⟨fun w => by
      have e : sgR rows ins at_ (L j) = sgB rows ins at_ (ax rows (L j).r1) (ax rows (L j).r2) := by unfold sgR; rw [if_pos (by simpa using hle)]
      rw [e]; exact spanG_any rows ins at_ _ _ w p0 (by omega) q0 (by omega)⟩
    have eU : sgU rows ins at_ (L j) = sgR rows ins at_ (L j) := by unfold sgU; rw [if_pos (by simpa using hle)]
    rw [eU]
    clear eU
    generalize sgR rows ins at_ (L j) = ab at *
    obtain ⟨a, b⟩ := ab
    simp only at *
    generalize hR : (if a ≤ b then (⟨(L j).kind, (L j).op, (L j).a, (L j).b, (L j).n, setAx rows (L j).r1 a, setAx rows (L j).r2 b⟩ : Nd) else nBad) = R
    have hR := Bx.mk hR
    have hK : Bx (∀ w, AG w g n L → Calls Tryz.prog 136 #[ep g j] w fun e w' => e = .returned (.tuple #[]) ∧ AG w' g n (upd L j nBad) ∧ Fr (fun k => k = g) w w') := ⟨fun w h => kill_any g n j L w h hj⟩
    have hlt := h.lt
    have hA := Bx.mk (h.fr0 ((Fr.refl S0 w).alloc (.cells (gpA rows ins at_) 133)))
    have hfr := Bx.mk ((Fr.refl S0 w).alloc (.cells (gpA rows ins at_) 133))
    have hgp := Bx.mk (gp_new w rows ins at_ 133 rfl)
    have hng : Bx (∀ w1, AG w1 g n L → _) := ⟨fun w1 (h : AG w1 g n L) => And.intro (h.cells hj rfl) (h.fz j)⟩
    obtain ⟨k0, k1, k2, k3, k4, k5, k6, k7, k8, k9, k10, k11, k12⟩ := h.cells hj rfl
    clear h p0 p1 q0 q1 hn6 han hg hg2
    have hx1 := Bx.mk (setAx2_row (L j) a b)
    have hx2 := Bx.mk (setAx2_col (L j) a b)
    cases rows <;> cases hok : decide (a ≤ b) <;> simp only [ax, if_true, if_false, Bool.false_eq_true] at hS hle <;> simp only [hok] at hS
    all_goals go_enter Tryz.func133, Tryz.ntmps133
    all_goals go_wp2_with fail
    all_goals go_quiet (fail)
    all_goals go_wp2_with (first
      | (go_at_call 162; refine (hS.out _).mono ?_; clear hS; rintro e w1 ⟨rfl, hf⟩; have hf : Fr S0 (w.alloc (.cells (gpA _ ins at_) 133)) w1 := ⟨hf.os, hf.tape, hf.output, hf.size, hf.block⟩; have hA := Bx.mk (hA.out.fr0 hf); have hgp := Bx.mk (hf.row0 hgp.out); obtain ⟨b0, b1, b2, b3⟩ := hgp.out.gp4; obtain ⟨⟨l0, l1, l2, l3, l4, l5, l6, l7, l8, l9, l10, l11, l12⟩, ⟨z0, z1, z2, z3, z4, z5, z6, z7, z8, z9, z10, z11, z12⟩⟩ := hng.out w1 hA.out; have hlt1 := hA.out.lt; have hfr := Bx.mk (hfr.out.trans hf); clear hf k0 k1 k2 k3 k4 k5 k6 k7 k8 k9 k10 k11 k12)
      | (go_at_call 136; refine (hK.out _ hA.out).mono ?_; clear hK; rintro e w2 ⟨rfl, hN2, hf2⟩; have hN2 := Bx.mk hN2; have hf2 := Bx.mk (hfr.out.up.trans hf2)))
    all_goals try go_quiet (fail)
    all_goals try go_wp2_with (first
      | (go_at_call 162; refine (hS.out _).mono ?_; clear hS; rintro e w1 ⟨rfl, hf⟩; have hf : Fr S0 (w.alloc (.cells (gpA _ ins at_) 133)) w1 := ⟨hf.os, hf.tape, hf.output, hf.size, hf.block⟩; have hA := Bx.mk (hA.out.fr0 hf); have hgp := Bx.mk (hf.row0 hgp.out); obtain ⟨b0, b1, b2, b3⟩ := hgp.out.gp4; obtain ⟨⟨l0, l1, l2, l3, l4, l5, l6, l7, l8, l9, l10, l11, l12⟩, ⟨z0, z1, z2, z3, z4, z5, z6, z7, z8, z9, z10, z11, z12⟩⟩ := hng.out w1 hA.out; have hlt1 := hA.out.lt; have hfr := Bx.mk (hfr.out.trans hf); clear hf k0 k1 k2 k3 k4 k5 k6 k7 k8 k9 k10 k11 k12)
      | (go_at_call 136; refine (hK.out _ hA.out).mono ?_; clear hK; rintro e w2 ⟨rfl, hN2, hf2⟩; have hN2 := Bx.mk hN2; have hf2 := Bx.mk (hfr.out.up.trans hf2)))
    all_goals first | go_end0 | go_returns
    · exact ⟨rfl, by rw [← hR.out, if_neg (by simpa using hok)]; exact hN2.out, hf2.out⟩
    · exact ⟨rfl, by rw [← hR.out, if_pos (by simpa using hok)]; exact hA.out.set2 j 5 9 (by omega) (by omega) _ _ _ hx2.out, fr_g2 hfr.out⟩
    · exact ⟨rfl, by rw [← hR.out, if_neg (by simpa using hok)]; exact hN2.out, hf2.out⟩
    · exact ⟨rfl, by rw [← hR.out, if_pos (by simpa using hok)]; exact hA.out.set2 j 6 10 (by omega) (by omega) _ _ _ hx1.out, fr_g2 hfr.out⟩
end Go.Proofs.Qxb6500326aGreat
