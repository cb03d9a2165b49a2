import Derived.Test.Qxb6500326aGreatX4
namespace Go.Proofs.Qxb6500326aGreat
set_option maxRecDepth 100000
set_option linter.unusedVariables false
set_option linter.unusedSimpArgs false
open Go.RowKit Go.PlainAid
theorem AF.drewN {w : World} {B : FB} {b : Nat → Int} {n nt k : Nat} {st : RS} (h : AF w B b n nt k st) (j : Nat) : AF (w.drewN j) B b n nt k st := h.fr0 ((Fr.refl _ _).drewN j)
set_option maxRecDepth 100000 in
set_option maxHeartbeats 4000000 in
theorem pushX (B : FB) (b : Nat → Int) (n nt k : Nat) (st : RS) (m : Mk) (w : World) (h : AF w B b n nt k st) (ho : st.O.length < 41) :
    Calls Tryz.prog 197 #[pt B.f, mkV m] w (Ran w B b n nt k (st.push m) (.tuple #[])) := by
  obtain ⟨F, hF, hR, rfl, rfl⟩ := h
  have hno := hR.nol
  have c8 := hF.row.cell 8 (by omega)
  have c9 := hF.row.cell 9 (by omega)
  have z9 := hF.row.frozen 9
  simp only [fmC] at c8 c9
  obtain ⟨l1, l2, l3, l4, l5, l6, l7⟩ := hF.lts
  have hni : (F.no : Int) < 41 := by omega
  have h1 := hF.putOps F.no m
  have h2 := Bx.mk (h1.set (F' := { F with ops := upd F.ops F.no m, no := F.no + 1 }) 9 (I ((F.no : Int) + 1)) (by intro i hi; rcases i with _ | _ | _ | _ | _ | _ | _ | _ | _ | _ | _ | _ | _ | _ | _ | _ | _ | i <;> first | rfl | omega | (show I ((F.no : Int) + 1) = I ((F.no + 1 : Nat) : Int); congr 1)) rfl rfl rfl rfl rfl rfl rfl)
  have hrel : Bx (Rel b n { F with ops := upd F.ops F.no m, no := F.no + 1 } (st.push m)) := Bx.mk { hR with
    O := by show m :: st.O = ((List.range (F.no + 1)).map (upd F.ops F.no m)).reverse; rw [range_rev, range_upd _ _ _ _ (Nat.le_refl _), ← hR.O, upd_same] }
  have k0 := hF.ops.cell0 F.no (by omega) (by omega)
  have k1 := hF.ops.cell F.no 1 (by omega) (by omega)
  have k2 := hF.ops.cell F.no 2 (by omega) (by omega)
  have k3 := hF.ops.cell F.no 3 (by omega) (by omega)
  have k4 := hF.ops.cell F.no 4 (by omega) (by omega)
  have y0 := hF.ops.frozen (F.no * 5)
  have yy := fun j => hF.ops.frozen (F.no * 5 + j)
  have fo := hF.ok.fo
  clear hF hR h1 hno ho l2 l3 l4 l6 l7
  go_enter Tryz.func197, Tryz.ntmps197
  go_wp2_with fail
  go_region
  go_wp2
  go_end0
  exact ⟨rfl, ⟨_, (h2.out.alloc (.cells (mkA m) 220)).drew, hrel.out, rfl, rfl⟩, (((((Fr.refl (FmS B) w).fmO (F.no * 5) (mkA m).toList).fm 9 (I ((F.no : Int) + 1))).alloc (.cells (mkA m) 220)).drew)⟩
set_option maxRecDepth 100000 in
set_option maxHeartbeats 4000000 in
theorem topX (B : FB) (b : Nat → Int) (n nt k : Nat) (st : RS) (w : World) (h : AF w B b n nt k st) (ho : st.O.length ≤ 41) :
    Calls Tryz.prog 192 #[pt B.f] w (Ran w B b n nt k st (I (topOf st.O))) := by
  have hA := Bx.mk h
  obtain ⟨F, hF, hR, rfl, rfl⟩ := h
  have hno := hR.nol
  have c8 := hF.row.cell 8 (by omega)
  have c9 := hF.row.cell 9 (by omega)
  simp only [fmC] at c8 c9
  cases hO : st.O with
  | nil =>
    rw [hO] at hno
    rw [show F.no = 0 from hno] at c9
    clear hF hR hno ho
    go_enter Tryz.func192, Tryz.ntmps192
    go_wp2_with fail
    go_quiet (fail)
    go_wp2
    go_ret
    exact ⟨rfl, hA.out.drewN _, (Fr.refl _ _).drewN _⟩
  | cons m O' =>
    obtain ⟨t1, t2, -⟩ := hR.topO hO
    obtain ⟨q, hq⟩ : ∃ q, F.no = q + 1 := ⟨F.no - 1, by omega⟩
    rw [hO] at hno ho
    rw [hq] at c9 t2
    rw [Nat.add_sub_cancel] at t2
    have hq41 : (q : Int) < 41 := by simp at hno ho; omega
    have k0 := hF.ops.cell0 q (by omega) (by omega)
    have k1 := hF.ops.cell q 1 (by omega) (by omega)
    rw [t2] at k0 k1
    simp only [mkC] at k0 k1
    have e0 : (((q + 1 : Nat) : Int) == 0) = false := by simp; omega
    have e1 : ((q : Int) + 1 == 0) = false := by simp; omega
    have e2 : ¬ (q : Int) + 1 = 0 := by omega
    by_cases hk : m.kind = 2
    · have hkd : (m.kind != 2) = false := by simpa using hk
      have hans : Bx (topOf (m :: O') = strength m.op) := Bx.mk (by show (if m.kind = 2 then strength m.op else 0) = _; rw [if_pos hk])
      have hst : Bx (∀ wx, Calls Tryz.prog 191 #[I m.op] wx fun e w' => e = .returned (I (strength m.op)) ∧ w' = wx) := Bx.mk (fun wx => (strength_any m.op wx).mono (fun e w' h => ⟨h.1, h.2.symm⟩))
      clear hF hR hno ho hk
      go_enter Tryz.func192, Tryz.ntmps192
      go_wp2_with fail
      go_quiet (fail)
      go_wp2_with fail
      go_quiet (first | (go_at_call 191; exact (hst.out _).mono (fun e w' h => ⟨h.1, _, h.2⟩)))
      go_wp2
      go_ret
      rw [hans.out]
      exact ⟨rfl, (hA.out.drewN _).drewN _, ((Fr.refl _ _).drewN _).drewN _⟩
    · have hkd : (m.kind != 2) = true := by simpa using hk
      have hans : Bx (topOf (m :: O') = 0) := Bx.mk (by show (if m.kind = 2 then strength m.op else 0) = _; rw [if_neg hk])
      clear hF hR hno ho hk
      go_enter Tryz.func192, Tryz.ntmps192
      go_wp2_with fail
      go_quiet (fail)
      go_wp2
      go_ret
      rw [hans.out]
      exact ⟨rfl, hA.out.drewN _, (Fr.refl _ _).drewN _⟩
end Go.Proofs.Qxb6500326aGreat
