import Derived.Test.Qxb6500329aL1
namespace Go.Proofs.Qxb6500329a
set_option linter.unusedVariables false
set_option linter.unusedSimpArgs false
open Go.RowKit Go.PlainAid
theorem ndEq_self (x : Nd) : ndEq x x = true := by simp [ndEq, refEq]
theorem Grid.nd {w : World} {g n : Nat} {x : Nd} (h : Grid w g n 13 (fun _ => ndC x)) (i : Nat) (hi : i < n) :
    w.cell? ⟨g, i * 13, none⟩ = some (I x.kind) ∧ w.cell? ⟨g, i * 13 + 1, none⟩ = some (I x.op) ∧ w.cell? ⟨g, i * 13 + 2, none⟩ = some (I x.a) ∧ w.cell? ⟨g, i * 13 + 3, none⟩ = some (I x.b) ∧ w.cell? ⟨g, i * 13 + 4, none⟩ = some (I x.n) ∧ w.cell? ⟨g, i * 13 + 5, none⟩ = some (I x.r1.col) ∧ w.cell? ⟨g, i * 13 + 6, none⟩ = some (I x.r1.row) ∧ w.cell? ⟨g, i * 13 + 7, none⟩ = some (.bool x.r1.absC) ∧ w.cell? ⟨g, i * 13 + 8, none⟩ = some (.bool x.r1.absR) ∧ w.cell? ⟨g, i * 13 + 9, none⟩ = some (I x.r2.col) ∧ w.cell? ⟨g, i * 13 + 10, none⟩ = some (I x.r2.row) ∧ w.cell? ⟨g, i * 13 + 11, none⟩ = some (.bool x.r2.absC) ∧ w.cell? ⟨g, i * 13 + 12, none⟩ = some (.bool x.r2.absR) :=
  ⟨h.cell0 i hi (by omega), h.cell i 1 hi (by omega), h.cell i 2 hi (by omega), h.cell i 3 hi (by omega), h.cell i 4 hi (by omega), h.cell i 5 hi (by omega), h.cell i 6 hi (by omega), h.cell i 7 hi (by omega), h.cell i 8 hi (by omega), h.cell i 9 hi (by omega), h.cell i 10 hi (by omega), h.cell i 11 hi (by omega), h.cell i 12 hi (by omega)⟩
set_option maxRecDepth 100000 in
set_option maxHeartbeats 4000000 in
theorem still_any (B : FB) (fb d K S : Nat) (Z : Nat → Prop) (s : ByteArray) (v : Value) (t : Tr) (ct : Nat) (w : World) (h : DS w B fb d K S Z s v t ct) :
    Calls Try.prog 62 #[pt d] w fun e w' => e = .returned (.bool true) ∧ Fr S0 w w' := by
  obtain ⟨kv, sv, hr⟩ := h.ring
  have hrow := Bx.mk h.row
  have hrB := Bx.mk hr
  clear h hr
  go_enter Try.func62, Try.ntmps62
  go_wp2_with fail
  go_loopw [3] (fun jj wr => ∃ j : Nat, jj = I j ∧ j ≤ 8 ∧ Fr S0 w wr) (fun jj _ => 8 - (intOf jj).toNat)
  case atStart => exact ⟨0, rfl, by omega, Fr.refl _ _⟩
  case round =>
    obtain ⟨j, rfl, hj, hfr⟩ := hrel
    have hRw := hfr.row0 hrow.out
    have c5 := hRw.cell 5 (by omega)
    have c6 := hRw.cell 6 (by omega)
    simp only [dkC] at c5 c6
    by_cases hj8 : j < 8
    · have hd : decide ((j : Int) < 8) = true := decide_eq_true (by omega)
      have hd2 : decide (j < 8) = true := decide_eq_true hj8
      have kj := (hfr.row0 hrB.out.kr).cell j hj8
      have sj := (hfr.row0 hrB.out.sr).cell j hj8
      have hjI : (j : Int) < 8 := by omega
      cases hk : kv j with
      | none =>
        rw [hk] at kj
        simp only [kvV] at kj
        clear hRw
        go_wp2_with fail
        go_loopw [5] (fun ii wr => ii = I 0 ∧ Fr S0 w wr) (fun _ _ => 0)
        case atStart => exact ⟨rfl, hfr⟩
        case round =>
          clear c5 c6 kj sj hfr
          obtain ⟨rfl, hfr⟩ := hrel
          go_wp2_with fail
          go_roundw
          case rel => exact ⟨j + 1, by go_num, by omega, hfr⟩
          case measure => simp [intOf]; omega
      | some p =>
        obtain ⟨g, n⟩ := p
        rw [hk] at kj
        simp only [kvV] at kj
        obtain ⟨hn, hG, -, -⟩ := hrB.out.kp j g n hj8 hk
        have hGB := Bx.mk hG
        have hsB := Bx.mk (fun wx (f : Fr S0 w wx) => (f.row0 hrB.out.sr).cell j hj8)
        have hcB := Bx.mk (fun wx (f : Fr S0 w wx) => (f.row0 hrow.out).cell 6 (by omega))
        clear hRw hG hk
        generalize sv j = sj' at *
        go_wp2_with fail
        go_loopw [5] (fun ii wr => ∃ i : Nat, ii = I i ∧ i ≤ n ∧ Fr S0 w wr) (fun ii _ => n - (intOf ii).toNat)
        case atStart => exact ⟨0, rfl, Nat.zero_le _, hfr⟩
        case round =>
          clear c5 c6 kj sj hfr
          obtain ⟨i, rfl, hi, hfr⟩ := hrel
          by_cases hin : i < n
          · have hdi : decide ((i : Int) < (n : Int)) = true := decide_eq_true (by omega)
            have hdi2 : decide (i < n) = true := decide_eq_true hin
            have hiI : (i : Int) < (n : Int) := by omega
            obtain ⟨k0, k1, k2, k3, k4, k5, k6, k7, k8, k9, k10, k11, k12⟩ := (hGB.out.of hfr id).nd i hin
            have sj := hsB.out wr hfr
            have c6 := hcB.out wr hfr
            simp only [dkC] at c6
            have hrun : ∀ u : World, (binOp .neq 44 (ndV (stN sj')) (ndV (stN sj'))).run Try.prog u = .ok (.bool false) u := fun u => by rw [neq_nd, ndEq_self]; rfl
            have hgd : ∀ u : World, (eqGuard .neq 44 (.tmp 31) (.tmp 39) (ndV (stN sj')) (ndV (stN sj'))).run Try.prog u = .ok () u := fun u => guard_nd _ _ _ _ u
            simp only [stN, rz] at k0 k1 k2 k3 k4 k5 k6 k7 k8 k9 k10 k11 k12 hrun hgd
            go_wp2_with fail
            go_quiet (fail)
            go_wp2_with fail
            go_roundw
            case rel => exact ⟨i + 1, by go_num, by omega, hfr.drewN _⟩
            case measure => simp [intOf]; omega
          · have hdi : decide ((i : Int) < (n : Int)) = false := decide_eq_false (by omega)
            have hdi2 : decide (i < n) = false := decide_eq_false hin
            go_wp2_with fail
            go_roundw
            case rel => exact ⟨j + 1, by go_num, by omega, hfr⟩
            case measure => simp [intOf]; omega
    · have hj9 : j = 8 := by omega
      subst hj9
      go_wp2_with fail
      go_ret
      exact ⟨rfl, hfr⟩
end Go.Proofs.Qxb6500329a
