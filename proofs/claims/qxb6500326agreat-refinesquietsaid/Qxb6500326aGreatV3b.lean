import Derived.Test.Qxb6500326aGreatV2
namespace Go.Proofs.Qxb6500326aGreat
set_option linter.unusedVariables false
set_option linter.unusedSimpArgs false
open Go.RowKit Go.PlainAid
set_option maxRecDepth 100000 in
set_option maxHeartbeats 4000000 in
theorem links_more_no (g n cap : Nat) (L : List Nd) (i : Nat) (w : World) (rg : Bool) (k : Int) (hn : L.length = n) (h : NL w (.slice (some ⟨g, 0, none⟩) n cap) L) (hi : i < L.length) (hi24 : i < 1000) (x : Nd) (hx : nd L i = x) (h1 : x.kind = 9) (h2 : x.a = (i : Int) - 1) (hq : ndEq x (named x) = true) (lo : Int) (hrec : Bx (∀ u, NL u (.slice (some ⟨g, 0, none⟩) n cap) L → Calls Tryz.prog 175 #[.slice (some ⟨g, 0, none⟩) n cap, I x.a, .bool rg] u fun e w' => e = .returned (I lo) ∧ Fr S0 u w')) (h4 : 0 ≤ lo) (hl : lo < 1000) (h5 : k ≠ 1) (h6 : x.b ≠ lo - 1) :
    Calls Tryz.prog 214 #[.slice (some ⟨g, 0, none⟩) n cap, I i, I k, .bool rg] w fun e w' => e = .returned (I (-1)) ∧ Fr S0 w w' := by
  obtain ⟨k0, k1, k2, k3, k4, k5, k6, k7, k8, k9, k10, k11, k12⟩ := h.cells hi hx
  have hiI : (i : Int) < (n : Int) := by omega
  have hid : decide ((i : Int) < 0) = false := decide_eq_false (by omega)
  have hie : decide ((n : Int) ≤ (i : Int)) = false := decide_eq_false (by omega)
  have hif : decide (n ≤ i) = false := decide_eq_false (by omega)
  have z1 : (x.kind != 9) = false := by simpa using h1
  have z2 : (x.a != (i : Int) - 1) = false := by simpa using h2
  have h2B := Bx.mk h2
  clear h1 h2
  have hxB := Bx.mk hx
  clear hx
  have hnm := named_any x w.drew
  have hB := Bx.mk (h.drewN 1)
  have hrun : ∀ u : World, (binOp .neq 149 (ndV x) (ndV (named x))).run Tryz.prog u = .ok (.bool false) u := fun u => by rw [neq_nd, hq]; rfl
  have hgd : ∀ u : World, (eqGuard .neq 149 (.tmp 39) (.tmp 44) (ndV x) (ndV (named x))).run Tryz.prog u = .ok () u := fun u => guard_nd _ _ x (named x) u
  generalize ndV (named x) = yv at *
  have hnm := Bx.mk hnm
  have d4 : decide (lo < 0) = false := decide_eq_false (by omega)
  have d5 : (k == 1) = false := by simpa using h5
  have d6 : (x.b != lo - 1) = true := by simpa using h6
  clear h6 h5
  go_enter Tryz.func214, Tryz.ntmps214
  go_wp2_with fail
  go_region_held3 (fun w' => w'.cell? ⟨g, i * 13, none⟩ = some (I x.kind) ∧ w'.cell? ⟨g, i * 13 + 1, none⟩ = some (I x.op) ∧ w'.cell? ⟨g, i * 13 + 2, none⟩ = some (I x.a) ∧ w'.cell? ⟨g, i * 13 + 3, none⟩ = some (I x.b) ∧ w'.cell? ⟨g, i * 13 + 4, none⟩ = some (I x.n) ∧ w'.cell? ⟨g, i * 13 + 5, none⟩ = some (I x.r1.col) ∧ w'.cell? ⟨g, i * 13 + 6, none⟩ = some (I x.r1.row) ∧ w'.cell? ⟨g, i * 13 + 7, none⟩ = some (.bool x.r1.absC) ∧ w'.cell? ⟨g, i * 13 + 8, none⟩ = some (.bool x.r1.absR) ∧ w'.cell? ⟨g, i * 13 + 9, none⟩ = some (I x.r2.col) ∧ w'.cell? ⟨g, i * 13 + 10, none⟩ = some (I x.r2.row) ∧ w'.cell? ⟨g, i * 13 + 11, none⟩ = some (.bool x.r2.absC) ∧ w'.cell? ⟨g, i * 13 + 12, none⟩ = some (.bool x.r2.absR)) (go_keep)
    (first | (go_at_call 211; refine hnm.out.mono ?_; clear hnm; rintro e w2 ⟨rfl, hf2⟩; have hN2 := Bx.mk (hB.out.fr0 hf2); obtain ⟨j0, j1, j2, j3, j4, j5, j6, j7, j8, j9, j10, j11, j12⟩ := hN2.out.cells hi hxB.out))
  clear hrun hgd k0 k1 k2 k3 k4 k5 k6 k7 k8 k9 k10 k11 k12
  go_wp2_with (first
    | (go_at_call 175; refine (hrec.out _ hN2.out).mono ?_; clear hrec; rintro e w3 ⟨rfl, hf3⟩; have hN3 := Bx.mk (hN2.out.fr0 hf3); clear j0 j1 j2 j3 j4 j5 j6 j7 j8 j9 j10 j11 j12; obtain ⟨j0, j1, j2, j3, j4, j5, j6, j7, j8, j9, j10, j11, j12⟩ := hN3.out.cells hi hxB.out))
  go_ret
  exact ⟨rfl, ((Fr.refl _ _).drew.trans hf2).trans hf3⟩
set_option maxRecDepth 100000 in
set_option maxHeartbeats 4000000 in
theorem links_more (g n cap : Nat) (L : List Nd) (i : Nat) (w : World) (rg : Bool) (k : Int) (hn : L.length = n) (h : NL w (.slice (some ⟨g, 0, none⟩) n cap) L) (hi : i < L.length) (hi24 : i < 1000) (x : Nd) (hx : nd L i = x) (h1 : x.kind = 9) (h2 : x.a = (i : Int) - 1) (hq : ndEq x (named x) = true) (lo : Int) (hrec : Bx (∀ u, NL u (.slice (some ⟨g, 0, none⟩) n cap) L → Calls Tryz.prog 175 #[.slice (some ⟨g, 0, none⟩) n cap, I x.a, .bool rg] u fun e w' => e = .returned (I lo) ∧ Fr S0 u w')) (h4 : 0 ≤ lo) (hl : lo < 1000) (h5 : k ≠ 1) (hk1 : 1 ≤ k) (hk2 : k ≤ 9223372036854775807) (h6 : x.b = lo - 1) (r : Int) (hrec2 : Bx (∀ u, NL u (.slice (some ⟨g, 0, none⟩) n cap) L → Calls Tryz.prog 214 #[.slice (some ⟨g, 0, none⟩) n cap, I x.b, I (k - 1), .bool rg] u fun e w' => e = .returned (I r) ∧ Fr S0 u w')) :
    Calls Tryz.prog 214 #[.slice (some ⟨g, 0, none⟩) n cap, I i, I k, .bool rg] w fun e w' => e = .returned (I r) ∧ Fr S0 w w' := by
  obtain ⟨k0, k1, k2, k3, k4, k5, k6, k7, k8, k9, k10, k11, k12⟩ := h.cells hi hx
  have hiI : (i : Int) < (n : Int) := by omega
  have hid : decide ((i : Int) < 0) = false := decide_eq_false (by omega)
  have hie : decide ((n : Int) ≤ (i : Int)) = false := decide_eq_false (by omega)
  have hif : decide (n ≤ i) = false := decide_eq_false (by omega)
  have z1 : (x.kind != 9) = false := by simpa using h1
  have z2 : (x.a != (i : Int) - 1) = false := by simpa using h2
  have h2B := Bx.mk h2
  clear h1 h2
  have hxB := Bx.mk hx
  clear hx
  have hnm := named_any x w.drew
  have hB := Bx.mk (h.drewN 1)
  have hrun : ∀ u : World, (binOp .neq 149 (ndV x) (ndV (named x))).run Tryz.prog u = .ok (.bool false) u := fun u => by rw [neq_nd, hq]; rfl
  have hgd : ∀ u : World, (eqGuard .neq 149 (.tmp 39) (.tmp 44) (ndV x) (ndV (named x))).run Tryz.prog u = .ok () u := fun u => guard_nd _ _ x (named x) u
  generalize ndV (named x) = yv at *
  have hnm := Bx.mk hnm
  have d4 : decide (lo < 0) = false := decide_eq_false (by omega)
  have d5 : (k == 1) = false := by simpa using h5
  have d6 : (x.b != lo - 1) = false := by simpa using h6
  clear h6 h5
  go_enter Tryz.func214, Tryz.ntmps214
  go_wp2_with fail
  go_region_held3 (fun w' => w'.cell? ⟨g, i * 13, none⟩ = some (I x.kind) ∧ w'.cell? ⟨g, i * 13 + 1, none⟩ = some (I x.op) ∧ w'.cell? ⟨g, i * 13 + 2, none⟩ = some (I x.a) ∧ w'.cell? ⟨g, i * 13 + 3, none⟩ = some (I x.b) ∧ w'.cell? ⟨g, i * 13 + 4, none⟩ = some (I x.n) ∧ w'.cell? ⟨g, i * 13 + 5, none⟩ = some (I x.r1.col) ∧ w'.cell? ⟨g, i * 13 + 6, none⟩ = some (I x.r1.row) ∧ w'.cell? ⟨g, i * 13 + 7, none⟩ = some (.bool x.r1.absC) ∧ w'.cell? ⟨g, i * 13 + 8, none⟩ = some (.bool x.r1.absR) ∧ w'.cell? ⟨g, i * 13 + 9, none⟩ = some (I x.r2.col) ∧ w'.cell? ⟨g, i * 13 + 10, none⟩ = some (I x.r2.row) ∧ w'.cell? ⟨g, i * 13 + 11, none⟩ = some (.bool x.r2.absC) ∧ w'.cell? ⟨g, i * 13 + 12, none⟩ = some (.bool x.r2.absR)) (go_keep)
    (first | (go_at_call 211; refine hnm.out.mono ?_; clear hnm; rintro e w2 ⟨rfl, hf2⟩; have hN2 := Bx.mk (hB.out.fr0 hf2); obtain ⟨j0, j1, j2, j3, j4, j5, j6, j7, j8, j9, j10, j11, j12⟩ := hN2.out.cells hi hxB.out))
  clear hrun hgd k0 k1 k2 k3 k4 k5 k6 k7 k8 k9 k10 k11 k12
  go_wp2_with (first
    | (go_at_call 175; refine (hrec.out _ hN2.out).mono ?_; clear hrec; rintro e w3 ⟨rfl, hf3⟩; have hN3 := Bx.mk (hN2.out.fr0 hf3); clear j0 j1 j2 j3 j4 j5 j6 j7 j8 j9 j10 j11 j12; obtain ⟨j0, j1, j2, j3, j4, j5, j6, j7, j8, j9, j10, j11, j12⟩ := hN3.out.cells hi hxB.out)
    | (go_at_call 214; refine (hrec2.out _ hN3.out).mono ?_; clear hrec2; rintro e w4 ⟨rfl, hf4⟩))
  go_ret
  exact ⟨rfl, (((Fr.refl _ _).drew.trans hf2).trans hf3).trans hf4⟩
end Go.Proofs.Qxb6500326aGreat
