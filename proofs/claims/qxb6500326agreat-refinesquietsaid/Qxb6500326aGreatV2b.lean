import Derived.Test.Qxb6500326aGreatV2
namespace Go.Proofs.Qxb6500326aGreat
set_option linter.unusedVariables false
set_option linter.unusedSimpArgs false
open Go.RowKit Go.PlainAid
set_option maxRecDepth 100000 in
set_option maxHeartbeats 4000000 in
theorem span_range (g n cap : Nat) (L : List Nd) (i : Nat) (w : World) (arg : Bool) (hn : L.length = n) (h : NL w (.slice (some ⟨g, 0, none⟩) n cap) L) (hi : i < L.length) (hi24 : i < 1000) (x : Nd) (hx : nd L i = x) (hq : ndEq x (named x) = true) (hk : x.kind = 4) (ha : arg = true) :
    Calls Tryz.prog 175 #[.slice (some ⟨g, 0, none⟩) n cap, I i, .bool arg] w fun e w' => e = .returned (I i) ∧ Fr S0 w w' := by
  obtain ⟨k0, k1, k2, k3, k4, k5, k6, k7, k8, k9, k10, k11, k12⟩ := h.cells hi hx
  have hiI : (i : Int) < (n : Int) := by omega
  have hid : decide ((i : Int) < 0) = false := decide_eq_false (by omega)
  have hie : decide ((n : Int) ≤ (i : Int)) = false := decide_eq_false (by omega)
  have hif : decide (n ≤ i) = false := decide_eq_false (by omega)
  have hnm := named_any x (w.alloc (.cells (ndA x) 149)).drew
  have hX := Bx.mk (nb_new w x)
  have hB := Bx.mk ((h.fr0 ((Fr.refl S0 w).alloc (.cells (ndA x) 149))).drewN 1)
  have hrun : ∀ u : World, (binOp .neq 149 (ndV x) (ndV (named x))).run Tryz.prog u = .ok (.bool false) u := fun u => by rw [neq_nd, hq]; rfl
  have hgd : ∀ u : World, (eqGuard .neq 149 (.tmp 22) (.tmp 24) (ndV x) (ndV (named x))).run Tryz.prog u = .ok () u := fun u => guard_nd _ _ x (named x) u
  generalize ndV (named x) = yv at *
  have hnm := Bx.mk hnm
  have t1 : (x.kind == 1) = false := by simp [hk]
  have t2 : (x.kind == 2) = false := by simp [hk]
  have t3 : (x.kind == 3) = false := by simp [hk]
  have t4 : (x.kind == 4) = true := by simp [hk]
  have t5 : (x.kind == 5) = false := by simp [hk]
  have t6 : (x.kind == 6) = false := by simp [hk]
  have t7 : (x.kind == 7) = false := by simp [hk]
  have t8 : (x.kind == 8) = false := by simp [hk]
  have hkB := Bx.mk hk
  clear hk
  subst ha
  go_enter Tryz.func175, Tryz.ntmps175
  go_wp2_with fail
  go_region_held3 (fun w' => w'.cell? ⟨w.heap.size, 0, none⟩ = some (I x.kind) ∧ w'.cell? ⟨w.heap.size, 1, none⟩ = some (I x.op) ∧ w'.cell? ⟨w.heap.size, 2, none⟩ = some (I x.a) ∧ w'.cell? ⟨w.heap.size, 3, none⟩ = some (I x.b) ∧ w'.cell? ⟨w.heap.size, 4, none⟩ = some (I x.n) ∧ w'.cell? ⟨w.heap.size, 5, none⟩ = some (I x.r1.col) ∧ w'.cell? ⟨w.heap.size, 6, none⟩ = some (I x.r1.row) ∧ w'.cell? ⟨w.heap.size, 7, none⟩ = some (.bool x.r1.absC) ∧ w'.cell? ⟨w.heap.size, 8, none⟩ = some (.bool x.r1.absR) ∧ w'.cell? ⟨w.heap.size, 9, none⟩ = some (I x.r2.col) ∧ w'.cell? ⟨w.heap.size, 10, none⟩ = some (I x.r2.row) ∧ w'.cell? ⟨w.heap.size, 11, none⟩ = some (.bool x.r2.absC) ∧ w'.cell? ⟨w.heap.size, 12, none⟩ = some (.bool x.r2.absR)) (go_keep)
    (first | (go_at_call 211; refine hnm.out.mono ?_; clear hnm; rintro e w2 ⟨rfl, hf2⟩; have hX2 := Bx.mk (hf2.row0 hX.out.drew); have hN2 := Bx.mk (hB.out.fr0 hf2); obtain ⟨j0, j1, j2, j3, j4, j5, j6, j7, j8, j9, j10, j11, j12⟩ := hX2.out.nd))
  clear hrun hgd k0 k1 k2 k3 k4 k5 k6 k7 k8 k9 k10 k11 k12
  go_wp2
  go_ret
  exact ⟨rfl, ((Fr.refl _ _).alloc _).drew.trans hf2⟩
set_option maxRecDepth 100000 in
set_option maxHeartbeats 4000000 in
theorem span_rangeno (g n cap : Nat) (L : List Nd) (i : Nat) (w : World) (arg : Bool) (hn : L.length = n) (h : NL w (.slice (some ⟨g, 0, none⟩) n cap) L) (hi : i < L.length) (hi24 : i < 1000) (x : Nd) (hx : nd L i = x) (hq : ndEq x (named x) = true) (hk : x.kind = 4) (ha : arg = false) :
    Calls Tryz.prog 175 #[.slice (some ⟨g, 0, none⟩) n cap, I i, .bool arg] w fun e w' => e = .returned (I (-1)) ∧ Fr S0 w w' := by
  obtain ⟨k0, k1, k2, k3, k4, k5, k6, k7, k8, k9, k10, k11, k12⟩ := h.cells hi hx
  have hiI : (i : Int) < (n : Int) := by omega
  have hid : decide ((i : Int) < 0) = false := decide_eq_false (by omega)
  have hie : decide ((n : Int) ≤ (i : Int)) = false := decide_eq_false (by omega)
  have hif : decide (n ≤ i) = false := decide_eq_false (by omega)
  have hnm := named_any x (w.alloc (.cells (ndA x) 149)).drew
  have hX := Bx.mk (nb_new w x)
  have hB := Bx.mk ((h.fr0 ((Fr.refl S0 w).alloc (.cells (ndA x) 149))).drewN 1)
  have hrun : ∀ u : World, (binOp .neq 149 (ndV x) (ndV (named x))).run Tryz.prog u = .ok (.bool false) u := fun u => by rw [neq_nd, hq]; rfl
  have hgd : ∀ u : World, (eqGuard .neq 149 (.tmp 22) (.tmp 24) (ndV x) (ndV (named x))).run Tryz.prog u = .ok () u := fun u => guard_nd _ _ x (named x) u
  generalize ndV (named x) = yv at *
  have hnm := Bx.mk hnm
  have t1 : (x.kind == 1) = false := by simp [hk]
  have t2 : (x.kind == 2) = false := by simp [hk]
  have t3 : (x.kind == 3) = false := by simp [hk]
  have t4 : (x.kind == 4) = true := by simp [hk]
  have t5 : (x.kind == 5) = false := by simp [hk]
  have t6 : (x.kind == 6) = false := by simp [hk]
  have t7 : (x.kind == 7) = false := by simp [hk]
  have t8 : (x.kind == 8) = false := by simp [hk]
  have hkB := Bx.mk hk
  clear hk
  subst ha
  go_enter Tryz.func175, Tryz.ntmps175
  go_wp2_with fail
  go_region_held3 (fun w' => w'.cell? ⟨w.heap.size, 0, none⟩ = some (I x.kind) ∧ w'.cell? ⟨w.heap.size, 1, none⟩ = some (I x.op) ∧ w'.cell? ⟨w.heap.size, 2, none⟩ = some (I x.a) ∧ w'.cell? ⟨w.heap.size, 3, none⟩ = some (I x.b) ∧ w'.cell? ⟨w.heap.size, 4, none⟩ = some (I x.n) ∧ w'.cell? ⟨w.heap.size, 5, none⟩ = some (I x.r1.col) ∧ w'.cell? ⟨w.heap.size, 6, none⟩ = some (I x.r1.row) ∧ w'.cell? ⟨w.heap.size, 7, none⟩ = some (.bool x.r1.absC) ∧ w'.cell? ⟨w.heap.size, 8, none⟩ = some (.bool x.r1.absR) ∧ w'.cell? ⟨w.heap.size, 9, none⟩ = some (I x.r2.col) ∧ w'.cell? ⟨w.heap.size, 10, none⟩ = some (I x.r2.row) ∧ w'.cell? ⟨w.heap.size, 11, none⟩ = some (.bool x.r2.absC) ∧ w'.cell? ⟨w.heap.size, 12, none⟩ = some (.bool x.r2.absR)) (go_keep)
    (first | (go_at_call 211; refine hnm.out.mono ?_; clear hnm; rintro e w2 ⟨rfl, hf2⟩; have hX2 := Bx.mk (hf2.row0 hX.out.drew); have hN2 := Bx.mk (hB.out.fr0 hf2); obtain ⟨j0, j1, j2, j3, j4, j5, j6, j7, j8, j9, j10, j11, j12⟩ := hX2.out.nd))
  clear hrun hgd k0 k1 k2 k3 k4 k5 k6 k7 k8 k9 k10 k11 k12
  go_wp2
  go_ret
  exact ⟨rfl, ((Fr.refl _ _).alloc _).drew.trans hf2⟩
set_option maxRecDepth 100000 in
set_option maxHeartbeats 4000000 in
theorem span_neg_no (g n cap : Nat) (L : List Nd) (i : Nat) (w : World) (arg : Bool) (hn : L.length = n) (h : NL w (.slice (some ⟨g, 0, none⟩) n cap) L) (hi : i < L.length) (hi24 : i < 1000) (x : Nd) (hx : nd L i = x) (hq : ndEq x (named x) = true) (hk : x.kind = 6) (h1 : x.a ≠ (i : Int) - 1) :
    Calls Tryz.prog 175 #[.slice (some ⟨g, 0, none⟩) n cap, I i, .bool arg] w fun e w' => e = .returned (I (-1)) ∧ Fr S0 w w' := by
  obtain ⟨k0, k1, k2, k3, k4, k5, k6, k7, k8, k9, k10, k11, k12⟩ := h.cells hi hx
  have hiI : (i : Int) < (n : Int) := by omega
  have hid : decide ((i : Int) < 0) = false := decide_eq_false (by omega)
  have hie : decide ((n : Int) ≤ (i : Int)) = false := decide_eq_false (by omega)
  have hif : decide (n ≤ i) = false := decide_eq_false (by omega)
  have hnm := named_any x (w.alloc (.cells (ndA x) 149)).drew
  have hX := Bx.mk (nb_new w x)
  have hB := Bx.mk ((h.fr0 ((Fr.refl S0 w).alloc (.cells (ndA x) 149))).drewN 1)
  have hrun : ∀ u : World, (binOp .neq 149 (ndV x) (ndV (named x))).run Tryz.prog u = .ok (.bool false) u := fun u => by rw [neq_nd, hq]; rfl
  have hgd : ∀ u : World, (eqGuard .neq 149 (.tmp 22) (.tmp 24) (ndV x) (ndV (named x))).run Tryz.prog u = .ok () u := fun u => guard_nd _ _ x (named x) u
  generalize ndV (named x) = yv at *
  have hnm := Bx.mk hnm
  have t1 : (x.kind == 1) = false := by simp [hk]
  have t2 : (x.kind == 2) = false := by simp [hk]
  have t3 : (x.kind == 3) = false := by simp [hk]
  have t4 : (x.kind == 4) = false := by simp [hk]
  have t5 : (x.kind == 5) = false := by simp [hk]
  have t6 : (x.kind == 6) = true := by simp [hk]
  have t7 : (x.kind == 7) = false := by simp [hk]
  have t8 : (x.kind == 8) = false := by simp [hk]
  have hkB := Bx.mk hk
  clear hk
  have d1 : (x.a != (i : Int) - 1) = true := by simpa using h1
  clear h1
  go_enter Tryz.func175, Tryz.ntmps175
  go_wp2_with fail
  go_region_held3 (fun w' => w'.cell? ⟨w.heap.size, 0, none⟩ = some (I x.kind) ∧ w'.cell? ⟨w.heap.size, 1, none⟩ = some (I x.op) ∧ w'.cell? ⟨w.heap.size, 2, none⟩ = some (I x.a) ∧ w'.cell? ⟨w.heap.size, 3, none⟩ = some (I x.b) ∧ w'.cell? ⟨w.heap.size, 4, none⟩ = some (I x.n) ∧ w'.cell? ⟨w.heap.size, 5, none⟩ = some (I x.r1.col) ∧ w'.cell? ⟨w.heap.size, 6, none⟩ = some (I x.r1.row) ∧ w'.cell? ⟨w.heap.size, 7, none⟩ = some (.bool x.r1.absC) ∧ w'.cell? ⟨w.heap.size, 8, none⟩ = some (.bool x.r1.absR) ∧ w'.cell? ⟨w.heap.size, 9, none⟩ = some (I x.r2.col) ∧ w'.cell? ⟨w.heap.size, 10, none⟩ = some (I x.r2.row) ∧ w'.cell? ⟨w.heap.size, 11, none⟩ = some (.bool x.r2.absC) ∧ w'.cell? ⟨w.heap.size, 12, none⟩ = some (.bool x.r2.absR)) (go_keep)
    (first | (go_at_call 211; refine hnm.out.mono ?_; clear hnm; rintro e w2 ⟨rfl, hf2⟩; have hX2 := Bx.mk (hf2.row0 hX.out.drew); have hN2 := Bx.mk (hB.out.fr0 hf2); obtain ⟨j0, j1, j2, j3, j4, j5, j6, j7, j8, j9, j10, j11, j12⟩ := hX2.out.nd))
  clear hrun hgd k0 k1 k2 k3 k4 k5 k6 k7 k8 k9 k10 k11 k12
  go_wp2
  go_ret
  exact ⟨rfl, ((Fr.refl _ _).alloc _).drew.trans hf2⟩
set_option maxRecDepth 100000 in
set_option maxHeartbeats 4000000 in
theorem span_neg (g n cap : Nat) (L : List Nd) (i : Nat) (w : World) (arg : Bool) (hn : L.length = n) (h : NL w (.slice (some ⟨g, 0, none⟩) n cap) L) (hi : i < L.length) (hi24 : i < 1000) (x : Nd) (hx : nd L i = x) (hq : ndEq x (named x) = true) (hk : x.kind = 6) (h1 : x.a = (i : Int) - 1) (r : Int) (hrec : Bx (∀ u, NL u (.slice (some ⟨g, 0, none⟩) n cap) L → Calls Tryz.prog 175 #[.slice (some ⟨g, 0, none⟩) n cap, I x.a, .bool false] u fun e w' => e = .returned (I r) ∧ Fr S0 u w')) :
    Calls Tryz.prog 175 #[.slice (some ⟨g, 0, none⟩) n cap, I i, .bool arg] w fun e w' => e = .returned (I r) ∧ Fr S0 w w' := by
  obtain ⟨k0, k1, k2, k3, k4, k5, k6, k7, k8, k9, k10, k11, k12⟩ := h.cells hi hx
  have hiI : (i : Int) < (n : Int) := by omega
  have hid : decide ((i : Int) < 0) = false := decide_eq_false (by omega)
  have hie : decide ((n : Int) ≤ (i : Int)) = false := decide_eq_false (by omega)
  have hif : decide (n ≤ i) = false := decide_eq_false (by omega)
  have hnm := named_any x (w.alloc (.cells (ndA x) 149)).drew
  have hX := Bx.mk (nb_new w x)
  have hB := Bx.mk ((h.fr0 ((Fr.refl S0 w).alloc (.cells (ndA x) 149))).drewN 1)
  have hrun : ∀ u : World, (binOp .neq 149 (ndV x) (ndV (named x))).run Tryz.prog u = .ok (.bool false) u := fun u => by rw [neq_nd, hq]; rfl
  have hgd : ∀ u : World, (eqGuard .neq 149 (.tmp 22) (.tmp 24) (ndV x) (ndV (named x))).run Tryz.prog u = .ok () u := fun u => guard_nd _ _ x (named x) u
  generalize ndV (named x) = yv at *
  have hnm := Bx.mk hnm
  have t1 : (x.kind == 1) = false := by simp [hk]
  have t2 : (x.kind == 2) = false := by simp [hk]
  have t3 : (x.kind == 3) = false := by simp [hk]
  have t4 : (x.kind == 4) = false := by simp [hk]
  have t5 : (x.kind == 5) = false := by simp [hk]
  have t6 : (x.kind == 6) = true := by simp [hk]
  have t7 : (x.kind == 7) = false := by simp [hk]
  have t8 : (x.kind == 8) = false := by simp [hk]
  have hkB := Bx.mk hk
  clear hk
  have d1 : (x.a != (i : Int) - 1) = false := by simpa using h1
  clear h1
  go_enter Tryz.func175, Tryz.ntmps175
  go_wp2_with fail
  go_region_held3 (fun w' => w'.cell? ⟨w.heap.size, 0, none⟩ = some (I x.kind) ∧ w'.cell? ⟨w.heap.size, 1, none⟩ = some (I x.op) ∧ w'.cell? ⟨w.heap.size, 2, none⟩ = some (I x.a) ∧ w'.cell? ⟨w.heap.size, 3, none⟩ = some (I x.b) ∧ w'.cell? ⟨w.heap.size, 4, none⟩ = some (I x.n) ∧ w'.cell? ⟨w.heap.size, 5, none⟩ = some (I x.r1.col) ∧ w'.cell? ⟨w.heap.size, 6, none⟩ = some (I x.r1.row) ∧ w'.cell? ⟨w.heap.size, 7, none⟩ = some (.bool x.r1.absC) ∧ w'.cell? ⟨w.heap.size, 8, none⟩ = some (.bool x.r1.absR) ∧ w'.cell? ⟨w.heap.size, 9, none⟩ = some (I x.r2.col) ∧ w'.cell? ⟨w.heap.size, 10, none⟩ = some (I x.r2.row) ∧ w'.cell? ⟨w.heap.size, 11, none⟩ = some (.bool x.r2.absC) ∧ w'.cell? ⟨w.heap.size, 12, none⟩ = some (.bool x.r2.absR)) (go_keep)
    (first | (go_at_call 211; refine hnm.out.mono ?_; clear hnm; rintro e w2 ⟨rfl, hf2⟩; have hX2 := Bx.mk (hf2.row0 hX.out.drew); have hN2 := Bx.mk (hB.out.fr0 hf2); obtain ⟨j0, j1, j2, j3, j4, j5, j6, j7, j8, j9, j10, j11, j12⟩ := hX2.out.nd))
  clear hrun hgd k0 k1 k2 k3 k4 k5 k6 k7 k8 k9 k10 k11 k12
  go_wp2_with (first
    | (go_at_call 175; refine (hrec.out _ hN2.out).mono ?_; clear hrec; rintro e w3 ⟨rfl, hf3⟩))
  go_ret
  exact ⟨rfl, (((Fr.refl _ _).alloc _).drew.trans hf2).trans hf3⟩
set_option maxRecDepth 100000 in
set_option maxHeartbeats 4000000 in
theorem span_bin_lo (g n cap : Nat) (L : List Nd) (i : Nat) (w : World) (arg : Bool) (hn : L.length = n) (h : NL w (.slice (some ⟨g, 0, none⟩) n cap) L) (hi : i < L.length) (hi24 : i < 1000) (x : Nd) (hx : nd L i = x) (hq : ndEq x (named x) = true) (hk : x.kind = 7) (h1 : x.op < 1) :
    Calls Tryz.prog 175 #[.slice (some ⟨g, 0, none⟩) n cap, I i, .bool arg] w fun e w' => e = .returned (I (-1)) ∧ Fr S0 w w' := by
  obtain ⟨k0, k1, k2, k3, k4, k5, k6, k7, k8, k9, k10, k11, k12⟩ := h.cells hi hx
  have hiI : (i : Int) < (n : Int) := by omega
  have hid : decide ((i : Int) < 0) = false := decide_eq_false (by omega)
  have hie : decide ((n : Int) ≤ (i : Int)) = false := decide_eq_false (by omega)
  have hif : decide (n ≤ i) = false := decide_eq_false (by omega)
  have hnm := named_any x (w.alloc (.cells (ndA x) 149)).drew
  have hX := Bx.mk (nb_new w x)
  have hB := Bx.mk ((h.fr0 ((Fr.refl S0 w).alloc (.cells (ndA x) 149))).drewN 1)
  have hrun : ∀ u : World, (binOp .neq 149 (ndV x) (ndV (named x))).run Tryz.prog u = .ok (.bool false) u := fun u => by rw [neq_nd, hq]; rfl
  have hgd : ∀ u : World, (eqGuard .neq 149 (.tmp 22) (.tmp 24) (ndV x) (ndV (named x))).run Tryz.prog u = .ok () u := fun u => guard_nd _ _ x (named x) u
  generalize ndV (named x) = yv at *
  have hnm := Bx.mk hnm
  have t1 : (x.kind == 1) = false := by simp [hk]
  have t2 : (x.kind == 2) = false := by simp [hk]
  have t3 : (x.kind == 3) = false := by simp [hk]
  have t4 : (x.kind == 4) = false := by simp [hk]
  have t5 : (x.kind == 5) = false := by simp [hk]
  have t6 : (x.kind == 6) = false := by simp [hk]
  have t7 : (x.kind == 7) = true := by simp [hk]
  have t8 : (x.kind == 8) = false := by simp [hk]
  have hkB := Bx.mk hk
  clear hk
  have d1 : decide (x.op < 1) = true := decide_eq_true (by omega)
  go_enter Tryz.func175, Tryz.ntmps175
  go_wp2_with fail
  go_region_held3 (fun w' => w'.cell? ⟨w.heap.size, 0, none⟩ = some (I x.kind) ∧ w'.cell? ⟨w.heap.size, 1, none⟩ = some (I x.op) ∧ w'.cell? ⟨w.heap.size, 2, none⟩ = some (I x.a) ∧ w'.cell? ⟨w.heap.size, 3, none⟩ = some (I x.b) ∧ w'.cell? ⟨w.heap.size, 4, none⟩ = some (I x.n) ∧ w'.cell? ⟨w.heap.size, 5, none⟩ = some (I x.r1.col) ∧ w'.cell? ⟨w.heap.size, 6, none⟩ = some (I x.r1.row) ∧ w'.cell? ⟨w.heap.size, 7, none⟩ = some (.bool x.r1.absC) ∧ w'.cell? ⟨w.heap.size, 8, none⟩ = some (.bool x.r1.absR) ∧ w'.cell? ⟨w.heap.size, 9, none⟩ = some (I x.r2.col) ∧ w'.cell? ⟨w.heap.size, 10, none⟩ = some (I x.r2.row) ∧ w'.cell? ⟨w.heap.size, 11, none⟩ = some (.bool x.r2.absC) ∧ w'.cell? ⟨w.heap.size, 12, none⟩ = some (.bool x.r2.absR)) (go_keep)
    (first | (go_at_call 211; refine hnm.out.mono ?_; clear hnm; rintro e w2 ⟨rfl, hf2⟩; have hX2 := Bx.mk (hf2.row0 hX.out.drew); have hN2 := Bx.mk (hB.out.fr0 hf2); obtain ⟨j0, j1, j2, j3, j4, j5, j6, j7, j8, j9, j10, j11, j12⟩ := hX2.out.nd))
  clear hrun hgd k0 k1 k2 k3 k4 k5 k6 k7 k8 k9 k10 k11 k12
  go_wp2
  go_ret
  exact ⟨rfl, ((Fr.refl _ _).alloc _).drew.trans hf2⟩
set_option maxRecDepth 100000 in
set_option maxHeartbeats 4000000 in
theorem span_bin_hi (g n cap : Nat) (L : List Nd) (i : Nat) (w : World) (arg : Bool) (hn : L.length = n) (h : NL w (.slice (some ⟨g, 0, none⟩) n cap) L) (hi : i < L.length) (hi24 : i < 1000) (x : Nd) (hx : nd L i = x) (hq : ndEq x (named x) = true) (hk : x.kind = 7) (h1 : 1 ≤ x.op) (h2 : 10 < x.op) :
    Calls Tryz.prog 175 #[.slice (some ⟨g, 0, none⟩) n cap, I i, .bool arg] w fun e w' => e = .returned (I (-1)) ∧ Fr S0 w w' := by
  obtain ⟨k0, k1, k2, k3, k4, k5, k6, k7, k8, k9, k10, k11, k12⟩ := h.cells hi hx
  have hiI : (i : Int) < (n : Int) := by omega
  have hid : decide ((i : Int) < 0) = false := decide_eq_false (by omega)
  have hie : decide ((n : Int) ≤ (i : Int)) = false := decide_eq_false (by omega)
  have hif : decide (n ≤ i) = false := decide_eq_false (by omega)
  have hnm := named_any x (w.alloc (.cells (ndA x) 149)).drew
  have hX := Bx.mk (nb_new w x)
  have hB := Bx.mk ((h.fr0 ((Fr.refl S0 w).alloc (.cells (ndA x) 149))).drewN 1)
  have hrun : ∀ u : World, (binOp .neq 149 (ndV x) (ndV (named x))).run Tryz.prog u = .ok (.bool false) u := fun u => by rw [neq_nd, hq]; rfl
  have hgd : ∀ u : World, (eqGuard .neq 149 (.tmp 22) (.tmp 24) (ndV x) (ndV (named x))).run Tryz.prog u = .ok () u := fun u => guard_nd _ _ x (named x) u
  generalize ndV (named x) = yv at *
  have hnm := Bx.mk hnm
  have t1 : (x.kind == 1) = false := by simp [hk]
  have t2 : (x.kind == 2) = false := by simp [hk]
  have t3 : (x.kind == 3) = false := by simp [hk]
  have t4 : (x.kind == 4) = false := by simp [hk]
  have t5 : (x.kind == 5) = false := by simp [hk]
  have t6 : (x.kind == 6) = false := by simp [hk]
  have t7 : (x.kind == 7) = true := by simp [hk]
  have t8 : (x.kind == 8) = false := by simp [hk]
  have hkB := Bx.mk hk
  clear hk
  have d1 : decide (x.op < 1) = false := decide_eq_false (by omega)
  have d2 : decide ((10 : Int) < x.op) = true := decide_eq_true (by omega)
  go_enter Tryz.func175, Tryz.ntmps175
  go_wp2_with fail
  go_region_held3 (fun w' => w'.cell? ⟨w.heap.size, 0, none⟩ = some (I x.kind) ∧ w'.cell? ⟨w.heap.size, 1, none⟩ = some (I x.op) ∧ w'.cell? ⟨w.heap.size, 2, none⟩ = some (I x.a) ∧ w'.cell? ⟨w.heap.size, 3, none⟩ = some (I x.b) ∧ w'.cell? ⟨w.heap.size, 4, none⟩ = some (I x.n) ∧ w'.cell? ⟨w.heap.size, 5, none⟩ = some (I x.r1.col) ∧ w'.cell? ⟨w.heap.size, 6, none⟩ = some (I x.r1.row) ∧ w'.cell? ⟨w.heap.size, 7, none⟩ = some (.bool x.r1.absC) ∧ w'.cell? ⟨w.heap.size, 8, none⟩ = some (.bool x.r1.absR) ∧ w'.cell? ⟨w.heap.size, 9, none⟩ = some (I x.r2.col) ∧ w'.cell? ⟨w.heap.size, 10, none⟩ = some (I x.r2.row) ∧ w'.cell? ⟨w.heap.size, 11, none⟩ = some (.bool x.r2.absC) ∧ w'.cell? ⟨w.heap.size, 12, none⟩ = some (.bool x.r2.absR)) (go_keep)
    (first | (go_at_call 211; refine hnm.out.mono ?_; clear hnm; rintro e w2 ⟨rfl, hf2⟩; have hX2 := Bx.mk (hf2.row0 hX.out.drew); have hN2 := Bx.mk (hB.out.fr0 hf2); obtain ⟨j0, j1, j2, j3, j4, j5, j6, j7, j8, j9, j10, j11, j12⟩ := hX2.out.nd))
  clear hrun hgd k0 k1 k2 k3 k4 k5 k6 k7 k8 k9 k10 k11 k12
  go_wp2
  go_ret
  exact ⟨rfl, ((Fr.refl _ _).alloc _).drew.trans hf2⟩
set_option maxRecDepth 100000 in
set_option maxHeartbeats 4000000 in
theorem span_bin_b (g n cap : Nat) (L : List Nd) (i : Nat) (w : World) (arg : Bool) (hn : L.length = n) (h : NL w (.slice (some ⟨g, 0, none⟩) n cap) L) (hi : i < L.length) (hi24 : i < 1000) (x : Nd) (hx : nd L i = x) (hq : ndEq x (named x) = true) (hk : x.kind = 7) (h1 : 1 ≤ x.op) (h2 : x.op ≤ 10) (h3 : x.b ≠ (i : Int) - 1) :
    Calls Tryz.prog 175 #[.slice (some ⟨g, 0, none⟩) n cap, I i, .bool arg] w fun e w' => e = .returned (I (-1)) ∧ Fr S0 w w' := by
  obtain ⟨k0, k1, k2, k3, k4, k5, k6, k7, k8, k9, k10, k11, k12⟩ := h.cells hi hx
  have hiI : (i : Int) < (n : Int) := by omega
  have hid : decide ((i : Int) < 0) = false := decide_eq_false (by omega)
  have hie : decide ((n : Int) ≤ (i : Int)) = false := decide_eq_false (by omega)
  have hif : decide (n ≤ i) = false := decide_eq_false (by omega)
  have hnm := named_any x (w.alloc (.cells (ndA x) 149)).drew
  have hX := Bx.mk (nb_new w x)
  have hB := Bx.mk ((h.fr0 ((Fr.refl S0 w).alloc (.cells (ndA x) 149))).drewN 1)
  have hrun : ∀ u : World, (binOp .neq 149 (ndV x) (ndV (named x))).run Tryz.prog u = .ok (.bool false) u := fun u => by rw [neq_nd, hq]; rfl
  have hgd : ∀ u : World, (eqGuard .neq 149 (.tmp 22) (.tmp 24) (ndV x) (ndV (named x))).run Tryz.prog u = .ok () u := fun u => guard_nd _ _ x (named x) u
  generalize ndV (named x) = yv at *
  have hnm := Bx.mk hnm
  have t1 : (x.kind == 1) = false := by simp [hk]
  have t2 : (x.kind == 2) = false := by simp [hk]
  have t3 : (x.kind == 3) = false := by simp [hk]
  have t4 : (x.kind == 4) = false := by simp [hk]
  have t5 : (x.kind == 5) = false := by simp [hk]
  have t6 : (x.kind == 6) = false := by simp [hk]
  have t7 : (x.kind == 7) = true := by simp [hk]
  have t8 : (x.kind == 8) = false := by simp [hk]
  have hkB := Bx.mk hk
  clear hk
  have d1 : decide (x.op < 1) = false := decide_eq_false (by omega)
  have d2 : decide ((10 : Int) < x.op) = false := decide_eq_false (by omega)
  have d3 : (x.b != (i : Int) - 1) = true := by simpa using h3
  clear h3
  go_enter Tryz.func175, Tryz.ntmps175
  go_wp2_with fail
  go_region_held3 (fun w' => w'.cell? ⟨w.heap.size, 0, none⟩ = some (I x.kind) ∧ w'.cell? ⟨w.heap.size, 1, none⟩ = some (I x.op) ∧ w'.cell? ⟨w.heap.size, 2, none⟩ = some (I x.a) ∧ w'.cell? ⟨w.heap.size, 3, none⟩ = some (I x.b) ∧ w'.cell? ⟨w.heap.size, 4, none⟩ = some (I x.n) ∧ w'.cell? ⟨w.heap.size, 5, none⟩ = some (I x.r1.col) ∧ w'.cell? ⟨w.heap.size, 6, none⟩ = some (I x.r1.row) ∧ w'.cell? ⟨w.heap.size, 7, none⟩ = some (.bool x.r1.absC) ∧ w'.cell? ⟨w.heap.size, 8, none⟩ = some (.bool x.r1.absR) ∧ w'.cell? ⟨w.heap.size, 9, none⟩ = some (I x.r2.col) ∧ w'.cell? ⟨w.heap.size, 10, none⟩ = some (I x.r2.row) ∧ w'.cell? ⟨w.heap.size, 11, none⟩ = some (.bool x.r2.absC) ∧ w'.cell? ⟨w.heap.size, 12, none⟩ = some (.bool x.r2.absR)) (go_keep)
    (first | (go_at_call 211; refine hnm.out.mono ?_; clear hnm; rintro e w2 ⟨rfl, hf2⟩; have hX2 := Bx.mk (hf2.row0 hX.out.drew); have hN2 := Bx.mk (hB.out.fr0 hf2); obtain ⟨j0, j1, j2, j3, j4, j5, j6, j7, j8, j9, j10, j11, j12⟩ := hX2.out.nd))
  clear hrun hgd k0 k1 k2 k3 k4 k5 k6 k7 k8 k9 k10 k11 k12
  go_wp2
  go_ret
  exact ⟨rfl, ((Fr.refl _ _).alloc _).drew.trans hf2⟩
end Go.Proofs.Qxb6500326aGreat
