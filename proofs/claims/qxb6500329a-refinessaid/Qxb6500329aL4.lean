import Derived.Test.Qxb6500329aL3
namespace Go.Proofs.Qxb6500329a
set_option linter.unusedVariables false
set_option linter.unusedSimpArgs false
open Go.RowKit Go.PlainAid
theorem NL.nd {w : World} {g cap : Nat} {L : List Nd} (h : NL w (.slice (some ⟨g, 0, none⟩) L.length cap) L) (p : Nat) (hp : p < L.length) {x : Nd} (hx : L[p] = x) :
    w.cell? ⟨g, p * 13, none⟩ = some (I x.kind) ∧ w.cell? ⟨g, p * 13 + 1, none⟩ = some (I x.op) ∧ w.cell? ⟨g, p * 13 + 2, none⟩ = some (I x.a) ∧ w.cell? ⟨g, p * 13 + 3, none⟩ = some (I x.b) ∧ w.cell? ⟨g, p * 13 + 4, none⟩ = some (I x.n) ∧ w.cell? ⟨g, p * 13 + 5, none⟩ = some (I x.r1.col) ∧ w.cell? ⟨g, p * 13 + 6, none⟩ = some (I x.r1.row) ∧ w.cell? ⟨g, p * 13 + 7, none⟩ = some (.bool x.r1.absC) ∧ w.cell? ⟨g, p * 13 + 8, none⟩ = some (.bool x.r1.absR) ∧ w.cell? ⟨g, p * 13 + 9, none⟩ = some (I x.r2.col) ∧ w.cell? ⟨g, p * 13 + 10, none⟩ = some (I x.r2.row) ∧ w.cell? ⟨g, p * 13 + 11, none⟩ = some (.bool x.r2.absC) ∧ w.cell? ⟨g, p * 13 + 12, none⟩ = some (.bool x.r2.absR) := by
  have h0 := h.cell p 0 hp (by omega) (I x.kind) (by rw [hx]; rfl)
  rw [Nat.add_zero] at h0
  exact ⟨h0, h.cell p 1 hp (by omega) _ (by rw [hx]; rfl), h.cell p 2 hp (by omega) _ (by rw [hx]; rfl), h.cell p 3 hp (by omega) _ (by rw [hx]; rfl), h.cell p 4 hp (by omega) _ (by rw [hx]; rfl), h.cell p 5 hp (by omega) _ (by rw [hx]; rfl), h.cell p 6 hp (by omega) _ (by rw [hx]; rfl), h.cell p 7 hp (by omega) _ (by rw [hx]; rfl), h.cell p 8 hp (by omega) _ (by rw [hx]; rfl), h.cell p 9 hp (by omega) _ (by rw [hx]; rfl), h.cell p 10 hp (by omega) _ (by rw [hx]; rfl), h.cell p 11 hp (by omega) _ (by rw [hx]; rfl), h.cell p 12 hp (by omega) _ (by rw [hx]; rfl)⟩
set_option maxRecDepth 100000 in
set_option maxHeartbeats 4000000 in
theorem same_nodes (a b : Value) (L : List Nd) (w : World) (ha : NL w a L) (hb : NL w b L) (hl : L.length ≤ 100) :
    Calls Try.prog 64 #[a, b] w fun e w' => e = .returned (.bool true) ∧ Fr S0 w w' := by
  by_cases h0 : L = []
  · obtain ⟨p, c, rfl⟩ := ha.slice
    obtain ⟨p2, c2, rfl⟩ := hb.slice
    subst h0
    clear ha hb
    go_enter Try.func64, Try.ntmps64
    go_wp2_with fail
    go_loopw [5] (fun ii wr => ii = I 0 ∧ wr = w) (fun _ _ => 0)
    case atStart => exact ⟨rfl, rfl⟩
    case round =>
      obtain ⟨rfl, rfl⟩ := hrel
      go_wp2_with fail
      go_ret
      exact ⟨rfl, Fr.refl _ _⟩
  · obtain ⟨g, cap, rfl, -, -⟩ := ha.pos h0
    obtain ⟨g2, cap2, rfl, -, -⟩ := hb.pos h0
    have haB := Bx.mk ha
    have hbB := Bx.mk hb
    clear ha hb
    generalize hn : L.length = n at *
    have hnB := Bx.mk hn
    clear hn
    have ne : ((n : Int) != (n : Int)) = false := by simp
    go_enter Try.func64, Try.ntmps64
    go_wp2_with fail
    go_loopw [5] (fun ii wr => ∃ i : Nat, ii = I i ∧ i ≤ n ∧ Fr S0 w wr) (fun ii _ => n - (intOf ii).toNat)
    case atStart => exact ⟨0, rfl, Nat.zero_le _, Fr.refl _ _⟩
    case round =>
      obtain ⟨i, rfl, hi, hfr⟩ := hrel
      by_cases hin : i < n
      · have hdi : decide ((i : Int) < (n : Int)) = true := decide_eq_true (by omega)
        have hdi2 : decide (i < n) = true := decide_eq_true hin
        have hiI : (i : Int) < (n : Int) := by omega
        have hiL : i < L.length := by rw [hnB.out]; exact hin
        obtain ⟨x, hx⟩ : ∃ x, L[i] = x := ⟨_, rfl⟩
        have hA := haB.out.fr0 hfr
        have hB := hbB.out.fr0 hfr
        rw [← hnB.out] at hA hB
        obtain ⟨k0, k1, k2, k3, k4, k5, k6, k7, k8, k9, k10, k11, k12⟩ := hA.nd i hiL hx
        obtain ⟨m0, m1, m2, m3, m4, m5, m6, m7, m8, m9, m10, m11, m12⟩ := hB.nd i hiL hx
        have hrun : ∀ u : World, (binOp .neq 44 (ndV x) (ndV x)).run Try.prog u = .ok (.bool false) u := fun u => by rw [neq_nd, ndEq_self]; rfl
        have hgd : ∀ u : World, (eqGuard .neq 44 (.tmp 20) (.tmp 24) (ndV x) (ndV x)).run Try.prog u = .ok () u := fun u => guard_nd _ _ _ _ u
        clear hA hB hx hiL
        go_wp2_with fail
        go_quiet (fail)
        go_wp2_with fail
        go_roundw
        case rel => exact ⟨i + 1, by go_num, by omega, hfr.drewN _⟩
        case measure => simp [intOf]; omega
      · have hdi : decide ((i : Int) < (n : Int)) = false := decide_eq_false (by omega)
        have hdi2 : decide (i < n) = false := decide_eq_false hin
        go_wp2_with fail
        go_ret
        exact ⟨rfl, hfr⟩
set_option maxRecDepth 100000 in
set_option maxHeartbeats 2000000 in
theorem same_tree (a b : Value) (t : Tr) (w : World) (ha : NL w a t.nodes) (hb : NL w b t.nodes) (hl : t.nodes.length ≤ 100) :
    Calls Try.prog 49 #[treeV a t, treeV b t] w fun e w' => e = .returned (.bool true) ∧ Fr S0 w w' := by
  obtain ⟨p, c, rfl⟩ := ha.slice
  obtain ⟨p2, c2, rfl⟩ := hb.slice
  obtain ⟨L, root, err, pos⟩ := t
  simp only at *
  have hs := Bx.mk (fun wx (f : Fr S0 w wx) => same_nodes _ _ L wx (ha.fr0 f) (hb.fr0 f) hl)
  have e1 : (root != root) = false := by simp
  have e2 : (err != err) = false := by simp
  have e3 : (pos != pos) = false := by simp
  clear ha hb
  generalize L.length = n at *
  go_enter Try.func49, Try.ntmps49
  go_wp2_with (first | (go_at_call 64; refine (hs.out _ (((Fr.refl _ _).alloc _).alloc _)).mono ?_; rintro e w1 ⟨rfl, hf1⟩))
  go_ret
  exact ⟨rfl, (((Fr.refl _ _).alloc _).alloc _).trans hf1⟩
end Go.Proofs.Qxb6500329a
