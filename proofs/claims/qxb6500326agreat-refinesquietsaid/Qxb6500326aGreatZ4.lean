import Derived.Test.Qxb6500326aGreatZ3
namespace Go.Proofs.Qxb6500326aGreat
set_option linter.unusedVariables false
set_option linter.unusedSimpArgs false
open Go.RowKit Go.PlainAid
/-- A note is laid. -/
theorem FP.note {w : World} {B : FB} {N : Notes} {T : List Int} (h : FP w B N T) (c : Nat) (u : Int) (r : Bool) : FP (sets w B.n (c * 2) [I u, .bool r]) B (setN N c (u, r)) T := by
  obtain ⟨F, hF, hl, ho, hN, n1, n2, n3, n4⟩ := h
  refine ⟨_, hF.putNote c u r, hl, ho, ?_, n1, n2, n3, n4⟩
  intro j
  unfold setN
  show (if j = c then (u, r) else N j) = (upd F.nup c u j, upd F.nbrk c r j)
  by_cases e : j = c
  · subst e; rw [if_pos rfl, upd_same, upd_same]
  · rw [if_neg e, upd_other _ _ e, upd_other _ _ e]; exact hN j
theorem FP.cells {w : World} {B : FB} {N : Notes} {T : List Int} (h : FP w B N T) (c : Nat) (hc : c < 24) : w.cell? ⟨B.f, 14, none⟩ = some (sl B.n 24 24) ∧ w.cell? ⟨B.n, c * 2, none⟩ = some (I (N c).1) ∧ w.cell? ⟨B.n, c * 2 + 1, none⟩ = some (.bool (N c).2) ∧ w.frozen? ⟨B.n, c * 2, none⟩ = false ∧ w.frozen? ⟨B.n, c * 2 + 1, none⟩ = false ∧ B.f ≠ B.n := by
  obtain ⟨F, hF, hl, ho, hN, -⟩ := h
  have c14 := hF.row.cell 14 (by omega)
  have a0 := hF.notes.cell0 c hc (by omega)
  have a1 := hF.notes.cell c 1 hc (by omega)
  simp only [fmC, ntC] at c14 a0 a1
  rw [hN c]
  exact ⟨c14, a0, a1, hF.notes.frozen _, hF.notes.frozen _, hF.ok.fn⟩
theorem level_eq (x : Nd) : level x = if x.kind = 6 then 4 else if x.kind = 7 then strength x.op else 5 := by
  unfold level strength
  by_cases h6 : x.kind = 6
  · rw [if_pos h6, if_pos h6]
  · rw [if_neg h6, if_neg h6]
    by_cases h7 : x.kind = 7
    · rw [if_neg (by omega), if_pos h7]
    · rw [if_pos h7, if_neg h7]
set_option maxRecDepth 100000 in
set_option maxHeartbeats 2000000 in
/-- kid: a child's note. -/
theorem kidX (B : FB) (N : Notes) (T : List Int) (g cap : Nat) (L : List Nd) (c p : Nat) (need : Int) (w : World) (h : FP w B N T) (hL : NL w (.slice (some ⟨g, 0, none⟩) L.length cap) L) (hc : c < L.length) (h24 : L.length ≤ 24) :
    Calls Tryz.prog 204 #[pt B.f, .slice (some ⟨g, 0, none⟩) L.length cap, I c, I p, I need] w (Puts w B (kid L N c p need) T) := by
  obtain ⟨x, hx⟩ : ∃ x, nd L c = x := ⟨_, rfl⟩
  have hg : L[c] = x := by rw [← hx]; exact (by unfold nd; rw [List.getElem?_eq_getElem hc]; rfl)
  have k0 := hL.cell c 0 hc (by omega) (I x.kind) (by rw [hg]; rfl)
  have k1 := hL.cell c 1 hc (by omega) (I x.op) (by rw [hg]; rfl)
  rw [Nat.add_zero] at k0
  obtain ⟨c14, a0, a1, z0, z1, fn⟩ := h.cells c (by omega)
  have hcL : (c : Int) < (L.length : Int) := by omega
  have hc24 : (c : Int) < 24 := by omega
  have hN := Bx.mk (fun r => h.note c (p : Int) r)
  have hlv := Bx.mk (level_eq x)
  have hxB := Bx.mk hx
  have hst : Bx (∀ wx, Calls Tryz.prog 191 #[I x.op] wx (fun e w' => e = .returned (I (strength x.op)) ∧ wx = w')) := Bx.mk (fun wx => strength_any x.op wx)
  unfold kid
  clear h hL hx hg
  generalize L.length = n at *
  by_cases h6 : x.kind = 6
  · have d6 : (x.kind == 6) = true := by simpa using h6
    have hle : Bx (decide (level x < need) = decide (4 < need)) := Bx.mk (by rw [hlv.out, if_pos h6])
    clear h6
    go_enter Tryz.func204, Tryz.ntmps204
    go_wp2_with fail
    go_end0
    rw [hxB.out, hle.out]
    exact ⟨rfl, hN.out _, (Fr.refl (FmS B) w).fmN (c * 2) [I (p : Int), .bool (decide (4 < need))]⟩
  · have d6 : (x.kind == 6) = false := by simpa using h6
    by_cases h7 : x.kind = 7
    · have d7 : (x.kind == 7) = true := by simpa using h7
      have hle : Bx (decide (level x < need) = decide (strength x.op < need)) := Bx.mk (by rw [hlv.out, if_neg h6, if_pos h7])
      clear h6 h7
      go_enter Tryz.func204, Tryz.ntmps204
      go_wp2_with (first | (go_at_call 191; refine (hst.out _).mono ?_; clear hst; rintro e w' ⟨rfl, rfl⟩))
      go_end0
      rw [hxB.out, hle.out]
      exact ⟨rfl, hN.out _, (Fr.refl (FmS B) w).fmN (c * 2) [I (p : Int), .bool (decide (strength x.op < need))]⟩
    · have d7 : (x.kind == 7) = false := by simpa using h7
      have hle : Bx (decide (level x < need) = decide (5 < need)) := Bx.mk (by rw [hlv.out, if_neg h6, if_neg h7])
      clear h6 h7
      go_enter Tryz.func204, Tryz.ntmps204
      go_wp2_with fail
      go_end0
      rw [hxB.out, hle.out]
      exact ⟨rfl, hN.out _, (Fr.refl (FmS B) w).fmN (c * 2) [I (p : Int), .bool (decide (5 < need))]⟩
end Go.Proofs.Qxb6500326aGreat
