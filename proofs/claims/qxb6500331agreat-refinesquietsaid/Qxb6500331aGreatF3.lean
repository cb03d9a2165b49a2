import Derived.Test.Qxb6500331aGreatF1
namespace Go.Proofs.Qxb6500331aGreat
set_option maxRecDepth 100000
set_option linter.unusedVariables false
set_option linter.unusedSimpArgs false
open Go.RowKit Go.PlainAid

theorem made_grid47 {w : World} {H n b : Nat} (h : w.ownsRow b 47 3 (.slice (some ⟨H, 0, none⟩) n n) n (madeCells (vV v0).cells (n * 3)).toList) : Grid w H n 3 (fun _ => vC v0) := by
  rcases h.2 with ⟨e, _⟩ | ⟨g, cap, cur, e, hb, hg, h1, h2, h3, h4⟩
  · cases e
  · injection e with e1 e2 e3
    injection e1 with e1
    injection e1 with e1
    subst e1; subst e3
    refine ⟨cur, 47, hg, h3, fun j hj => ?_⟩
    obtain ⟨-, hc⟩ := M47_made n
    have := hc j hj
    unfold M47 at this
    rw [← Array.getElem?_toList] at this ⊢
    rw [← h4, List.getElem?_take_of_lt hj] at this
    exact this
theorem put47 {w : World} {b : Nat} {c : Nat → Nat → Value} (h : Grid w b 24 3 c) (i : Nat) (x : Vl) : Grid (sets w b (i * 3) (vA x).toList) b 24 3 (upd c i (vC x)) :=
  h.put i (by omega) (vA x).toList rfl (vC x) (by intro k hk; rcases k with _ | _ | _ | k <;> first | rfl | omega)
set_option maxHeartbeats 4000000 in
theorem sample_any (w : World) : Calls Tryz.prog 22 #[] w fun e w' => e = .returned (sl w.heap.size 24 24) ∧ EL w' w.heap.size 24 smp ∧ Fr S0 w w' := by
  obtain ⟨i0, hi0, hz0, hz1, hzb⟩ := info_parts Tryz.info47
  go_enter Tryz.func22, Tryz.ntmps22
  go_wp2_with (first
    | (at_make; refine wpList_make_full _ rfl _ _ 35 rfl w.heap.size 47 i0 (vV v0) 3 Tryz.underlying35 hi0 hz0 hz1 .i64 .i64 24 24 24 rfl rfl rfl rfl (by rw [hzb]; decide) (by unfold maxLen; decide) (Nat.le_refl _) ?_; intro w1 hown hgr; have hG := made_grid47 hown; have hf := Bx.mk (Fr.of_grown hgr); have c0 := Row.cell hG 0 (by decide); have z0 := Row.frozen hG 0; have c1 := Row.cell hG 1 (by decide); have z1 := Row.frozen hG 1; have c2 := Row.cell hG 2 (by decide); have z2 := Row.frozen hG 2; have c3 := Row.cell hG 3 (by decide); have z3 := Row.frozen hG 3; have c4 := Row.cell hG 4 (by decide); have z4 := Row.frozen hG 4; have c5 := Row.cell hG 5 (by decide); have z5 := Row.frozen hG 5; have c6 := Row.cell hG 6 (by decide); have z6 := Row.frozen hG 6; have c7 := Row.cell hG 7 (by decide); have z7 := Row.frozen hG 7; have c8 := Row.cell hG 8 (by decide); have z8 := Row.frozen hG 8; have c9 := Row.cell hG 9 (by decide); have z9 := Row.frozen hG 9; have c10 := Row.cell hG 10 (by decide); have z10 := Row.frozen hG 10; have c11 := Row.cell hG 11 (by decide); have z11 := Row.frozen hG 11; have c12 := Row.cell hG 12 (by decide); have z12 := Row.frozen hG 12; have c13 := Row.cell hG 13 (by decide); have z13 := Row.frozen hG 13; have c14 := Row.cell hG 14 (by decide); have z14 := Row.frozen hG 14; have c15 := Row.cell hG 15 (by decide); have z15 := Row.frozen hG 15; have c16 := Row.cell hG 16 (by decide); have z16 := Row.frozen hG 16; have c17 := Row.cell hG 17 (by decide); have z17 := Row.frozen hG 17; have hG := Bx.mk hG; clear hown hgr))
  go_ret
  have h0 : Fr S0 w w1 := hf.out.mono (fun k hk => by cases hk)
  refine ⟨rfl, Row.congr (put47 (put47 (put47 (put47 (put47 (put47 hG.out 0 ⟨1, 5, es⟩) 1 ⟨1, -3, es⟩) 2 ⟨2, 0, ⟨#[97, 98]⟩⟩) 3 ⟨3, 1, es⟩) 4 ⟨4, 4, es⟩) 5 ⟨4, 5, es⟩) ?_, (sets_fr (S := S0) (a := w) (b := w.heap.size) (.inr (Nat.le_refl _)) (vA ⟨4, 5, es⟩).toList _ (5 * 3) (sets_fr (S := S0) (a := w) (b := w.heap.size) (.inr (Nat.le_refl _)) (vA ⟨4, 4, es⟩).toList _ (4 * 3) (sets_fr (S := S0) (a := w) (b := w.heap.size) (.inr (Nat.le_refl _)) (vA ⟨3, 1, es⟩).toList _ (3 * 3) (sets_fr (S := S0) (a := w) (b := w.heap.size) (.inr (Nat.le_refl _)) (vA ⟨2, 0, ⟨#[97, 98]⟩⟩).toList _ (2 * 3) (sets_fr (S := S0) (a := w) (b := w.heap.size) (.inr (Nat.le_refl _)) (vA ⟨1, -3, es⟩).toList _ (1 * 3) (sets_fr (S := S0) (a := w) (b := w.heap.size) (.inr (Nat.le_refl _)) (vA ⟨1, 5, es⟩).toList _ (0 * 3) h0))))))⟩
  intro j hj
  simp only [upd]
  have h6 : j / 3 = 0 ∨ j / 3 = 1 ∨ j / 3 = 2 ∨ j / 3 = 3 ∨ j / 3 = 4 ∨ j / 3 = 5 ∨ 6 ≤ j / 3 := by omega
  rcases h6 with e | e | e | e | e | e | e
  · rw [e]; rfl
  · rw [e]; rfl
  · rw [e]; rfl
  · rw [e]; rfl
  · rw [e]; rfl
  · rw [e]; rfl
  · obtain ⟨q, hq⟩ : ∃ q, j / 3 = q + 6 := ⟨j / 3 - 6, by omega⟩
    rw [hq]
    rfl
end Go.Proofs.Qxb6500331aGreat
