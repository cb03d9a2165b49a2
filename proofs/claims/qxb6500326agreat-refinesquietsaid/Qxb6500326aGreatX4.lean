import Derived.Test.Qxb6500326aGreatX3
namespace Go.Proofs.Qxb6500326aGreat
set_option maxRecDepth 100000
set_option linter.unusedVariables false
set_option linter.unusedSimpArgs false
open Go.RowKit Go.PlainAid
set_option maxRecDepth 100000 in
set_option maxHeartbeats 4000000 in
theorem addY (B : FB) (b : Nat → Int) (n nt k : Nat) (st : RS) (P : Nat → Mk) (Q : Nat → Int) (x : Nd) (w : World) (h : AFx w B b n nt k st P Q) :
    Calls Tryz.prog 222 #[pt B.f, ndV x] w (RanY w B b n nt k (st.add x).1 P Q (I (st.add x).2)) := by
  have hAF := Bx.mk (h.fr0 ((Fr.refl _ w).alloc (.cells (ndA x) 149)))
  obtain ⟨F, hF, hR, rfl, rfl, rfl, rfl⟩ := h
  have c12 := hF.row.cell 12 (by omega)
  have c5 := hF.row.cell 5 (by omega)
  have z5 := hF.row.frozen 5
  have c3 := hF.row.cell 3 (by omega)
  have c4 := hF.row.cell 4 (by omega)
  simp only [fmC] at c12 c5 c3 c4
  obtain ⟨l1, l2, l3, l4, l5, l6, l7⟩ := hF.lts
  unfold RS.add
  by_cases he : st.err = 0
  · have hed : (F.err != 0) = false := by rw [hR.err]; simpa using he
    rw [if_neg (by simpa using he)]
    by_cases hn : 24 ≤ st.nodes.length
    · rw [if_pos hn]
      have hn24 : F.nn = 24 := by have := hR.nn; have := hR.nnl; omega
      have hnd : decide ((24 : Int) ≤ (F.nn : Int)) = true := decide_eq_true (by omega)
      have hnd' : decide (24 ≤ F.nn) = true := decide_eq_true (by omega)
      have hfl := Bx.mk (failY B b n F.nt F.k st _ _ 7 st.pos _ hAF.out)
      rw [← hR.pos] at hfl ⊢
      have hn24B := Bx.mk hn24
      clear hF hR he hn hn24
      go_enter Tryz.func222, Tryz.ntmps222
      go_wp2_with (first
        | (go_at_call 195; refine hfl.out.mono ?_; clear hfl; rintro e w1 ⟨rfl, hA1, hf1⟩))
      go_ret
      exact ⟨rfl, hA1, ((Fr.refl _ _).alloc _).trans hf1⟩
    · rw [if_neg hn]
      have hnl := hR.nnl
      have hnd : decide ((24 : Int) ≤ (F.nn : Int)) = false := decide_eq_false (by omega)
      have hnd' : decide (24 ≤ F.nn) = false := decide_eq_false (by omega)
      have hni : (F.nn : Int) < 24 := by omega
      have h1 := hF.putArena F.nn x
      have h2 := Bx.mk (h1.set (F' := { F with arena := upd F.arena F.nn x, nn := F.nn + 1 }) 5 (I ((F.nn : Int) + 1)) (by intro i hi; rcases i with _ | _ | _ | _ | _ | _ | _ | _ | _ | _ | _ | _ | _ | _ | _ | _ | _ | i <;> first | rfl | omega | (show I ((F.nn : Int) + 1) = I ((F.nn + 1 : Nat) : Int); congr 1)) rfl rfl rfl rfl rfl rfl rfl)
      have hrel : Bx (Rel b n { F with arena := upd F.arena F.nn x, nn := F.nn + 1 } { st with nodes := st.nodes ++ [x] }) := Bx.mk { hR with
        nodes := by show st.nodes ++ [x] = (List.range (F.nn + 1)).map (upd F.arena F.nn x); rw [List.range_succ, List.map_append, range_upd _ _ _ _ (Nat.le_refl _), ← hR.nodes]; simp [upd]
        nn := by show F.nn + 1 ≤ 24; omega }
      have k0 := hF.arena.cell0 F.nn (by omega) (by omega)
      have k1 := hF.arena.cell F.nn 1 (by omega) (by omega)
      have k2 := hF.arena.cell F.nn 2 (by omega) (by omega)
      have k3 := hF.arena.cell F.nn 3 (by omega) (by omega)
      have k4 := hF.arena.cell F.nn 4 (by omega) (by omega)
      have k5 := hF.arena.cell F.nn 5 (by omega) (by omega)
      have k6 := hF.arena.cell F.nn 6 (by omega) (by omega)
      have k7 := hF.arena.cell F.nn 7 (by omega) (by omega)
      have k8 := hF.arena.cell F.nn 8 (by omega) (by omega)
      have k9 := hF.arena.cell F.nn 9 (by omega) (by omega)
      have k10 := hF.arena.cell F.nn 10 (by omega) (by omega)
      have k11 := hF.arena.cell F.nn 11 (by omega) (by omega)
      have k12 := hF.arena.cell F.nn 12 (by omega) (by omega)
      have y0 := hF.arena.frozen (F.nn * 13)
      have yy := fun j => hF.arena.frozen (F.nn * 13 + j)
      have fa := hF.ok.fa
      rw [← hnl]
      have h2B := h2
      clear hF hR he hn h1 hAF h2B hnl
      go_enter Tryz.func222, Tryz.ntmps222
      go_wp2_with fail
      go_region
      go_wp2
      go_ret
      exact ⟨rfl, ⟨_, (h2.out.alloc (.cells (ndA x) 149)).drew, hrel.out, rfl, rfl, rfl, rfl⟩, (((((Fr.refl (FmS B) w).fmA (F.nn * 13) (ndA x).toList).fm 5 (I ((F.nn : Int) + 1))).alloc (.cells (ndA x) 149)).drew)⟩
  · have hed : (F.err != 0) = true := by rw [hR.err]; simpa using he
    rw [if_pos he]
    clear hF hR he
    go_enter Tryz.func222, Tryz.ntmps222
    go_wp2
    go_ret
    exact ⟨rfl, hAF.out, (Fr.refl _ _).alloc _⟩
theorem addX (B : FB) (b : Nat → Int) (n nt k : Nat) (st : RS) (x : Nd) (w : World) (h : AF w B b n nt k st) :
    Calls Tryz.prog 222 #[pt B.f, ndV x] w (Ran w B b n nt k (st.add x).1 (I (st.add x).2)) := by
  obtain ⟨P, Q, h⟩ := h.x
  exact (addY B b n nt k st P Q x w h).mono (fun e w' g => ⟨g.1, g.2.1.af, g.2.2⟩)
end Go.Proofs.Qxb6500326aGreat
