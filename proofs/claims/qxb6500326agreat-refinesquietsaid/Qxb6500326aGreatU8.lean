import Derived.Test.Qxb6500326aGreatV6
import Derived.Test.Qxb6500326aGreatU7
namespace Go.Proofs.Qxb6500326aGreat
set_option maxRecDepth 100000
set_option linter.unusedVariables false
set_option linter.unusedSimpArgs false
open Go.RowKit Go.PlainAid
/-- What Print answers. -/
def prT (t : Tr) : List Int × Int := if 24 < t.nodes.length then ([], 1) else if tokB t = true then (printOf t, 0) else ([], 8)
set_option maxRecDepth 100000 in
set_option maxHeartbeats 2000000 in
theorem printM_any (fb : Nat) (v : Value) (t : Tr) (w : World) (hm : MF w fb) (h : NL w v t.nodes) (hN : NumOK t.nodes) (hv : ∀ k, v.ownBlock = some k → k ≠ fb) :
    Calls Tryz.prog 112 #[pt fb, treeV v t] w fun e w' => e = .returned (.tuple #[.string (bs (prT t).1), I (prT t).2]) ∧ MF w' fb ∧ Fr (fun k => k = fb) w w' := by
  obtain ⟨p, q, s, hrow⟩ := hm
  have hlt := hrow.lt
  have c1 := hrow.cell 1 (by omega)
  have z1 := hrow.frozen 1
  simp only [mfC] at c1
  have hA := Bx.mk ((hrow.set 1 (I (wrap64 (q + 1)))).congr (us := mfC p (wrap64 (q + 1)) s) (by intro i hi; rcases i with _ | _ | _ | i <;> first | rfl | omega))
  have hF : Bx (Fr (fun k => k = fb) w (w.setCell ⟨fb, 1, none⟩ (I (wrap64 (q + 1))))) := Bx.mk ((Fr.refl (fun k => k = fb) _).setCell (p := ⟨fb, 1, none⟩) (.inl rfl) _)
  have hNw := Bx.mk (h.fr hF.out (fun k hk e => hv k hk e))
  obtain ⟨a, c, rfl⟩ := h.slice
  clear hrow hv
  obtain ⟨L, root, err, pos⟩ := t
  simp only at *
  by_cases h24 : 24 < L.length
  · have d : decide ((24 : Int) < (L.length : Int)) = true := decide_eq_true (by omega)
    have d' : decide (24 < L.length) = true := decide_eq_true h24
    have hp : Bx (prT ⟨L, root, err, pos⟩ = ([], 1)) := Bx.mk (by unfold prT; rw [if_pos h24])
    generalize L.length = n at *
    clear h hN
    go_enter Tryz.func112, Tryz.ntmps112
    go_wp2
    go_ret2
    rw [hp.out]
    exact ⟨rfl, ⟨_, _, _, hA.out.alloc _⟩, hF.out.alloc _⟩
  · have d : decide ((24 : Int) < (L.length : Int)) = false := decide_eq_false (by omega)
    have d' : decide (24 < L.length) = false := decide_eq_false h24
    have htk := Bx.mk (treeOK_any (.slice a L.length c) ⟨L, root, err, pos⟩ ((w.setCell ⟨fb, 1, none⟩ (I (wrap64 (q + 1)))).alloc (.cells #[.slice a L.length c, I root, I err, I pos] 105)) (hNw.out.fr0 ((Fr.refl _ _).alloc _)) hN)
    have hT := Bx.mk (tr_new (w.setCell ⟨fb, 1, none⟩ (I (wrap64 (q + 1)))) (.slice a L.length c) root err pos (r := w.heap.size) (by simp))
    cases hk : tokB ⟨L, root, err, pos⟩
    · have hp : Bx (prT ⟨L, root, err, pos⟩ = ([], 8)) := Bx.mk (by unfold prT; rw [if_neg h24, if_neg (by rw [hk]; decide)])
      rw [hk] at htk
      generalize L.length = n at *
      clear h hN hk
      go_enter Tryz.func112, Tryz.ntmps112
      go_wp2_with (first
        | (go_at_call 149; refine htk.out.mono ?_; clear htk; rintro e w1 ⟨rfl, hf1⟩))
      go_ret2
      rw [hp.out]
      exact ⟨rfl, ⟨_, _, _, hf1.row0 (hA.out.alloc _)⟩, (hF.out.alloc _).step hf1 (fun x hx => hx.elim)⟩
    · have hp : Bx (prT ⟨L, root, err, pos⟩ = (printOf ⟨L, root, err, pos⟩, 0)) := Bx.mk (by unfold prT; rw [if_neg h24, if_pos hk])
      rw [hk] at htk
      have hOK := (tokB_iff _).1 hk
      have h1 : 1 ≤ L.length := hOK.one
      obtain ⟨g, cap, e, -, -⟩ := h.pos (fun e => by rw [e] at h1; simp at h1)
      injection e with e1 e2 e3
      subst e1; subst e3
      have hroot : root = ((L.length - 1 : Nat) : Int) := by have : root = (L.length : Int) - 1 := hOK.root; omega
      have hsp : Sp L L.length (L.length - 1) 0 false := hOK.sp
      have hsh := Bx.mk (fun u (hu : NL u (.slice (some ⟨g, 0, none⟩) L.length c) L) => show_any g L.length c L rfl (by omega) L.length (L.length - 1) 0 false 1 u (by omega) hu hsp)
      rw [← hroot] at hsh
      have hpr : Bx (tx L (L.length - 1) 1 = printOf ⟨L, root, err, pos⟩) := Bx.mk rfl
      rw [hpr.out] at hsh
      generalize printOf ⟨L, root, err, pos⟩ = P at *
      clear h hN hk hOK hsp hpr hroot
      generalize L.length = n at *
      go_enter Tryz.func112, Tryz.ntmps112
      go_wp2_with (first
        | (go_at_call 149; refine htk.out.mono ?_; clear htk; rintro e w1 ⟨rfl, hf1⟩; have hT1 := Bx.mk (hf1.row0 hT.out); have c0 := hT1.out.cell 0 (by omega); have c2 := hT1.out.cell 1 (by omega); simp only [trC] at c0 c2)
        | (go_at_call 150; refine (hsh.out _ ((hNw.out.fr0 ((Fr.refl _ _).alloc _)).fr0 hf1)).mono ?_; clear hsh; rintro e w2 ⟨rfl, hf2⟩))
      go_ret2
      rw [hp.out]
      exact ⟨rfl, ⟨_, _, _, hf2.row0 (hf1.row0 (hA.out.alloc _))⟩, ((hF.out.alloc _).step hf1 (fun x hx => hx.elim)).step hf2 (fun x hx => hx.elim)⟩
end Go.Proofs.Qxb6500326aGreat
