import Derived.Test.Qxb6500326aGreatZ7
import Derived.Test.Qxb6500326aGreatX22
import Derived.Test.Qxb6500326aGreatU8
namespace Go.Proofs.Qxb6500326aGreat
set_option linter.unusedVariables false
set_option linter.unusedSimpArgs false
open Go.RowKit Go.PlainAid
set_option maxRecDepth 100000 in
set_option maxHeartbeats 2000000 in
theorem printX (B : FB) (v : Value) (t : Tr) (w : World) (hz : FZ w B) (h : NL w v t.nodes) (hN : NumOK t.nodes) (hv : ∀ k, v.ownBlock = some k → ¬ FmS B k) :
    Calls Tryz.prog 134 #[pt B.f, treeV v t] w fun e w' => e = .returned (.tuple #[.string (bs (prT t).1), I (prT t).2]) ∧ FZ w' B ∧ Fr (FmS B) w w' := by
  have hzB := Bx.mk hz
  have hNw := Bx.mk h
  obtain ⟨a, c, rfl⟩ := h.slice
  clear hz
  obtain ⟨L, root, err, pos⟩ := t
  simp only at *
  by_cases h24 : 24 < L.length
  · have d : decide ((24 : Int) < (L.length : Int)) = true := decide_eq_true (by omega)
    have d' : decide (24 < L.length) = true := decide_eq_true h24
    have hp : Bx (prT ⟨L, root, err, pos⟩ = ([], 1)) := Bx.mk (by unfold prT; rw [if_pos h24])
    generalize L.length = n at *
    clear h hN
    go_enter Tryz.func134, Tryz.ntmps134
    go_wp2
    go_ret2
    rw [hp.out]
    exact ⟨rfl, hzB.out.fr0 ((Fr.refl _ _).alloc _), (Fr.refl _ _).alloc _⟩
  · have d : decide ((24 : Int) < (L.length : Int)) = false := decide_eq_false (by omega)
    have d' : decide (24 < L.length) = false := decide_eq_false h24
    have htk := Bx.mk (treeOK_any (.slice a L.length c) ⟨L, root, err, pos⟩ (w.alloc (.cells #[.slice a L.length c, I root, I err, I pos] 105)) (hNw.out.fr0 ((Fr.refl _ _).alloc _)) hN)
    have hT := Bx.mk (tr_new w (.slice a L.length c) root err pos (r := w.heap.size) rfl)
    cases hk : tokB ⟨L, root, err, pos⟩
    · have hp : Bx (prT ⟨L, root, err, pos⟩ = ([], 8)) := Bx.mk (by unfold prT; rw [if_neg h24, if_neg (by rw [hk]; decide)])
      rw [hk] at htk
      generalize L.length = n at *
      clear h hN hk
      go_enter Tryz.func134, Tryz.ntmps134
      go_wp2_with (first
        | (go_at_call 149; refine htk.out.mono ?_; clear htk; rintro e w1 ⟨rfl, hf1⟩))
      go_ret2
      rw [hp.out]
      exact ⟨rfl, (hzB.out.fr0 ((Fr.refl _ _).alloc _)).fr0 hf1, ((Fr.refl _ _).alloc _).step hf1 (fun x hx => hx.elim)⟩
    · have hp : Bx (prT ⟨L, root, err, pos⟩ = (printOf ⟨L, root, err, pos⟩, 0)) := Bx.mk (by unfold prT; rw [if_neg h24, if_pos hk])
      rw [hk] at htk
      have hOK := (tokB_iff _).1 hk
      have h1 : 1 ≤ L.length := hOK.one
      obtain ⟨g, cap, e, -, -⟩ := h.pos (fun e => by rw [e] at h1; simp at h1)
      injection e with e1 e2 e3
      subst e1; subst e3
      have hsp : Sp L L.length (L.length - 1) 0 false := hOK.sp
      have hgB : ¬ FmS B g := hv g rfl
      have hsh := Bx.mk (fun u (hz : FZ u B) (hu : NL u (.slice (some ⟨g, 0, none⟩) L.length c) L) => fillX B g c L u hz hu hgB (by omega) hsp)
      have hpr : Bx (tx L (L.length - 1) 1 = printOf ⟨L, root, err, pos⟩) := Bx.mk rfl
      rw [hpr.out] at hsh
      generalize printOf ⟨L, root, err, pos⟩ = P at *
      clear h hN hk hOK hsp hpr hv
      generalize L.length = n at *
      go_enter Tryz.func134, Tryz.ntmps134
      go_wp2_with (first
        | (go_at_call 149; refine htk.out.mono ?_; clear htk; rintro e w1 ⟨rfl, hf1⟩; have hT1 := Bx.mk (hf1.row0 hT.out); have c0 := hT1.out.cell 0 (by omega); have c2 := hT1.out.cell 1 (by omega); simp only [trC] at c0 c2)
        | (go_at_call 163; refine (hsh.out _ ((hzB.out.fr0 ((Fr.refl _ _).alloc _)).fr0 hf1) ((hNw.out.fr0 ((Fr.refl _ _).alloc _)).fr0 hf1)).mono ?_; clear hsh; rintro e w2 ⟨rfl, hz2, hf2⟩))
      go_ret2
      rw [hp.out]
      exact ⟨rfl, hz2, (((Fr.refl _ _).alloc _).step hf1 (fun x hx => hx.elim)).trans hf2⟩
end Go.Proofs.Qxb6500326aGreat
