import Derived.Test.Qxb6500329aM3
namespace Go.Proofs.Qxb6500329a
set_option linter.unusedVariables false
set_option linter.unusedSimpArgs false
open Go.RowKit Go.PlainAid
/-- The register takes a node. -/
theorem DS.appended {w W w1 : World} {B : FB} {fb d K S : Nat} {s : ByteArray} {v : Value} {t : Tr} {ct : Nat} (h : DS w B fb d K S (fun k => k < w.heap.size) s v t ct) (hlow : Low B fb d K S w.heap.size) (hW : Fr S0 w W) (x : Nd) (g cap : Nat)
    (hown : w1.ownsRow 0 44 13 (.slice (some ⟨g, 0, none⟩) (t.nodes.length + 1) cap) (t.nodes.length + 1) (nds t.nodes ++ (ndA x).toList)) (hg : W.grownBy w1 v.ownBlock) (hat : v.ownBlock = some g ∨ g = W.heap.size) (hgl : g < w1.heap.size) (hn : NumOK (t.nodes ++ [x])) :
    Row w1 d 8 (dkC s v t K S ct) ∧ DS ((((w1.setCell ⟨d, 1, none⟩ (.slice (some ⟨g, 0, none⟩) (t.nodes.length + 1) cap)).setCell ⟨d, 2, none⟩ (I t.nodes.length)).setCell ⟨d, 3, none⟩ (I 0)).setCell ⟨d, 4, none⟩ (I 0)) B fb d K S (fun k => k < w1.heap.size) s (.slice (some ⟨g, 0, none⟩) (t.nodes.length + 1) cap) ⟨t.nodes ++ [x], t.nodes.length, 0, 0⟩ ct ∧ Fr (fun k => k = d ∨ v.ownBlock = some k) w ((((w1.setCell ⟨d, 1, none⟩ (.slice (some ⟨g, 0, none⟩) (t.nodes.length + 1) cap)).setCell ⟨d, 2, none⟩ (I t.nodes.length)).setCell ⟨d, 3, none⟩ (I 0)).setCell ⟨d, 4, none⟩ (I 0)) ∧ (∀ k, Value.ownBlock (.slice (some ⟨g, 0, none⟩) (t.nodes.length + 1) cap) = some k → v.ownBlock = some k ∨ w.heap.size ≤ k) := by
  have hF := Fr.of_grown hg
  have hsW := hW.size
  have hdv : ∀ k, v.ownBlock = some k → k ≠ d := fun k hk e => (h.own k hk).1 (.inr (.inr (.inl e)))
  have hF2 : Fr (fun k => v.ownBlock = some k) w w1 := (hW.up (S := fun k => v.ownBlock = some k)).trans (hF.mono (fun k hk => hk.symm))
  have hrow : Row w1 d 8 (dkC s v t K S ct) := hF2.row h.row (fun e => hdv d e rfl)
  have hfd : Fr (fun k => k = d) w1 ((((w1.setCell ⟨d, 1, none⟩ (.slice (some ⟨g, 0, none⟩) (t.nodes.length + 1) cap)).setCell ⟨d, 2, none⟩ (I t.nodes.length)).setCell ⟨d, 3, none⟩ (I 0)).setCell ⟨d, 4, none⟩ (I 0)) := ((((Fr.refl (fun k => k = d) w1).setCell (p := ⟨d, 1, none⟩) (.inl rfl) _).setCell (p := ⟨d, 2, none⟩) (.inl rfl) _).setCell (p := ⟨d, 3, none⟩) (.inl rfl) _).setCell (p := ⟨d, 4, none⟩) (.inl rfl) _
  have hf : Fr (fun k => k = d ∨ v.ownBlock = some k) w ((((w1.setCell ⟨d, 1, none⟩ (.slice (some ⟨g, 0, none⟩) (t.nodes.length + 1) cap)).setCell ⟨d, 2, none⟩ (I t.nodes.length)).setCell ⟨d, 3, none⟩ (I 0)).setCell ⟨d, 4, none⟩ (I 0)) := (hF2.mono (fun k hk => Or.inr hk)).trans (hfd.mono (fun k hk => Or.inl hk))
  have hgd : g ≠ d := by
    rcases hat with e | e
    · exact hdv g e
    · have := hlow.d; omega
  have hsz : ((((w1.setCell ⟨d, 1, none⟩ (.slice (some ⟨g, 0, none⟩) (t.nodes.length + 1) cap)).setCell ⟨d, 2, none⟩ (I t.nodes.length)).setCell ⟨d, 3, none⟩ (I 0)).setCell ⟨d, 4, none⟩ (I 0)).heap.size = w1.heap.size := by simp
  have hog : ∀ k, Value.ownBlock (.slice (some ⟨g, 0, none⟩) (t.nodes.length + 1) cap) = some k → v.ownBlock = some k ∨ w.heap.size ≤ k := by
    intro k hk
    have e : g = k := Option.some.inj hk
    rw [← e]
    rcases hat with e | e
    · exact .inl e
    · exact .inr (by omega)
  refine ⟨hrow, ?_, hf, hog⟩
  have hD := h.turned (t' := ⟨t.nodes ++ [x], t.nodes.length, 0, 0⟩) (v' := .slice (some ⟨g, 0, none⟩) (t.nodes.length + 1) cap) hlow hf (fun k hk => hk) (((((hrow.set 1 (.slice (some ⟨g, 0, none⟩) (t.nodes.length + 1) cap)).set 2 (I t.nodes.length)).set 3 (I 0)).set 4 (I 0)).congr (us := dkC s (.slice (some ⟨g, 0, none⟩) (t.nodes.length + 1) cap) ⟨t.nodes ++ [x], t.nodes.length, 0, 0⟩ K S ct) (by intro i hi; rcases i with _ | _ | _ | _ | _ | _ | _ | _ | i <;> first | rfl | omega)) ?_ ?_ hn
  · rw [hsz] at hD; exact hD
  · have hNw : NL w1 (.slice (some ⟨g, 0, none⟩) (t.nodes.length + 1) cap) (t.nodes ++ [x]) := by
      show World.ownsRow _ _ _ _ _ (t.nodes ++ [x]).length (nds (t.nodes ++ [x]))
      have e : nds (t.nodes ++ [x]) = nds t.nodes ++ (ndA x).toList := by rw [nds_append, nds_one]; rfl
      rw [e, show (t.nodes ++ [x]).length = t.nodes.length + 1 from by simp]
      exact hown
    exact hNw.fr hfd (fun k hk e => by have : g = k := Option.some.inj hk; exact hgd (by rw [this]; exact e))
  · intro k hk
    have e : g = k := Option.some.inj hk
    rw [← e, hsz]
    refine ⟨?_, hgl⟩
    rcases hat with e | e
    · exact .inl e
    · exact .inr (by omega)
end Go.Proofs.Qxb6500329a
