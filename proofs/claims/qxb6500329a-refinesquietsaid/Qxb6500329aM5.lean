import Derived.Test.Qxb6500329aM4
namespace Go.Proofs.Qxb6500329a
set_option linter.unusedVariables false
set_option linter.unusedSimpArgs false
open Go.RowKit Go.PlainAid
set_option maxRecDepth 100000 in
set_option maxHeartbeats 40000000 in
theorem turn_node (B : FB) (fb d K S : Nat) (s : ByteArray) (v : Value) (t : Tr) (ct : Nat) (a b c : Int) (s1 s2 : ByteArray) (w : World) (h : DS w B fb d K S (fun k => k < w.heap.size) s v t ct) (hlow : Low B fb d K S w.heap.size) (ht : t.nodes.length ≤ 25) (hc : c ≤ 9223372036854775807) :
    Calls Try.prog 39 #[pt d, opV 3 a b c s1 s2] w (TurnP w B fb d K S s v ct) := by
  have hrow := h.row
  have d1 := hrow.cell 1 (by omega)
  have hdl : d < w.heap.size := hrow.lt
  simp only [dkC] at d1
  obtain ⟨va, vc, rfl⟩ := h.reg.slice
  by_cases hfull : t.nodes.length = 25
  · have hB := Bx.mk ((h.fr0 ((Fr.refl _ _).alloc (opB 3 a b c s1 s2))).mono (Z' := fun k => k < (w.alloc (opB 3 a b c s1 s2)).heap.size) (fun k hk => by simp; omega))
    have htB := Bx.mk ht
    rw [hfull] at d1
    have hfB : Bx (Fr (fun k => k = d ∨ Value.ownBlock (.slice va t.nodes.length vc) = some k) w (w.alloc (opB 3 a b c s1 s2))) := Bx.mk ((Fr.refl _ _).alloc _)
    clear h hrow hlow hfull ht
    go_enter Try.func39, Try.ntmps39
    go_wp2_with fail
    go_end0
    exact ⟨rfl, ⟨_, _, hB.out, htB.out, fun k hk => .inl hk⟩, hfB.out⟩
  · obtain ⟨i0, hi0, hz0, hz1, hzb⟩ := info_parts Try.info44
    have hnum : NumOK (t.nodes ++ [⟨a, b, -1, -1, c, rz, rz⟩]) := by
      intro y hy
      rw [List.mem_append] at hy
      rcases hy with hy | hy
      · exact h.num y hy
      · simp at hy; subst hy; exact hc
    have hx : Bx (∀ g cap w1, _ → _ → _ → _ → _) := Bx.mk (fun g cap w1 h1 h2 h3 h4 => h.appended hlow (W := ((w.alloc (opB 3 a b c s1 s2)).alloc (.cells (ndA ⟨a, b, -1, -1, c, rz, rz⟩) 44)).drew) ((((Fr.refl _ _).alloc _).alloc _).drew) ⟨a, b, -1, -1, c, rz, rz⟩ g cap (w1 := w1) h1 h2 h3 h4 hnum)
    have hown0 : Bx ((((w.alloc (opB 3 a b c s1 s2)).alloc (.cells (ndA ⟨a, b, -1, -1, c, rz, rz⟩) 44)).drew).ownsRow 0 44 13 (.slice va t.nodes.length vc) t.nodes.length (nds t.nodes)) := Bx.mk (h.reg.fr0 ((((Fr.refl _ _).alloc _).alloc _).drew))
    have hnews : Bx (∀ j u, (ndA ⟨a, b, -1, -1, c, rz, rz⟩).toList[j]? = some u → (((w.alloc (opB 3 a b c s1 s2)).alloc (.cells (ndA ⟨a, b, -1, -1, c, rz, rz⟩) 44)).drew).cell? ((⟨w.heap.size + 1, 0, none⟩ : Addr).add j) = some u) :=
      Bx.mk (World.news_of_block (cs := ndA ⟨a, b, -1, -1, c, rz, rz⟩) (fr := (0, 0)) (t := 44) (by have := heap_alloc_new (w.alloc (opB 3 a b c s1 s2)) (.cells (ndA ⟨a, b, -1, -1, c, rz, rz⟩) 44); rw [show (w.alloc (opB 3 a b c s1 s2)).heap.size = w.heap.size + 1 from by simp] at this; exact this))
    have hones : Bx (∀ u ∈ (ndA ⟨a, b, -1, -1, c, rz, rz⟩).toList, u.oneCell' = true) := Bx.mk (by
      intro u hu
      simp only [List.mem_cons, List.not_mem_nil, or_false] at hu
      rcases hu with h | h | h | h | h | h | h | h | h | h | h | h | h <;> subst h <;> rfl)
    have hl25 : Bx ((t.nodes ++ [(⟨a, b, -1, -1, c, rz, rz⟩ : Nd)]).length ≤ 25) := Bx.mk (by simp; omega)
    have hn24 : t.nodes.length ≤ 24 := by omega
    have hlast : decide (((t.nodes.length : Nat) : Int) - 1 < 24) = true := decide_eq_true (by omega)
    clear h hrow hlow hfull ht hnum
    go_enter Try.func39, Try.ntmps39
    go_wp2_with fail
    go_region_law (refine step_append_lies _ rfl (.tmp 24) (.tmp 32) 31 (by rfl) 0 44 i0 (ndV ⟨0, 0, 0, 0, 0, rz, rz⟩) 13 88 Try.underlying31 hi0 hz0 hz1 hzb rfl (by decide) (.slice va t.nodes.length vc) t.nodes.length (nds t.nodes) (by simp [Act.eval, Act.put]) hown0.out ⟨w.heap.size + 1, 0, none⟩ 1 1 (ndA ⟨a, b, -1, -1, c, rz, rz⟩).toList (by simp [Act.eval, Act.put]) rfl hnews.out hones.out (by decide) (by unfold maxLen; omega) (by omega) (by simp) _ rfl ?_; intro g cap w1 hown hgrow hat hlt1; have hR := hx.out g cap w1 hown hgrow hat hlt1; have q1 := hR.1.cell 1 (by omega); have qz := hR.1.frozen 1; have q2 := hR.1.cell 2 (by omega); have q3 := hR.1.cell 3 (by omega); have q4 := hR.1.cell 4 (by omega); have y2 := hR.1.frozen 2; have y3 := hR.1.frozen 3; have y4 := hR.1.frozen 4; simp only [dkC] at q1 q2 q3 q4; have hR2 := Bx.mk hR.2; clear hown hgrow hat hR)
    all_goals go_wp2
    all_goals go_end0
    all_goals exact ⟨rfl, ⟨_, _, hR2.out.1.mono (fun k hk => by simpa using hk), hl25.out, hR2.out.2.2⟩, hR2.out.2.1⟩
end Go.Proofs.Qxb6500329a
