import Derived.Test.Qxb6500326aGreatR11
namespace Go.Proofs.Qxb6500326aGreat
set_option maxRecDepth 100000
set_option linter.unusedVariables false
set_option linter.unusedSimpArgs false
open Go.RowKit Go.PlainAid

attribute [local go_sem] bv_or
set_option maxHeartbeats 4000000 in
theorem emitV (V : VB) (fb : Nat) (E : Evr) (n : Nat) (op a : Int) (v : Vl) (set : BitVec 32) (w : World) (h : EM w V fb E) (hs : E.start = n + 1) (hn : n < 48) :
    Calls Tryz.prog 215 #[pt V.e, I op, I a, vV v, U set] w (Lv w V fb (.tuple #[]) { E with start := n, code := upd E.code n ⟨op, a, v, set⟩, cells := E.cells ||| set }) := by
  obtain ⟨-, c1, c2, c3, -, -, -, -, -⟩ := h.ev9
  rw [hs] at c2
  have y2 := h.row.frozen 2
  have y3 := h.row.frozen 3
  obtain ⟨l1, l2, l3, l4, l5⟩ := h.lts
  have g0 := h.code.cell0 n hn (by omega)
  have g1 := h.code.cell n 1 hn (by omega)
  have g2 := h.code.cell n 2 hn (by omega)
  have g3 := h.code.cell n 3 hn (by omega)
  have g4 := h.code.cell n 4 hn (by omega)
  have g5 := h.code.cell n 5 hn (by omega)
  simp only [inC] at g0 g1 g2 g3 g4 g5
  have z0 := h.code.frozen (n * 6)
  have z1 := h.code.frozen (n * 6 + 1)
  have z2 := h.code.frozen (n * 6 + 2)
  have z3 := h.code.frozen (n * 6 + 3)
  have z4 := h.code.frozen (n * 6 + 4)
  have z5 := h.code.frozen (n * 6 + 5)
  have hec := h.ok.ec
  have hw1 : IntKind.i64.wrap (((n + 1 : Nat) : Int) - 1) = (n : Int) := by simp [IntKind.wrap, IntKind.bits, IntKind.signed]; omega
  have e1 := h.set (E' := { E with start := n }) 2 (I (n : Int)) (by intro i hi; rcases i with _ | _ | _ | _ | _ | _ | _ | _ | _ | i <;> first | rfl | omega) rfl rfl rfl rfl
  have e2 := e1.putCode n ⟨op, a, v, set⟩
  have hE := Bx.mk (e2.set (E' := { E with start := n, code := upd E.code n ⟨op, a, v, set⟩, cells := E.cells ||| set }) 3 (U (E.cells ||| set)) (by intro i hi; rcases i with _ | _ | _ | _ | _ | _ | _ | _ | _ | i <;> first | rfl | omega) rfl rfl rfl rfl)
  have hf : Bx (Fr (VS V) w ((sets (w.setCell ⟨V.e, 2, none⟩ (I (n : Int))) V.c (n * 6) (inA ⟨op, a, v, set⟩).toList).setCell ⟨V.e, 3, none⟩ (U (E.cells ||| set)))) := ⟨((fr_set w VS.e _ _).trans (fr_put _ VS.c _ _)).trans (fr_set _ VS.e _ _)⟩
  clear h e1 e2 hs
  go_enter Tryz.func215, Tryz.ntmps215
  go_wp2_with fail
  go_region
  go_wp2
  go_end0
  exact ⟨rfl, (hE.out.alloc _).drew, (hf.out.alloc _).drew⟩
/-- The compiler's state. -/
structure CW (w : World) (V : VB) (fb : Nat) (c : Cm) : Prop where
  ex : ∃ E, EM w V fb E ∧ E.start + c.code.length = 48 ∧ Cod E.code E.start c.code ∧ E.cells = c.cells ∧ (∀ j, j < 24 → E.ow j = c.ow j) ∧ E.top = 0 ∧ E.deep = 0
theorem CW.fr {w w' : World} {V : VB} {fb : Nat} {c : Cm} (h : CW w V fb c) {S : Nat → Prop} (f : Fr S w w') (hS : ∀ k, VS V k → ¬ S k) : CW w' V fb c := by
  obtain ⟨E, h1, h2⟩ := h.ex; exact ⟨E, h1.fr f hS, h2⟩
theorem CW.fr0 {w w' : World} {V : VB} {fb : Nat} {c : Cm} (h : CW w V fb c) (f : Fr S0 w w') : CW w' V fb c := h.fr f (fun _ _ => id)
theorem CW.alloc {w : World} {V : VB} {fb : Nat} {c : Cm} (h : CW w V fb c) (o : Obj) : CW (w.alloc o) V fb c := h.fr0 ((Fr.refl _ _).alloc o)
theorem CW.ne {w : World} {V : VB} {fb : Nat} {c : Cm} (h : CW w V fb c) {k : Nat} (hk : w.heap.size ≤ k) : ¬ VS V k := by
  obtain ⟨E, h1, -⟩ := h.ex; exact h1.ne hk
theorem CW.len {w : World} {V : VB} {fb : Nat} {c : Cm} (h : CW w V fb c) : c.code.length ≤ 48 := by
  obtain ⟨E, h1, h2, -⟩ := h.ex; omega
def LC (w : World) (V : VB) (fb : Nat) (c : Cm) : Ending → World → Prop := fun e w' => e = .returned (.tuple #[]) ∧ CW w' V fb c ∧ Fr (VS V) w w'
theorem Cod.upd {f : Nat → Ins} {n : Nat} {v : Ins} : ∀ {l : List Ins} {k : Nat}, Cod f k l → n < k → Cod (Qxb6500326aGreat.upd f n v) k l
  | [], k, _, _ => trivial
  | i :: l, k, h, hn => ⟨by rw [upd_other _ _ (by omega)]; exact h.1, Cod.upd h.2 (by omega)⟩
theorem emitA (V : VB) (fb : Nat) (c : Cm) (op a : Int) (v : Vl) (set : BitVec 32) (w : World) (h : CW w V fb c) (hl : c.code.length < 48) :
    Calls Tryz.prog 215 #[pt V.e, I op, I a, vV v, U set] w (LC w V fb (c.emit op a v set)) := by
  obtain ⟨E, h1, h2, h3, h4, h5, h6, h7⟩ := h.ex
  obtain ⟨n, hn⟩ : ∃ n, E.start = n + 1 := ⟨E.start - 1, by omega⟩
  refine (emitV V fb E n op a v set w h1 hn (by omega)).mono ?_
  rintro e w' ⟨rfl, hE, hf⟩
  refine ⟨rfl, ⟨_, hE, ?_, ⟨upd_same _ _ _, ?_⟩, ?_, h5, h6, h7⟩, hf⟩
  · show n + (c.code.length + 1) = 48; omega
  · rw [hn] at h3; exact h3.upd (by omega)
  · show E.cells ||| set = c.cells ||| set; rw [h4]
set_option maxHeartbeats 2000000 in
theorem tallies_any (f : Int) (w : World) : Calls Tryz.prog 235 #[I f] w fun e w' => e = .returned (.bool (tallies f)) ∧ w = w' := by
  go_enter Tryz.func235, Tryz.ntmps235
  go_wp2
  all_goals go_ret
  all_goals refine ⟨congrArg Ending.returned (congrArg Value.bool ?_), rfl⟩
  all_goals (unfold tallies; simp [*])
set_option maxHeartbeats 4000000 in
theorem callA (V : VB) (fb : Nat) (c : Cm) (f : Int) (w : World) (h : CW w V fb c) (hl : c.code.length < 48) :
    Calls Tryz.prog 217 #[pt V.e, I f] w (LC w V fb (callC f c)) := by
  have hM := Bx.mk h
  have hE : Bx (∀ op, Calls Tryz.prog 215 #[pt V.e, I op, I f, vV v0, U 0#32] w (LC w V fb (c.emit op f v0 0#32))) := ⟨fun op => emitA V fb c op f v0 0#32 w h hl⟩
  have hC : Bx (callC f c = c.emit (if (f == 5) = true then 5 else if tallies f = true then 10 else 3) f v0 0#32) := ⟨rfl⟩
  clear h
  cases h5 : (f == 5)
  · cases ht : tallies f
    · have hT : Bx (∀ w, Calls Tryz.prog 235 #[I f] w fun e w' => e = .returned (.bool false) ∧ w = w') := ⟨fun w => ht ▸ tallies_any f w⟩
      go_enter Tryz.func217, Tryz.ntmps217
      go_wp2_with (first
        | (go_at_call 235; refine (hT.out _).mono ?_; clear hT; rintro e w' ⟨rfl, rfl⟩)
        | (go_at_call 215; refine (hE.out _).mono ?_; clear hE; rintro e w1 ⟨rfl, hM1, hf⟩))
      go_end0
      exact ⟨rfl, by rw [hC.out, h5, ht]; exact hM1, hf⟩
    · have hT : Bx (∀ w, Calls Tryz.prog 235 #[I f] w fun e w' => e = .returned (.bool true) ∧ w = w') := ⟨fun w => ht ▸ tallies_any f w⟩
      go_enter Tryz.func217, Tryz.ntmps217
      go_wp2_with (first
        | (go_at_call 235; refine (hT.out _).mono ?_; clear hT; rintro e w' ⟨rfl, rfl⟩)
        | (go_at_call 215; refine (hE.out _).mono ?_; clear hE; rintro e w1 ⟨rfl, hM1, hf⟩))
      go_end0
      exact ⟨rfl, by rw [hC.out, h5, ht]; exact hM1, hf⟩
  · go_enter Tryz.func217, Tryz.ntmps217
    go_wp2_with (first
      | (go_at_call 215; refine (hE.out _).mono ?_; clear hE; rintro e w1 ⟨rfl, hM1, hf⟩))
    go_end0
    exact ⟨rfl, by rw [hC.out, h5]; exact hM1, hf⟩
set_option maxHeartbeats 4000000 in
theorem referA (V : VB) (fb : Nat) (c : Cm) (q : Ref) (w : World) (h : CW w V fb c) (hl : c.code.length < 48) :
    Calls Tryz.prog 216 #[pt V.e, refV q] w (LC w V fb (referC q c)) := by
  have hM := Bx.mk (h.alloc (.cells (rfA q) 147))
  have hb := Bx.mk (rf_new w q 147 rfl)
  have hfr : Bx (Fr (VS V) w (w.alloc (.cells (rfA q) 147))) := ⟨(Fr.refl _ _).alloc _⟩
  have hE : Bx (∀ w' op a v set, CW w' V fb c → Calls Tryz.prog 215 #[pt V.e, I op, I a, vV v, U set] w' (LC w' V fb (c.emit op a v set))) := ⟨fun w' op a v set h => emitA V fb c op a v set w' h hl⟩
  clear h
  cases hg : inGrid q
  · have hR : Bx (referC q c = c.emit 1 0 (vErr 2) 0#32) := ⟨by simp [referC, hg]⟩
    have hG : Bx (∀ w, Calls Tryz.prog 131 #[refV q] w fun e w' => e = .returned (.bool false) ∧ Fr S0 w w') := ⟨fun w => hg ▸ inGrid_any q w⟩
    go_enter Tryz.func216, Tryz.ntmps216
    go_wp2_with (first
      | (go_at_call 131; refine (hG.out _).mono ?_; clear hG; rintro e w1 ⟨rfl, hf⟩; have hM := Bx.mk (hM.out.fr0 hf); have hfr := Bx.mk (hfr.out.trans hf.up); clear hf)
      | (go_at_call 215; refine (hE.out _ 1 0 (vErr 2) 0#32 hM.out).mono ?_; clear hE; rintro e w2 ⟨rfl, hM1, hf⟩))
    go_end0
    exact ⟨rfl, by rw [hR.out]; exact hM1, hfr.out.trans hf⟩
  · obtain ⟨d1, d2⟩ := cellOf_bd hg
    obtain ⟨j, hj⟩ : ∃ j : Nat, Bx (cellOf q = (j : Int)) := ⟨(cellOf q).toNat, ⟨by omega⟩⟩
    have hj24 : j < 24 := by have := hj.out; omega
    clear d1 d2
    have hR : Bx (referC q c = c.emit 2 (j : Int) v0 (bit j)) := ⟨by simp [referC, hg, hj.out]⟩
    have hG : Bx (∀ w, Calls Tryz.prog 131 #[refV q] w fun e w' => e = .returned (.bool true) ∧ Fr S0 w w') := ⟨fun w => hg ▸ inGrid_any q w⟩
    have hC : Bx (∀ w, Calls Tryz.prog 228 #[refV q] w fun e w' => e = .returned (I (j : Int)) ∧ Fr S0 w w') := ⟨fun w => hj.out ▸ cellOf_any q w hg⟩
    go_enter Tryz.func216, Tryz.ntmps216
    go_wp2_with (first
      | (go_at_call 131; refine (hG.out _).mono ?_; clear hG; rintro e w1 ⟨rfl, hf⟩; have hb := Bx.mk (hf.row0 hb.out); obtain ⟨b0, b1, b2, b3⟩ := hb.out.rf4; have hM := Bx.mk (hM.out.fr0 hf); have hfr := Bx.mk (hfr.out.trans hf.up); clear hf)
      | (go_at_call 228; refine (hC.out _).mono ?_; clear hC; rintro e w1 ⟨rfl, hf⟩; have hM := Bx.mk (hM.out.fr0 hf); have hfr := Bx.mk (hfr.out.trans hf.up); clear hf)
      | (go_at_call 124; refine (bit_any j _ hj24).mono ?_; rintro e w' ⟨rfl, rfl⟩)
      | (go_at_call 215; refine (hE.out _ 2 (j : Int) v0 (bit j) hM.out).mono ?_; clear hE; rintro e w2 ⟨rfl, hM1, hf⟩))
    go_end0
    exact ⟨rfl, by rw [hR.out]; exact hM1, hfr.out.trans hf⟩
end Go.Proofs.Qxb6500326aGreat
