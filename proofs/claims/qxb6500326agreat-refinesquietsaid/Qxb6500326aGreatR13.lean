import Derived.Test.Qxb6500326aGreatR12
import Derived.Test.Qxb6500326aGreatA4
namespace Go.Proofs.Qxb6500326aGreat
set_option maxRecDepth 100000
set_option linter.unusedVariables false
set_option linter.unusedSimpArgs false
open Go.RowKit Go.PlainAid

set_option maxHeartbeats 8000000 in
theorem link_last (V : VB) (fb : Nat) (c : Cm) (L : List Nd) (g cap i j : Nat) (xk xo xb xn : Int) (r1 r2 : Ref) (y : Nd) (f : Int) (w : World) (h : CW w V fb c) (hN : NG w g L) (hg : ¬ VS V g) (hi : i < L.length) (hj : j < L.length) (hL : L.length ≤ 24) (hx : nd L i = ⟨xk, xo, (j : Int), xb, xn, r1, r2⟩) (hy : nd L j = y) (hlen : c.code.length + 2 ≤ 48) (hf : c.ow i = f) (hb : decide (0 ≤ xb) = false) (hbn : decide (xb < 0) = true) : Calls Tryz.prog 218 #[pt V.e, sl g L.length cap, I (i : Int)] w (LC w V fb (linkC L i c)) := by
  obtain ⟨E, h1, h2, h3, h4, h5, h6, h7⟩ := h.ex
  obtain ⟨-, -, -, -, e4, -, -, -, -⟩ := h1.ev9
  have o1 := h1.ow.cell i (by omega)
  simp only [h5 i (by omega), hf] at o1
  obtain ⟨l1, l2, l3, l4, l5⟩ := h1.lts
  obtain ⟨c0, c1, c2, c3, c4, c5, c6, c7, c8, c9, c10, c11, c12⟩ := hN.cells hi hx
  obtain ⟨d0, d1, d2, d3, d4, d5, d6, d7, d8, d9, d10, d11, d12⟩ := hN.cells hj hy
  have hgl := hN.1
  have hgo : g ≠ V.o := fun e => hg (e ▸ VS.o)
  have heo := h1.ok.eo
  have hne := Bx.mk (h.ne (Nat.le_refl _))
  have hMo := Bx.mk h
  have hfo : Bx (Fr (VS V) w w) := ⟨Fr.refl _ _⟩
  have hMx := Bx.mk ((hMo.out.alloc (.cells (ndA ⟨xk, xo, (j : Int), xb, xn, r1, r2⟩) 149)))
  have hfx := Bx.mk ((hfo.out.alloc (.cells (ndA ⟨xk, xo, (j : Int), xb, xn, r1, r2⟩) 149)))
  have hM := Bx.mk (hMx.out.alloc (.cells (ndA y) 149))
  have hfr := Bx.mk (hfx.out.alloc (.cells (ndA y) 149))
  have hn := Bx.mk ((nd_row w ⟨xk, xo, (j : Int), xb, xn, r1, r2⟩ (H := w.heap.size) (by simp)).alloc (.cells (ndA y) 149))
  have hl46 : c.code.length < 47 := by show c.code.length < 47; omega
  have hLC : Bx (linkC L i c = if tallies f = true then ((c.emit (linkD y) f v0 (linkS y)).emit 6 f v0 0#32) else c) := ⟨by unfold linkC; simp only [hx, hf, hb, hbn, Int.toNat_natCast, hy]; rfl⟩
  clear h h1 h2 h3 h4 h5 h6 h7 hN hx hy hf
  cases ht : tallies f
  · have hT : Bx (∀ w, Calls Tryz.prog 235 #[I f] w fun e w' => e = .returned (.bool false) ∧ w = w') := ⟨fun w => ht ▸ tallies_any f w⟩
    rw [ht] at hLC
    go_enter Tryz.func218, Tryz.ntmps218
    go_wp2_with (first | (go_at_call 235; refine (hT.out _).mono ?_; clear hT; rintro e wt ⟨rfl, rfl⟩))
    go_end0
    exact ⟨rfl, by rw [hLC.out]; exact hMx.out, hfx.out⟩
  have hT : Bx (∀ w, Calls Tryz.prog 235 #[I f] w fun e w' => e = .returned (.bool true) ∧ w = w') := ⟨fun w => ht ▸ tallies_any f w⟩
  rw [ht] at hLC
  cases k4 : (y.kind == 4)
  · skip
    have hE : Bx (∀ w', CW w' V fb c → Calls Tryz.prog 215 #[pt V.e, I 7, I f, vV v0, U 0#32] w' (LC w' V fb (c.emit 7 f v0 0#32))) := ⟨fun w' h => emitA V fb _ _ _ _ _ w' h (by omega)⟩
    have hE2 : Bx (∀ w', CW w' V fb (c.emit 7 f v0 0#32) → Calls Tryz.prog 215 #[pt V.e, I 6, I f, vV v0, U 0#32] w' (LC w' V fb ((c.emit 7 f v0 0#32).emit 6 f v0 0#32))) := ⟨fun w' h => emitA V fb _ _ _ _ _ w' h (by show c.code.length + 1 < 48; omega)⟩
    go_enter Tryz.func218, Tryz.ntmps218
    go_wp2_with (first
      | (go_at_call 235; refine (hT.out _).mono ?_; clear hT; rintro e wt ⟨rfl, rfl⟩)
      | (go_at_call 215; refine (hE.out _ hM.out).mono ?_; clear hE; rintro e w2 ⟨rfl, hM1, hf⟩; have hn := Bx.mk (hf.row hn.out hne.out); obtain ⟨n0, n1, n2, n3, n4, n5, n6, n7, n8, n9, n10, n11, n12⟩ := RowNd hn.out; have hln := hn.out.lt; have hM := Bx.mk hM1; have hfr := Bx.mk (hfr.out.trans hf); clear hf hM1)
      | (go_at_call 215; refine (hE2.out _ hM.out).mono ?_; clear hE2; rintro e w2 ⟨rfl, hM1, hf⟩; have hM := Bx.mk hM1; have hfr := Bx.mk (hfr.out.trans hf); clear hf hM1))
    go_end0
    exact ⟨rfl, by rw [hLC.out]; simp only [linkD, linkS, if_true, if_false, Bool.false_eq_true, k4]; exact hM.out, hfr.out⟩
  cases hB0 : blockOK y.r1 y.r2
  · skip
    have hB : Bx (∀ w, Calls Tryz.prog 147 #[refV y.r1, refV y.r2] w fun e w' => e = .returned (.tuple #[U (blockS y.r1 y.r2), .bool false]) ∧ Fr S0 w w') := ⟨fun w => hB0 ▸ block_any y.r1 y.r2 w⟩
    have hbs : blockS y.r1 y.r2 = 0#32 := by simp [blockS, hB0]
    have hE : Bx (∀ w', CW w' V fb c → Calls Tryz.prog 215 #[pt V.e, I 9, I f, vV v0, U 0#32] w' (LC w' V fb (c.emit 9 f v0 0#32))) := ⟨fun w' h => emitA V fb _ _ _ _ _ w' h (by omega)⟩
    have hE2 : Bx (∀ w', CW w' V fb (c.emit 9 f v0 0#32) → Calls Tryz.prog 215 #[pt V.e, I 6, I f, vV v0, U 0#32] w' (LC w' V fb ((c.emit 9 f v0 0#32).emit 6 f v0 0#32))) := ⟨fun w' h => emitA V fb _ _ _ _ _ w' h (by show c.code.length + 1 < 48; omega)⟩
    go_enter Tryz.func218, Tryz.ntmps218
    go_wp2_with (first
      | (go_at_call 235; refine (hT.out _).mono ?_; clear hT; rintro e wt ⟨rfl, rfl⟩)
      | (go_at_call 147; refine (hB.out _).mono ?_; clear hB; rintro e w1 ⟨rfl, hf⟩; have hn := Bx.mk (hf.row0 hn.out); obtain ⟨n0, n1, n2, n3, n4, n5, n6, n7, n8, n9, n10, n11, n12⟩ := RowNd hn.out; have hln := hn.out.lt; have hM := Bx.mk (hM.out.fr0 hf); have hfr := Bx.mk (hfr.out.trans hf.up); clear hf)
      | (go_at_call 215; refine (hE.out _ hM.out).mono ?_; clear hE; rintro e w2 ⟨rfl, hM1, hf⟩; have hn := Bx.mk (hf.row hn.out hne.out); obtain ⟨n0, n1, n2, n3, n4, n5, n6, n7, n8, n9, n10, n11, n12⟩ := RowNd hn.out; have hln := hn.out.lt; have hM := Bx.mk hM1; have hfr := Bx.mk (hfr.out.trans hf); clear hf hM1)
      | (go_at_call 215; refine (hE2.out _ hM.out).mono ?_; clear hE2; rintro e w2 ⟨rfl, hM1, hf⟩; have hM := Bx.mk hM1; have hfr := Bx.mk (hfr.out.trans hf); clear hf hM1))
    go_end0
    exact ⟨rfl, by rw [hLC.out]; simp only [linkD, linkS, if_true, if_false, Bool.false_eq_true, k4, hB0, hbs]; exact hM.out, hfr.out⟩
  · skip
    have hB : Bx (∀ w, Calls Tryz.prog 147 #[refV y.r1, refV y.r2] w fun e w' => e = .returned (.tuple #[U (blockS y.r1 y.r2), .bool true]) ∧ Fr S0 w w') := ⟨fun w => hB0 ▸ block_any y.r1 y.r2 w⟩
    have hE : Bx (∀ w', CW w' V fb c → Calls Tryz.prog 215 #[pt V.e, I 8, I f, vV v0, U (blockS y.r1 y.r2)] w' (LC w' V fb (c.emit 8 f v0 (blockS y.r1 y.r2)))) := ⟨fun w' h => emitA V fb _ _ _ _ _ w' h (by omega)⟩
    have hE2 : Bx (∀ w', CW w' V fb (c.emit 8 f v0 (blockS y.r1 y.r2)) → Calls Tryz.prog 215 #[pt V.e, I 6, I f, vV v0, U 0#32] w' (LC w' V fb ((c.emit 8 f v0 (blockS y.r1 y.r2)).emit 6 f v0 0#32))) := ⟨fun w' h => emitA V fb _ _ _ _ _ w' h (by show c.code.length + 1 < 48; omega)⟩
    go_enter Tryz.func218, Tryz.ntmps218
    go_wp2_with (first
      | (go_at_call 235; refine (hT.out _).mono ?_; clear hT; rintro e wt ⟨rfl, rfl⟩)
      | (go_at_call 147; refine (hB.out _).mono ?_; clear hB; rintro e w1 ⟨rfl, hf⟩; have hn := Bx.mk (hf.row0 hn.out); obtain ⟨n0, n1, n2, n3, n4, n5, n6, n7, n8, n9, n10, n11, n12⟩ := RowNd hn.out; have hln := hn.out.lt; have hM := Bx.mk (hM.out.fr0 hf); have hfr := Bx.mk (hfr.out.trans hf.up); clear hf)
      | (go_at_call 215; refine (hE.out _ hM.out).mono ?_; clear hE; rintro e w2 ⟨rfl, hM1, hf⟩; have hn := Bx.mk (hf.row hn.out hne.out); obtain ⟨n0, n1, n2, n3, n4, n5, n6, n7, n8, n9, n10, n11, n12⟩ := RowNd hn.out; have hln := hn.out.lt; have hM := Bx.mk hM1; have hfr := Bx.mk (hfr.out.trans hf); clear hf hM1)
      | (go_at_call 215; refine (hE2.out _ hM.out).mono ?_; clear hE2; rintro e w2 ⟨rfl, hM1, hf⟩; have hM := Bx.mk hM1; have hfr := Bx.mk (hfr.out.trans hf); clear hf hM1))
    go_end0
    exact ⟨rfl, by rw [hLC.out]; simp only [linkD, linkS, if_true, if_false, Bool.false_eq_true, k4, hB0]; exact hM.out, hfr.out⟩
end Go.Proofs.Qxb6500326aGreat
