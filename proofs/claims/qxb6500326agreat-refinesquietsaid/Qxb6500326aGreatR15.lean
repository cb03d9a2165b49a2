import Derived.Test.Qxb6500326aGreatR13
import Derived.Test.Qxb6500326aGreatR14
namespace Go.Proofs.Qxb6500326aGreat
set_option maxRecDepth 100000
set_option linter.unusedVariables false
set_option linter.unusedSimpArgs false
open Go.RowKit Go.PlainAid

theorem desc_zero (L : List Nd) (c : Cm) : desc L 0 0 c = c := rfl
set_option maxHeartbeats 16000000 in
theorem compileA (V : VB) (fb : Nat) (E : Evr) (L : List Nd) (g cap : Nat) (w : World) (h : EM w V fb E) (ht : E.top = 0) (hdp : E.deep = 0) (hN : NG w g L) (hg : ¬ VS V g) (hL : L.length ≤ 24) (h1L : 1 ≤ L.length) (hok : ∀ j, j < L.length → CmpOK L (nd L j)) :
    Calls Tryz.prog 182 #[pt V.e, sl g L.length cap] w (LC w V fb (desc L 0 L.length ⟨E.ow, [], 0#32⟩)) := by
  obtain ⟨-, c1, c2, c3, -, -, -, -, -⟩ := h.ev9
  have y2 := h.row.frozen 2
  have y3 := h.row.frozen 3
  have hl1 := h.row.lt
  have hn0 := Bx.mk (h.ne (Nat.le_refl _))
  have e1 := h.set (E' := { E with start := 48 }) 2 (I 48) (by intro i hi; rcases i with _ | _ | _ | _ | _ | _ | _ | _ | _ | i <;> first | rfl | omega) rfl rfl rfl rfl
  have e2 := e1.set (E' := { E with start := 48, cells := 0#32 }) 3 (U 0#32) (by intro i hi; rcases i with _ | _ | _ | _ | _ | _ | _ | _ | _ | i <;> first | rfl | omega) rfl rfl rfl rfl
  have hM0 : Bx (CW (((w.setCell ⟨V.e, 2, none⟩ (I 48)).setCell ⟨V.e, 3, none⟩ (U 0#32)).alloc (.cells #[I 0, I 0, .string es] 92)) V fb ⟨E.ow, [], 0#32⟩) := ⟨⟨_, e2.alloc _, rfl, trivial, rfl, fun _ _ => rfl, ht, hdp⟩⟩
  have hF0 : Bx (Fr (VS V) w (((w.setCell ⟨V.e, 2, none⟩ (I 48)).setCell ⟨V.e, 3, none⟩ (U 0#32)).alloc (.cells #[I 0, I 0, .string es] 92))) := ⟨((fr_set w VS.e _ _).trans (fr_set _ VS.e _ _)).alloc _⟩
  have hz0 : Bx (Row (((w.setCell ⟨V.e, 2, none⟩ (I 48)).setCell ⟨V.e, 3, none⟩ (U 0#32)).alloc (.cells #[I 0, I 0, .string es] 92)) w.heap.size 3 (vC v0)) := ⟨v_zero _ 92 (by simp)⟩
  have hN := Bx.mk hN
  have hok := Bx.mk hok
  have hgb := Bx.mk hg
  have hu : (0 : Int) = uN 0#32 := rfl
  clear h e1 e2 ht hdp
  generalize E.ow = ow0 at hM0 ⊢
  obtain ⟨c00, hc00⟩ : ∃ c, Bx (c = (⟨ow0, [], 0#32⟩ : Cm)) := ⟨_, ⟨rfl⟩⟩
  have hl0 : Bx (c00.code.length = 0) := ⟨by rw [hc00.out]; rfl⟩
  rw [← hc00.out] at hM0 ⊢
  clear hc00
  go_enter Tryz.func182, Tryz.ntmps182
  go_wp2_with fail
  go_loopw [5] (fun i wr => ∃ (n : Nat) (c : Cm) (iv : Int), i = I iv ∧ Bx (iv = (n : Int) - 1) ∧ n ≤ L.length ∧ Bx (CW wr V fb c) ∧ Bx (c.code.length ≤ 2 * (L.length - n)) ∧ Bx (desc L 0 n c = desc L 0 L.length c00) ∧ Bx (Row wr w.heap.size 3 (vC v0)) ∧ Bx (Fr (VS V) w wr)) (fun i _ => (intOf i + 1).toNat)
  case atStart => exact ⟨L.length, c00, _, rfl, ⟨rfl⟩, by omega, hM0, ⟨by rw [hl0.out]; omega⟩, ⟨rfl⟩, hz0, hF0⟩
  case round =>
    clear hM0 hF0 hz0 c1 c2 c3 y2 y3 hl0
    obtain ⟨n1, c, iv, rfl, hiv, hn1, hM, hlen, hds, hz, hF⟩ := hrel
    rcases Nat.eq_zero_or_pos n1 with h0 | h0
    · subst h0
      obtain rfl : iv = -1 := by have := hiv.out; omega
      go_wp2
      go_end0
      exact ⟨rfl, by have e := hds.out; rw [desc_zero] at e; rw [← e]; exact hM.out, hF.out⟩
    · obtain ⟨n, rfl⟩ : ∃ n, n1 = n + 1 := ⟨n1 - 1, by omega⟩
      obtain rfl : iv = (n : Int) := by have := hiv.out; omega
      clear hiv h0
      have hnl : n < L.length := by omega
      have hds' : Bx (desc L 0 n (cmp1 L n c) = desc L 0 L.length c00) := ⟨by rw [← hds.out]; show _ = desc L 0 n (cmp1 L (0 + n) c); rw [Nat.zero_add]⟩
      clear hds
      obtain ⟨x, hx⟩ : ∃ x, Bx (nd L n = x) := ⟨_, ⟨rfl⟩⟩
      have hcm := hok.out n hnl
      rw [hx.out] at hcm
      have hcm := Bx.mk hcm
      have hN1 := hN.out.fr hF.out hgb.out
      have hgl := hN1.1
      have hlz := hz.out.lt
      obtain ⟨q0, q1, q2, -, -, -⟩ := hz.out.v3
      obtain ⟨xk, xo, xa, xb, xn, r1, r2⟩ := x
      obtain ⟨d0, d1, d2, d3, d4, d5, d6, d7, d8, d9, d10, d11, d12⟩ := hN1.cells hnl hx.out
      have hlen48 : c.code.length + 2 ≤ 48 := by have := hlen.out; omega
      have hEo := Bx.mk hM.out
      have hNb := Bx.mk (hN1.fr (S := S0) ((Fr.refl S0 wr).alloc (.cells (ndA ⟨xk, xo, xa, xb, xn, r1, r2⟩) 149)) (by simp))
      have hzr := Bx.mk hz.out
      have hFr := Bx.mk hF.out
      have hM := Bx.mk (hM.out.alloc (.cells (ndA ⟨xk, xo, xa, xb, xn, r1, r2⟩) 149))
      have hz := Bx.mk (hz.out.alloc (.cells (ndA ⟨xk, xo, xa, xb, xn, r1, r2⟩) 149))
      have hF := Bx.mk (hF.out.alloc (.cells (ndA ⟨xk, xo, xa, xb, xn, r1, r2⟩) 149))
      have hE : Bx (∀ w' op a v, CW w' V fb c → Calls Tryz.prog 215 #[pt V.e, I op, I a, vV v, U 0#32] w' (LC w' V fb (c.emit op a v 0#32))) := ⟨fun w' op a v h => emitA V fb c op a v 0#32 w' h (by omega)⟩
      clear hN1
      by_cases k1 : xk = 1
      · skip
        obtain rfl : xk = 1 := by simpa using k1
        have hc1 : Bx (cmp1 L n c = c.emit 1 0 (vInt xn) 0#32) := ⟨by unfold cmp1; rw [hx.out]; rfl⟩
        go_wp2_with (first
          | (go_at_call 215; refine (hE.out _ 1 0 (vInt xn) hM.out).mono ?_; clear hE; rintro e w1 ⟨rfl, hM1, hf⟩; have hM1 := Bx.mk hM1; have hz1 := Bx.mk (hf.row hz.out hn0.out); have hF1 := Bx.mk (hF.out.trans hf); clear hf))
        go_roundw
        case rel => exact ⟨n, _, _, rfl, ⟨rfl⟩, by omega, hM1, ⟨by rw [← hc1.out]; exact Nat.le_trans (cmp1_len L n c) (by have := hlen.out; omega)⟩, ⟨by rw [← hc1.out]; exact hds'.out⟩, hz1, hF1⟩
        case measure => first | (simp [intOf]; done) | (simp [intOf]; omega)
      by_cases k2 : xk = 2
      · skip
        obtain rfl : xk = 2 := by simpa using k2
        have hc1 : Bx (cmp1 L n c = c.emit 1 0 ⟨3, xn, es⟩ 0#32) := ⟨by unfold cmp1; rw [hx.out]; rfl⟩
        go_wp2_with (first
          | (go_at_call 215; refine (hE.out _ 1 0 ⟨3, xn, es⟩ hM.out).mono ?_; clear hE; rintro e w1 ⟨rfl, hM1, hf⟩; have hM1 := Bx.mk hM1; have hz1 := Bx.mk (hf.row hz.out hn0.out); have hF1 := Bx.mk (hF.out.trans hf); clear hf))
        go_roundw
        case rel => exact ⟨n, _, _, rfl, ⟨rfl⟩, by omega, hM1, ⟨by rw [← hc1.out]; exact Nat.le_trans (cmp1_len L n c) (by have := hlen.out; omega)⟩, ⟨by rw [← hc1.out]; exact hds'.out⟩, hz1, hF1⟩
        case measure => first | (simp [intOf]; done) | (simp [intOf]; omega)
      by_cases k5 : xk = 5
      · skip
        obtain rfl : xk = 5 := by simpa using k5
        have hc1 : Bx (cmp1 L n c = c.emit 1 0 (vErr 2) 0#32) := ⟨by unfold cmp1; rw [hx.out]; rfl⟩
        go_wp2_with (first
          | (go_at_call 215; refine (hE.out _ 1 0 (vErr 2) hM.out).mono ?_; clear hE; rintro e w1 ⟨rfl, hM1, hf⟩; have hM1 := Bx.mk hM1; have hz1 := Bx.mk (hf.row hz.out hn0.out); have hF1 := Bx.mk (hF.out.trans hf); clear hf))
        go_roundw
        case rel => exact ⟨n, _, _, rfl, ⟨rfl⟩, by omega, hM1, ⟨by rw [← hc1.out]; exact Nat.le_trans (cmp1_len L n c) (by have := hlen.out; omega)⟩, ⟨by rw [← hc1.out]; exact hds'.out⟩, hz1, hF1⟩
        case measure => first | (simp [intOf]; done) | (simp [intOf]; omega)
      by_cases k3 : xk = 3
      · skip
        obtain rfl : xk = 3 := k3
        have hc1 : Bx (cmp1 L n c = referC r1 c) := ⟨by unfold cmp1; rw [hx.out]; rfl⟩
        have hR : Bx (∀ w', CW w' V fb c → Calls Tryz.prog 216 #[pt V.e, refV r1] w' (LC w' V fb (referC r1 c))) := ⟨fun w' h => referA V fb c r1 w' h (by omega)⟩
        go_wp2_with (first
          | (go_at_call 216; refine (hR.out _ hM.out).mono ?_; clear hR; rintro e w1 ⟨rfl, hM1, hf⟩; have hM1 := Bx.mk hM1; have hz1 := Bx.mk (hf.row hz.out hn0.out); have hF1 := Bx.mk (hF.out.trans hf); clear hf))
        go_roundw
        case rel => exact ⟨n, _, _, rfl, ⟨rfl⟩, by omega, hM1, ⟨by rw [← hc1.out]; exact Nat.le_trans (cmp1_len L n c) (by have := hlen.out; omega)⟩, ⟨by rw [← hc1.out]; exact hds'.out⟩, hz1, hF1⟩
        case measure => first | (simp [intOf]; done) | (simp [intOf]; omega)
      by_cases k6 : xk = 6
      · skip
        obtain rfl : xk = 6 := by simpa using k6
        have hc1 : Bx (cmp1 L n c = c.emit 3 0 v0 0#32) := ⟨by unfold cmp1; rw [hx.out]; rfl⟩
        go_wp2_with (first
          | (go_at_call 215; refine (hE.out _ 3 0 v0 hM.out).mono ?_; clear hE; rintro e w1 ⟨rfl, hM1, hf⟩; have hM1 := Bx.mk hM1; have hz1 := Bx.mk (hf.row hz.out hn0.out); have hF1 := Bx.mk (hF.out.trans hf); clear hf))
        go_roundw
        case rel => exact ⟨n, _, _, rfl, ⟨rfl⟩, by omega, hM1, ⟨by rw [← hc1.out]; exact Nat.le_trans (cmp1_len L n c) (by have := hlen.out; omega)⟩, ⟨by rw [← hc1.out]; exact hds'.out⟩, hz1, hF1⟩
        case measure => first | (simp [intOf]; done) | (simp [intOf]; omega)
      by_cases k7 : xk = 7
      · skip
        obtain rfl : xk = 7 := by simpa using k7
        have hc1 : Bx (cmp1 L n c = c.emit 4 xo v0 0#32) := ⟨by unfold cmp1; rw [hx.out]; rfl⟩
        go_wp2_with (first
          | (go_at_call 215; refine (hE.out _ 4 xo v0 hM.out).mono ?_; clear hE; rintro e w1 ⟨rfl, hM1, hf⟩; have hM1 := Bx.mk hM1; have hz1 := Bx.mk (hf.row hz.out hn0.out); have hF1 := Bx.mk (hF.out.trans hf); clear hf))
        go_roundw
        case rel => exact ⟨n, _, _, rfl, ⟨rfl⟩, by omega, hM1, ⟨by rw [← hc1.out]; exact Nat.le_trans (cmp1_len L n c) (by have := hlen.out; omega)⟩, ⟨by rw [← hc1.out]; exact hds'.out⟩, hz1, hF1⟩
        case measure => first | (simp [intOf]; done) | (simp [intOf]; omega)
      by_cases k8 : xk = 8
      · skip
        obtain rfl : xk = 8 := k8
        obtain ⟨u1, u2⟩ := hcm.out.a (.inl rfl)
        obtain ⟨q, rfl⟩ : ∃ q : Nat, xa = (q : Int) := ⟨xa.toNat, by have u1 : 0 ≤ xa := u1; omega⟩
        have hq : q < 24 := by have u2 : (q : Int) < L.length := u2; omega
        have hc1 : Bx (cmp1 L n c = callC xo (c.own q xo)) := ⟨by unfold cmp1; rw [hx.out]; rfl⟩
        clear u1 u2
        obtain ⟨E', h1, h2, h3, h4, h5, h6, h7⟩ := hEo.out.ex
        obtain ⟨-, -, -, -, e4, -, -, -, -⟩ := h1.ev9
        have oq := h1.ow.cell q hq
        have zq := h1.ow.frozen q
        obtain ⟨l1, l2, l3, l4, l5⟩ := h1.lts
        have heo := h1.ok.eo
        have hMq : CW (wr.setCell ⟨V.o, q, none⟩ (I xo)) V fb (c.own q xo) := ⟨_, h1.putOw q xo, h2, h3, h4, fun j hj => by show upd E'.ow q xo j = if j = q then xo else c.ow j; unfold upd; split; rfl; exact h5 j hj, h6, h7⟩
        have hM2 : Bx (CW ((wr.setCell ⟨V.o, q, none⟩ (I xo)).alloc (.cells (ndA ⟨8, xo, (q : Int), xb, xn, r1, r2⟩) 149)).drew V fb (c.own q xo)) := ⟨(hMq.alloc _).fr0 ((Fr.refl _ _).drew)⟩
        have hF2 : Bx (Fr (VS V) w ((wr.setCell ⟨V.o, q, none⟩ (I xo)).alloc (.cells (ndA ⟨8, xo, (q : Int), xb, xn, r1, r2⟩) 149)).drew) := ⟨((hFr.out.trans (fr_set _ VS.o _ _)).alloc _).drew⟩
        have hz2 : Bx (Row ((wr.setCell ⟨V.o, q, none⟩ (I xo)).alloc (.cells (ndA ⟨8, xo, (q : Int), xb, xn, r1, r2⟩) 149)).drew w.heap.size 3 (vC v0)) := ⟨(((fr_set wr (V := V) VS.o q (I xo)).row hzr.out hn0.out).alloc _).drew⟩
        have hC := Bx.mk (callA V fb (c.own q xo) xo _ hM2.out (by show c.code.length < 48; omega))
        clear h1 h2 h3 h4 h5 h6 h7 hM hF hz hMq
        go_wp2_with fail
        go_region
        go_wp2_with (first
          | (go_at_call 217; refine hC.out.mono ?_; clear hC; rintro e w1 ⟨rfl, hM1, hf⟩; have hM1 := Bx.mk hM1; have hz1 := Bx.mk (hf.row hz2.out hn0.out); have hF1 := Bx.mk (hF2.out.trans hf); clear hf))
        go_roundw
        case rel => exact ⟨n, _, _, rfl, ⟨rfl⟩, by omega, hM1, ⟨by rw [← hc1.out]; exact Nat.le_trans (cmp1_len L n c) (by have := hlen.out; omega)⟩, ⟨by rw [← hc1.out]; exact hds'.out⟩, hz1, hF1⟩
        case measure => first | (simp [intOf]; done) | (simp [intOf]; omega)
      by_cases k9 : xk = 9
      · skip
        obtain rfl : xk = 9 := k9
        obtain ⟨u1, u2⟩ := hcm.out.a (.inr rfl)
        have u3 := hcm.out.b rfl
        obtain ⟨j, rfl⟩ : ∃ j : Nat, xa = (j : Int) := ⟨xa.toNat, by have u1 : 0 ≤ xa := u1; omega⟩
        have hj : j < L.length := by have u2 : (j : Int) < L.length := u2; omega
        have hc1 : Bx (cmp1 L n c = linkC L n c) := ⟨by unfold cmp1; rw [hx.out]; rfl⟩
        have hLk : Bx (Calls Tryz.prog 218 #[pt V.e, sl g L.length cap, I (n : Int)] (wr.alloc (.cells (ndA ⟨9, xo, (j : Int), xb, xn, r1, r2⟩) 149)) (LC (wr.alloc (.cells (ndA ⟨9, xo, (j : Int), xb, xn, r1, r2⟩) 149)) V fb (linkC L n c))) := ⟨by
          by_cases hb : 0 ≤ xb
          · obtain ⟨q, rfl⟩ : ∃ q : Nat, xb = (q : Int) := ⟨xb.toNat, by omega⟩
            exact link_more V fb c L g cap n j q 9 xo xn r1 r2 (nd L j) (c.ow n) _ hM.out hNb.out hgb.out hnl hj hL hx.out rfl hlen48 rfl (by have u3 : (q : Int) < L.length := u3; omega)
          · exact link_last V fb c L g cap n j 9 xo xb xn r1 r2 (nd L j) (c.ow n) _ hM.out hNb.out hgb.out hnl hj hL hx.out rfl hlen48 rfl (by simpa using hb) (by simp; omega)⟩
        clear u1 u2 u3
        go_wp2_with (first
          | (go_at_call 218; refine hLk.out.mono ?_; clear hLk; rintro e w1 ⟨rfl, hM1, hf⟩; have hM1 := Bx.mk hM1; have hz1 := Bx.mk (hf.row hz.out hn0.out); have hF1 := Bx.mk (hF.out.trans hf); clear hf))
        go_roundw
        case rel => exact ⟨n, _, _, rfl, ⟨rfl⟩, by omega, hM1, ⟨by rw [← hc1.out]; exact Nat.le_trans (cmp1_len L n c) (by have := hlen.out; omega)⟩, ⟨by rw [← hc1.out]; exact hds'.out⟩, hz1, hF1⟩
        case measure => first | (simp [intOf]; done) | (simp [intOf]; omega)
      · have hc1 : Bx (cmp1 L n c = c) := ⟨by unfold cmp1; rw [hx.out]; simp only []; rw [if_neg (by simpa using k1), if_neg (by simpa using k2), if_neg (by simpa using k5), if_neg (by simpa using k3), if_neg (by simpa using k6), if_neg (by simpa using k7), if_neg (by simpa using k8), if_neg (by simpa using k9)]⟩
        have b1 : (xk == 1) = false := by simpa using k1
        have b2 : (xk == 2) = false := by simpa using k2
        have b5 : (xk == 5) = false := by simpa using k5
        have b3 : (xk == 3) = false := by simpa using k3
        have b6 : (xk == 6) = false := by simpa using k6
        have b7 : (xk == 7) = false := by simpa using k7
        have b8 : (xk == 8) = false := by simpa using k8
        have b9 : (xk == 9) = false := by simpa using k9
        go_wp2
        go_roundw
        case rel => exact ⟨n, c, _, rfl, ⟨rfl⟩, by omega, hM, ⟨by have := hlen.out; omega⟩, ⟨by have := hds'.out; rw [hc1.out] at this; exact this⟩, hz, hF⟩
        case measure => first | (simp [intOf]; done) | (simp [intOf]; omega)
end Go.Proofs.Qxb6500326aGreat
