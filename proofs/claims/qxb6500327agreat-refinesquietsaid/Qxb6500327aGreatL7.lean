import Derived.Test.Qxb6500327aGreatL6
namespace Go.Proofs.Qxb6500327aGreat
set_option maxRecDepth 100000
set_option linter.unusedVariables false
set_option linter.unusedSimpArgs false
open Go.RowKit Go.PlainAid

structure OpAt (w : World) (b o : Nat) (kd A Bv C : Int) (S T : ByteArray) : Prop where
  c0 : w.cell? ⟨b, o, none⟩ = some (.int .i64 kd)
  c1 : w.cell? ⟨b, o + 1, none⟩ = some (.int .i64 A)
  c2 : w.cell? ⟨b, o + 2, none⟩ = some (.int .i64 Bv)
  c3 : w.cell? ⟨b, o + 3, none⟩ = some (.int .i64 C)
  c4 : w.cell? ⟨b, o + 4, none⟩ = some (.string S)
  c5 : w.cell? ⟨b, o + 5, none⟩ = some (.string T)
theorem OpAt.fr {Q : Nat → Prop} {w w' : World} {b o : Nat} {kd A Bv C : Int} {S T : ByteArray} (h : OpAt w b o kd A Bv C S T) (f : Fr Q w w') (hb : b < w.heap.size) (hq : ¬ Q b) : OpAt w' b o kd A Bv C S T :=
  ⟨(f.cell (a := ⟨b, o, none⟩) hb hq).trans h.c0, (f.cell (a := ⟨b, o + 1, none⟩) hb hq).trans h.c1, (f.cell (a := ⟨b, o + 2, none⟩) hb hq).trans h.c2, (f.cell (a := ⟨b, o + 3, none⟩) hb hq).trans h.c3, (f.cell (a := ⟨b, o + 4, none⟩) hb hq).trans h.c4, (f.cell (a := ⟨b, o + 5, none⟩) hb hq).trans h.c5⟩
def Script (w : World) (ad : Option Addr) (len : Nat) : Prop := ∀ i, i < len → ∃ b off kd A Bv C S T, ad = some ⟨b, off, none⟩ ∧ b < w.heap.size ∧ OpAt w b (off + i * 6) kd A Bv C S T
section
variable {w0 w : World} {A : AD} {bb msb : Nat} {x : Gr.XS} {T : Nat → ByteArray} {E : Nat → Vl} {D : DS}
theorem WP.cells (h : WP w0 w A bb msb x T E D) : w.cell? ⟨bb, 0, none⟩ = some (pt A.V.e) ∧ w.cell? ⟨bb, 1, none⟩ = some (pt A.gb) ∧ w.cell? ⟨bb, 2, none⟩ = some (pt A.mb2) ∧ bb < w.heap.size ∧ w.cell? ⟨A.d, 1, none⟩ = some (sl A.tb 24 24) ∧ w.cell? ⟨A.d, 2, none⟩ = some (sl A.wb 24 24) ∧ A.d < w.heap.size := by
  obtain ⟨b0, b1, b2⟩ := h.bl.bl3
  obtain ⟨-, t1, t2, -, -, -, -, -, -⟩ := h.ws.dk.dk9
  exact ⟨b0, b1, b2, h.bl.lt, t1, t2, h.ws.dk.lt⟩
theorem OQ.cells {ob : Nat} {kd a b c : Int} {S1 T1 : ByteArray} (h : OQ w A msb ob kd a b c S1 T1) : w.cell? ⟨ob, 0, none⟩ = some (I kd) ∧ w.cell? ⟨ob, 1, none⟩ = some (I a) ∧ w.cell? ⟨ob, 2, none⟩ = some (I b) ∧ w.cell? ⟨ob, 3, none⟩ = some (I c) ∧ w.cell? ⟨ob, 4, none⟩ = some (.string S1) ∧ w.cell? ⟨ob, 5, none⟩ = some (.string T1) ∧ ob < w.heap.size := by
  obtain ⟨o0, o1, o2, o3, o4, o5⟩ := h.row.op6
  exact ⟨o0, o1, o2, o3, o4, o5, h.row.lt⟩
end
theorem Grid.drew {w : World} {b n m : Nat} {c : Nat → Nat → Value} (h : Grid w b n m c) : Grid w.drew b n m c := h
theorem tx0 {A : Array Value} (h : MS = A) (w : World) (o1 o2 o3 : Obj) : Row ((((w.alloc (.cells A 9)).alloc o1).alloc o2).alloc o3).drew w.heap.size 24 (fun _ => .string es) := (((ms_row h w rfl).alloc o1).alloc o2).alloc o3
theorem tx1 {A : Array Value} (h : MS = A) (w : World) (o0 o2 o3 : Obj) : Row ((((w.alloc o0).alloc (.cells A 9)).alloc o2).alloc o3).drew (w.heap.size + 1) 24 (fun _ => .string es) := ((ms_row h (w.alloc o0) (H := w.heap.size + 1) (by simp)).alloc o2).alloc o3
theorem tx2 {A : Array Value} (h : MS = A) (w : World) (o0 o1 o3 : Obj) : Row ((((w.alloc o0).alloc o1).alloc (.cells A 9)).alloc o3).drew (w.heap.size + 1 + 1) 24 (fun _ => .string es) := (ms_row h ((w.alloc o0).alloc o1) (H := w.heap.size + 1 + 1) (by simp)).alloc o3
theorem vx0 {A : Array Value} (h : M47 24 = A) (w : World) (o1 o2 o3 : Obj) : EL ((((w.alloc (.cells A 66)).alloc o1).alloc o2).alloc o3).drew w.heap.size 24 (fun _ => v0) := (((mv_row h w rfl).alloc o1).alloc o2).alloc o3
theorem vx1 {A : Array Value} (h : M47 24 = A) (w : World) (o0 o2 o3 : Obj) : EL ((((w.alloc o0).alloc (.cells A 66)).alloc o2).alloc o3).drew (w.heap.size + 1) 24 (fun _ => v0) := ((mv_row h (w.alloc o0) (H := w.heap.size + 1) (by simp)).alloc o2).alloc o3
theorem vx2 {A : Array Value} (h : M47 24 = A) (w : World) (o0 o1 o3 : Obj) : EL ((((w.alloc o0).alloc o1).alloc (.cells A 66)).alloc o3).drew (w.heap.size + 1 + 1) 24 (fun _ => v0) := (mv_row h ((w.alloc o0).alloc o1) (H := w.heap.size + 1 + 1) (by simp)).alloc o3
theorem D0_reg : D0.reg.size ≤ 41 := by decide
set_option maxHeartbeats 16000000 in
theorem walk_any (q : Bool) (ad : Option Addr) (len cap : Nat) (w : World) (hlen : len ≤ 140737488355328) (hs : Script w ad len) :
    Calls Tryz.prog 7 #[.slice ad len cap, .bool q] w fun e w' => ∃ v, e = .returned (.tuple #[.int .i64 (-1), v]) ∧ Fr S0 w w' := by
  have HS := Bx.mk hs
  have k1 := mk38
  have k2 := mk39
  generalize hA1 : MS = A1 at k1
  generalize hA2 : M47 24 = A2 at k2
  have hA1 := Bx.mk hA1
  have hA2 := Bx.mk hA2
  clear hs
  cases q
  all_goals go_enter Tryz.func7, Tryz.ntmps7
  all_goals go_upto_region 4 with (first
    | (go_at_call 8; refine (ground_any _).mono ?_; rintro e w1 ⟨V, B, gb, mb2, fb2, rfl, hz1, hX1, hm1, hf1, hn1, hg1, hd1⟩; have hz1' := Bx.mk (hz1.fr0 ((Fr.refl S0 _).alloc (.cells #[pt V.e, pt gb, pt mb2] 31))); have hX1' := Bx.mk (hX1.fr0 ((Fr.refl S0 _).alloc (.cells #[pt V.e, pt gb, pt mb2] 31))); have hm1 := Bx.mk hm1; have hf1 := Bx.mk hf1; have hn1 := Bx.mk hn1; have hg1 := Bx.mk hg1; have hd1 := Bx.mk hd1; clear hz1 hX1)
    | (go_at_call 9; refine (kNew_any V B gb _ hz1'.out hX1'.out hg1.out).mono ?_; rintro e w3 ⟨xb, rb, sb, rfl, hK, hf3, g1, g2, g3⟩; have hK := Bx.mk hK; have hf3 := Bx.mk hf3; have g1 : Bx (w1.heap.size + 1 ≤ xb) := ⟨by simpa using g1⟩; have g2 : Bx (w1.heap.size + 1 ≤ rb) := ⟨by simpa using g2⟩; have g3 : Bx (w1.heap.size + 1 ≤ sb) := ⟨by simpa using g3⟩; clear hz1' hX1')
    | (go_at_call 10; refine (cNew_any _).mono ?_; rintro e w4 ⟨cb, mb, fb, mrb, msb, rfl, hC, hf4, hn4⟩; have hC := Bx.mk hC; have hf4 := Bx.mk hf4; have hn4 := Bx.mk hn4))
  all_goals (
    go_cut [9] from 13 (fun p wx => ∃ d tb wb nb : Nat, p = pt d ∧ Bx (Row wx d 9 (dk0 tb wb nb)) ∧ Bx (Row wx tb 24 (fun _ => .string es)) ∧ Bx (EL wx wb 24 (fun _ => v0)) ∧ Bx (EL wx nb 24 (fun _ => v0)) ∧ Bx (Fr S0 w4 wx) ∧ Bx (d ≠ tb ∧ d ≠ wb ∧ d ≠ nb ∧ tb ≠ wb ∧ tb ≠ nb ∧ wb ≠ nb) ∧ Bx (w4.heap.size ≤ d ∧ w4.heap.size ≤ tb ∧ w4.heap.size ≤ wb ∧ w4.heap.size ≤ nb))
    case first =>
      go_region
      all_goals (first | go_wp2_with fail | skip)
      all_goals go_meet
      all_goals refine ⟨_, _, _, _, rfl, ⟨Row.drew (dk_obj _ _ _ _ 42 (by simp))⟩, ⟨?_⟩, ⟨?_⟩, ⟨?_⟩, ⟨(((((Fr.refl S0 w4).alloc _).alloc _).alloc _).alloc _).drew⟩, ⟨⟨by omega, by omega, by omega, by omega, by omega, by omega⟩⟩, ⟨⟨by omega, by omega, by omega, by omega⟩⟩⟩
      all_goals first
        | with_reducible exact tx0 hA1.out _ _ _ _
        | with_reducible exact tx1 hA1.out _ _ _ _
        | with_reducible exact tx2 hA1.out _ _ _ _
        | with_reducible exact vx0 hA2.out _ _ _ _
        | with_reducible exact vx1 hA2.out _ _ _ _
        | with_reducible exact vx2 hA2.out _ _ _ _
    case rest =>
    obtain ⟨d, tb, wb, nb, rfl, hd, ht, hw, hn, hf5, q1, q2⟩ := hcut
    have hP := Bx.mk (wp_start hf1.out hm1.out hn1.out hd1.out hK.out hf3.out g1.out g2.out g3.out hC.out hf4.out hn4.out hd.out ht.out hw.out hn.out hf5.out q1.out q2.out)
    clear hd ht hw hn hf5 q1 q2 hf4 hn4 hC hK hf3 g1 g2 g3 hm1 hf1 hn1 hg1 hd1 k1 k2 hA1 hA2
    obtain ⟨A, hA⟩ : ∃ A : AD, A = ⟨xb, rb, sb, gb, V, B, cb, mb, fb, mrb, mb2, fb2, d, tb, wb, nb⟩ := ⟨_, rfl⟩
    rw [← hA] at hP
    obtain rfl : xb = A.xb := by rw [hA]
    obtain rfl : gb = A.gb := by rw [hA]
    obtain rfl : V = A.V := by rw [hA]
    obtain rfl : cb = A.cb := by rw [hA]
    obtain rfl : mb2 = A.mb2 := by rw [hA]
    obtain rfl : d = A.d := by rw [hA]
    clear hA
    have hSh := Bx.mk shows0
    have hrg := Bx.mk D0_reg
    obtain ⟨b0, b1, b2, hbl, t1, t2, hdl⟩ := hP.out.cells
    go_wp2_with (first
      | (go_at_call 11; refine (behind_any 0 0 0 0 es es _ hP.out.ws hSh.out).mono ?_; rintro e w6 ⟨rfl, ⟨D1, hW6, hr6⟩, hf6⟩; have hP := Bx.mk (hP.out.step hW6 hf6 (.inl rfl)); have hrg : Bx (D1.reg.size ≤ 41) := ⟨by rw [hr6]; exact hrg.out⟩; clear hW6 hr6 hf6 b0 b1 b2 hbl t1 t2 hdl; obtain ⟨b0, b1, b2, hbl, t1, t2, hdl⟩ := hP.out.cells)
      | (go_at_call 12; refine (loud_any _ hP.out.ws hSh.out).mono ?_; rintro e w7 ⟨rfl, hf7⟩; have hP := Bx.mk (hP.out.fr0 hf7); clear hf7 b0 b1 b2 hbl t1 t2 hdl; obtain ⟨b0, b1, b2, hbl, t1, t2, hdl⟩ := hP.out.cells))
    clear b0 b1 b2 hbl t1 t2 hdl
    go_loopw [11] (fun ii wr => ∃ (k m : Nat) (x : Gr.XS) (T : Nat → ByteArray) (E : Nat → Vl) (D : DS), ii = I (k : Int) ∧ k ≤ len ∧ Bx (WP w wr A w1.heap.size m x T E D) ∧ Bx (Sheet T E) ∧ Bx (D.reg.size ≤ 41)) (fun ii _ => len - (intOf ii).toNat)
    case atStart => exact ⟨0, msb, _, _, _, _, rfl, Nat.zero_le _, hP, hSh, hrg⟩
    case round =>
      clear hP hSh hrg
      obtain ⟨k, m, x, T, E, D, rfl, hk, hP, hSh, hrg⟩ := hrel
      have hfw := Bx.mk hP.out.fr
      by_cases hlk : k < len
      · have hlkd : decide ((k : Int) < (len : Int)) = true := by simp; omega
        by_cases hmk' : k < 4398046511104
        · have hmkd : decide ((k : Int) < 4398046511104) = true := by simp; omega
          obtain ⟨b, off, kd, a, Bv, C, S1, T1, rfl, hb, hop⟩ := HS.out k hlk
          obtain ⟨p0, p1, p2, p3, p4, p5⟩ := hop.fr hfw.out hb (fun c => c)
          have hbw : b < wr.heap.size := Nat.lt_of_lt_of_le hb hfw.out.size
          have hO : Bx (OQ (wr.alloc (.cells (opA kd a Bv C S1 T1) 45)) A m wr.heap.size kd a Bv C S1 T1) := ⟨⟨op_new wr kd a Bv C S1 T1 rfl, hP.out.ws.ne (Nat.le_refl _)⟩⟩
          have hP := Bx.mk (hP.out.fr0 ((Fr.refl S0 wr).alloc (.cells (opA kd a Bv C S1 T1) 45)))
          clear hmk' hop
          obtain ⟨b0, b1, b2, hbl, t1, t2, hdl⟩ := hP.out.cells
          obtain ⟨o0, o1, o2, o3, o4, o5, hol⟩ := hO.out.cells
          go_wp2_with (first
            | (go_at_call 13; refine (markL_any A _ hP.out.ws.me).mono ?_; rintro e w8 ⟨rfl, hm8, hf8⟩; have hO := Bx.mk (hO.out.step (hf8.su_l (msb := m)) (.inl rfl)); have hP := Bx.mk (hP.out.step (hP.out.ws.stepL hm8 hf8) (hf8.su_l (msb := m)) (.inl rfl)); clear hm8 hf8 b0 b1 b2 hbl t1 t2 hdl o0 o1 o2 o3 o4 o5 hol p0 p1 p2 p3 p4 p5 hbw; obtain ⟨b0, b1, b2, hbl, t1, t2, hdl⟩ := hP.out.cells; obtain ⟨o0, o1, o2, o3, o4, o5, hol⟩ := hO.out.cells)
            | (go_at_call 14; refine (cMark_any _ hP.out.ws.cm).mono ?_; rintro e w9 ⟨rfl, hc9, hf9⟩; have hf9s := hf9.mono (S' := SM A m) (fun k hk => .inl hk); have hf9u := hf9s.mono (S' := SU A m) (fun k hk => .inr (.inl hk)); have hO := Bx.mk (hO.out.step hf9u (.inl rfl)); have hP := Bx.mk (hP.out.step (hP.out.ws.stepC hc9 hf9s) hf9u (.inl rfl)); clear hc9 hf9 hf9s hf9u b0 b1 b2 hbl t1 t2 hdl o0 o1 o2 o3 o4 o5 hol; obtain ⟨b0, b1, b2, hbl, t1, t2, hdl⟩ := hP.out.cells; obtain ⟨o0, o1, o2, o3, o4, o5, hol⟩ := hO.out.cells)
            | (go_at_call 15; refine (note_any A.wb D.wa _ hP.out.ws.cm hP.out.ws.wb (fun e => hP.out.ws.ap.m2 _ e (.inr (.inr (.inl rfl))))).mono ?_; rintro e w10 ⟨rfl, hE10, hf10⟩; have hfu := (hf10.mono (S' := SD A) (fun k hk => .inr (.inr (.inl hk)))).su_d (msb := m); have hO := Bx.mk (hO.out.step hfu (.inl rfl)); have hP := Bx.mk (hP.out.step (hP.out.ws.wased hf10 hE10) hfu (.inl rfl)); clear hE10 hf10 hfu b0 b1 b2 hbl t1 t2 hdl o0 o1 o2 o3 o4 o5 hol; obtain ⟨b0, b1, b2, hbl, t1, t2, hdl⟩ := hP.out.cells; obtain ⟨o0, o1, o2, o3, o4, o5, hol⟩ := hO.out.cells)
            | (go_at_call 16; refine (noteRaw_any A.tb D.tt _ hP.out.ws.cm hP.out.ws.tb (fun e => hP.out.ws.ap.m2 _ e (.inr (.inl rfl)))).mono ?_; rintro e w11 ⟨rfl, hE11, hf11⟩; have hfu := (hf11.mono (S' := SD A) (fun k hk => .inr (.inl hk))).su_d (msb := m); have hO := Bx.mk (hO.out.step hfu (.inl rfl)); have hP := Bx.mk (hP.out.step (hP.out.ws.texted hf11 hE11) hfu (.inl rfl)); clear hE11 hf11 hfu b0 b1 b2 hbl t1 t2 hdl o0 o1 o2 o3 o4 o5 hol; obtain ⟨b0, b1, b2, hbl, t1, t2, hdl⟩ := hP.out.cells; obtain ⟨o0, o1, o2, o3, o4, o5, hol⟩ := hO.out.cells)
            | (go_at_call 17; refine (play_any kd a Bv C S1 T1 _ hP.out.ws hSh.out rfl rfl hrg.out).mono ?_; rintro e w12 ⟨rfl, ⟨m', x', T', E', D', hW12, hS12, hr12, hm12⟩, hf12⟩; have hO := Bx.mk (hO.out.step hf12 hm12); have hP := Bx.mk (hP.out.step hW12 hf12 hm12); have hSh := Bx.mk hS12; have hrg := Bx.mk hr12; clear hW12 hS12 hr12 hm12 hf12 b0 b1 b2 hbl t1 t2 hdl o0 o1 o2 o3 o4 o5 hol; obtain ⟨b0, b1, b2, hbl, t1, t2, hdl⟩ := hP.out.cells; obtain ⟨o0, o1, o2, o3, o4, o5, hol⟩ := hO.out.cells)
            | (go_at_call 11; refine (behind_any kd a Bv C S1 T1 _ hP.out.ws hSh.out).mono ?_; rintro e w13 ⟨rfl, ⟨D2, hW13, hr13⟩, hf13⟩; have hP := Bx.mk (hP.out.step hW13 hf13 (.inl rfl)); have hrg : Bx (D2.reg.size ≤ 41) := ⟨by rw [hr13]; exact hrg.out⟩; clear hW13 hr13 hf13 b0 b1 b2 hbl t1 t2 hdl o0 o1 o2 o3 o4 o5 hol; obtain ⟨b0, b1, b2, hbl, t1, t2, hdl⟩ := hP.out.cells)
            | (go_at_call 12; refine (loud_any _ hP.out.ws hSh.out).mono ?_; rintro e w14 ⟨rfl, hf14⟩; have hP := Bx.mk (hP.out.fr0 hf14); clear hf14 b0 b1 b2 hbl t1 t2 hdl))
          go_roundw
          case rel => exact ⟨k + 1, m', x', T', E', D2, by go_num, by omega, hP, hSh, hrg⟩
          case measure => simp [intOf]; omega
        · have hmkd : decide ((k : Int) < 4398046511104) = false := by simp; omega
          have hge : decide ((len : Int) < 4398046511104) = false := by simp; omega
          clear hmk'
          go_wp2_with fail
          go_ret2
          exact ⟨_, rfl, hfw.out⟩
      · have hlkd : decide ((k : Int) < (len : Int)) = false := by simp; omega
        by_cases hge : len < 4398046511104
        · have hged : decide ((len : Int) < 4398046511104) = true := by simp; omega
          clear hge
          go_wp2_with fail
          go_ret2
          exact ⟨_, rfl, hfw.out⟩
        · have hged : decide ((len : Int) < 4398046511104) = false := by simp; omega
          clear hge
          go_wp2_with fail
          go_ret2
          exact ⟨_, rfl, hfw.out⟩)
end Go.Proofs.Qxb6500327aGreat
