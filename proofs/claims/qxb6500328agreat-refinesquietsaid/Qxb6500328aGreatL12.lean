import Derived.Test.Qxb6500328aGreatL10
import Derived.Test.Qxb6500328aGreatL11
namespace Go.Proofs.Qxb6500328aGreat
set_option maxRecDepth 100000
set_option linter.unusedVariables false
set_option linter.unusedSimpArgs false
open Go.RowKit Go.PlainAid

structure OpAt (w : World) (b o : Nat) (kd A Bv C : Int) (S T : ByteArray) : Prop where
  c0 : w.cell? ⟨b, o, none⟩ = some (.int .i64 kd)
  c1 : w.cell? ⟨b, o + 1, none⟩ = some (.int .i64 A)
  c2 : w.cell? ⟨b, o + 2, none⟩ = some (.int .i64 Bv)
  c3 : w.cell? ⟨b, o + 3, none⟩ = some (.int .i64 C)
  c4 : w.cell? ⟨b, o + 4, none⟩ = some (.string S)
  c5 : w.cell? ⟨b, o + 5, none⟩ = some (.string T)
theorem OpAt.fr {Q : Nat → Prop} {w w' : World} {b o : Nat} {kd A Bv C : Int} {S T : ByteArray} (h : OpAt w b o kd A Bv C S T) (f : Fr Q w w') (hb : b < w.heap.size) (hq : ¬ Q b) : OpAt w' b o kd A Bv C S T :=
  ⟨(f.cell (a := ⟨b, o, none⟩) hb hq).trans h.c0, (f.cell (a := ⟨b, o + 1, none⟩) hb hq).trans h.c1, (f.cell (a := ⟨b, o + 2, none⟩) hb hq).trans h.c2, (f.cell (a := ⟨b, o + 3, none⟩) hb hq).trans h.c3, (f.cell (a := ⟨b, o + 4, none⟩) hb hq).trans h.c4, (f.cell (a := ⟨b, o + 5, none⟩) hb hq).trans h.c5⟩
def Script (w : World) (ad : Option Addr) (len : Nat) : Prop := ∀ i, i < len → ∃ b off kd A Bv C S T, ad = some ⟨b, off, none⟩ ∧ b < w.heap.size ∧ OpAt w b (off + i * 6) kd A Bv C S T
/-- The op that is played lies in block ob. -/
structure OQ (w : World) (D : DA) (sb ob : Nat) (kd a b c : Int) (S1 T1 : ByteArray) : Prop where
  row : Row w ob 6 (opC kd a b c S1 T1)
  hb : ¬ SU D sb ob
theorem OQ.step {w w' : World} {D : DA} {sb m ob : Nat} {kd a b c : Int} {S1 T1 : ByteArray} (h : OQ w D sb ob kd a b c S1 T1) (f : Fr (SU D sb) w w') (hm : m = sb ∨ w.heap.size ≤ m) : OQ w' D m ob kd a b c S1 T1 := by
  have hl := h.row.lt
  refine ⟨f.row h.row h.hb, fun e => ?_⟩
  rcases hm with rfl | hm
  · exact h.hb e
  · rcases SU.new (sb := sb) e with e | e
    · exact h.hb e
    · omega
theorem tx0 {A : Array Value} (h : MS = A) (w : World) (o1 o2 : Obj) : Row (((w.alloc (.cells A 9)).alloc o1).alloc o2).drew w.heap.size 24 (fun _ => .string es) := ((ms_row h w rfl).alloc o1).alloc o2
theorem tx1 {A : Array Value} (h : MS = A) (w : World) (o0 o2 : Obj) : Row (((w.alloc o0).alloc (.cells A 9)).alloc o2).drew (w.heap.size + 1) 24 (fun _ => .string es) := (ms_row h (w.alloc o0) (H := w.heap.size + 1) (by simp)).alloc o2
theorem vx0 {A : Array Value} (h : M47 24 = A) (w : World) (o1 o2 : Obj) : EL (((w.alloc (.cells A 71)).alloc o1).alloc o2).drew w.heap.size 24 (fun _ => v0) := ((mv_row h w rfl).alloc o1).alloc o2
theorem vx1 {A : Array Value} (h : M47 24 = A) (w : World) (o0 o2 : Obj) : EL (((w.alloc o0).alloc (.cells A 71)).alloc o2).drew (w.heap.size + 1) 24 (fun _ => v0) := (mv_row h (w.alloc o0) (H := w.heap.size + 1) (by simp)).alloc o2
set_option maxHeartbeats 16000000 in
theorem walk_any (q : Bool) (ad : Option Addr) (len cap : Nat) (w : World) (hlen : len ≤ 140737488355328) (hs : Script w ad len) :
    Calls Tryz.prog 7 #[.slice ad len cap, .bool q] w fun e w' => ∃ v, e = .returned (.tuple #[.int .i64 (-1), v]) ∧ Fr S0 w w' := by
  have HS := Bx.mk hs
  have k1 := mk38
  have k2 := mk39
  generalize hA1 : MS = A1 at k1
  generalize hA2 : M47 24 = A2 at k2
  have hA1 := Bx.mk hA1
  have hA2 := Bx.mk hA2
  clear hs
  cases q
  all_goals go_enter Tryz.func7, Tryz.ntmps7
  all_goals go_upto_region 3 with (first
    | (go_at_call 8; refine (ground_any _).mono ?_; rintro e w1 ⟨B2, xb, V, B, gb, rb, ksb, rfl, hK, hz, hf1, hn1, hdj⟩; have fa : Fr S0 w1 (w1.alloc (.cells #[pt B2.f, pt xb] 30)) := (Fr.refl S0 _).alloc _; have hK := Bx.mk (hK.fr0 fa); have hz := Bx.mk (FZ.fr0 hz fa); have hbr := Bx.mk (Row.new w1 #[pt B2.f, pt xb] 30 2 (fun i => if i = 0 then pt B2.f else pt xb) rfl (by intro i hi; rcases i with _ | _ | i <;> first | rfl | omega)); have hf1 := Bx.mk (hf1.trans fa); have hn1 : Bx (∀ k, KS xb V B gb rb ksb k ∨ FmS B2 k → w.heap.size ≤ k ∧ k < (w1.alloc (.cells #[pt B2.f, pt xb] 30)).heap.size) := ⟨fun k hk => by have := hn1 k hk; simp; omega⟩; have hdj := Bx.mk hdj; clear fa)
    | (go_at_call 9; refine (yNew_any _).mono ?_; rintro e w2 ⟨M, sb, rfl, hY, hf2, hn2⟩; have hY := Bx.mk hY; have hbr := Bx.mk (hf2.row0 hbr.out); have hf2 := Bx.mk hf2; have hn2 := Bx.mk hn2; have x0 := hbr.out.cell 0 (by omega); have x1 := hbr.out.cell 1 (by omega); have hlb := hbr.out.lt; simp only [if_true, Nat.one_ne_zero, if_false] at x0 x1))
  all_goals (
    go_cut [8] from 21 (fun p wx => ∃ d wsb shb : Nat, p = pt d ∧ Bx (Row wx d 7 (de0 B2.f xb M.me wsb shb)) ∧ Bx (Row wx wsb 24 (fun _ => .string es)) ∧ Bx (EL wx shb 24 (fun _ => v0)) ∧ Bx (Fr S0 w2 wx) ∧ Bx (d ≠ wsb ∧ d ≠ shb ∧ wsb ≠ shb) ∧ Bx (w2.heap.size ≤ d ∧ w2.heap.size ≤ wsb ∧ w2.heap.size ≤ shb))
    case first =>
      go_region
      all_goals (first | go_wp2_with fail | skip)
      all_goals go_meet
      all_goals refine ⟨_, _, _, rfl, ⟨Row.drew (de_obj _ _ _ _ _ _ 39 (by simp))⟩, ⟨?_⟩, ⟨?_⟩, ⟨((((Fr.refl S0 w2).alloc _).alloc _).alloc _).drew⟩, ⟨⟨by omega, by omega, by omega⟩⟩, ⟨⟨by omega, by omega, by omega⟩⟩⟩
      all_goals first
        | with_reducible exact tx0 hA1.out _ _ _
        | with_reducible exact tx1 hA1.out _ _ _
        | with_reducible exact vx0 hA2.out _ _ _
        | with_reducible exact vx1 hA2.out _ _ _
    case rest =>
    obtain ⟨d, wsb, shb, rfl, hd, ht, hsh, hf3, q1, q2⟩ := hcut
    clear k1 k2 hA1 hA2 x0 x1 hlb hbr
    obtain ⟨y0, y1, y2, yz, hyl⟩ := hd.out.de0c
    generalize (w1.alloc (.cells #[pt B2.f, pt xb] 30)) = w1b at *
    go_upto_region 5 with (first
      | (go_at_call 10; refine (markL_any (D := ⟨⟨0, 0, B2, xb, V, B, gb, rb, ksb⟩, M, 0, 0, 0⟩) _).mono ?_; rintro e w3 ⟨rfl, hf3m⟩; have hd := Bx.mk (hf3m.row0 hd.out); have ht := Bx.mk (hf3m.row0 ht.out); have hsh := Bx.mk (hsh.out.of hf3m (fun e => e)); have hf3 := Bx.mk (hf3.out.trans hf3m); clear hf3m y0 y1 y2 yz hyl; obtain ⟨y0, y1, y2, yz, hyl⟩ := hd.out.de0c))
    have hXN := Bx.mk (xNew_any2 B2.f xb w3.drew)
    have hszd : w3.drew.heap.size = w3.heap.size := rfl
    rw [hszd] at hXN
    clear hszd
    refine region_cut (fun w' => ∃ w4, Bx (Fr S0 w3 w4) ∧ Bx (Row w4 (w3.heap.size + 1) 3 (exC0 B2.f xb w3.heap.size)) ∧ Bx (Row w4 w3.heap.size 24 (fun _ => .string es)) ∧ w' = w4.setCell ⟨d, 2, none⟩ (pt (w3.heap.size + 1))) ?_
    apply Exists.intro
    apply And.intro
    · go_region_with (first | (go_at_call 11; refine hXN.out.mono ?_; rintro e w4 ⟨rfl, hx4, hb4, hf4⟩; have hf4 : Fr S0 w3 w4 := ⟨hf4.os, hf4.tape, hf4.output, hf4.size, hf4.block⟩; have hd4 := Bx.mk (hf4.row0 hd.out); obtain ⟨y0, y1, y2, yz, hyl⟩ := hd4.out.de0c; have hf4 := Bx.mk hf4; have hx4 := Bx.mk hx4; have hb4 := Bx.mk hb4))
      all_goals exact ⟨rfl, _, hf4, hx4, hb4, rfl⟩
    rintro w5 ⟨w4, hf4, hx4, hb4, e5⟩
    have hP := Bx.mk (wp_start hf1.out hK.out hz.out hn1.out hdj.out hf2.out hY.out hn2.out hf3.out hd.out ht.out hsh.out q1.out q2.out hf4.out hx4.out hb4.out (Nat.le_refl _) e5)
    clear hf1 hK hz hn1 hdj hf2 hY hn2 hf3 hd ht hsh q1 q2 hf4 hx4 hb4 e5 hXN y0 y1 y2 yz hyl
    obtain ⟨D, hD⟩ : ∃ D : DA, D = ⟨⟨w3.heap.size + 1, w3.heap.size, B2, xb, V, B, gb, rb, ksb⟩, M, d, wsb, shb⟩ := ⟨_, rfl⟩
    rw [← hD] at hP
    obtain rfl : d = D.d := by rw [hD]
    clear hD
    have hSh := Bx.mk shows0
    obtain ⟨c0, c1, c2, c3, c4, c5, c6, hl⟩ := hP.out.ws.de7
    go_wp2_with (first
      | (go_at_call 12; refine (worked_any 0 0 0 0 es es 0 _ hP.out.ws).mono ?_; rintro e w6 ⟨rfl, hf6⟩; have hP := Bx.mk (hP.out.fr0 hf6); clear c0 c1 c2 c3 c4 c5 c6 hl; obtain ⟨c0, c1, c2, c3, c4, c5, c6, hl⟩ := hP.out.ws.de7)
      | (go_at_call 13; refine (seen_any _ hP.out.ws).mono ?_; rintro e w7 ⟨rfl, hf7⟩; have hP := Bx.mk (hP.out.fr0 hf7); clear c0 c1 c2 c3 c4 c5 c6 hl; obtain ⟨c0, c1, c2, c3, c4, c5, c6, hl⟩ := hP.out.ws.de7))
    clear c0 c1 c2 c3 c4 c5 c6 hl
    go_loopw [9] (fun ii wr => ∃ (k m : Nat) (x : Gr.XS) (T : Nat → ByteArray) (E : Nat → Vl) (reg : ByteArray) (Wt : Nat → ByteArray) (We : Nat → Vl), ii = I (k : Int) ∧ k ≤ len ∧ Bx (WP w wr D m x T E reg Wt We) ∧ Bx (Sheet T E) ∧ Bx (reg.size ≤ 41)) (fun ii _ => len - (intOf ii).toNat)
    case atStart => exact ⟨0, sb, _, _, _, _, _, _, rfl, Nat.zero_le _, hP, hSh, ⟨by decide⟩⟩
    case round =>
      clear hP hSh
      obtain ⟨k, m, x, T, E, reg, Wt, We, rfl, hk, hP, hSh, hrg⟩ := hrel
      have hfw := Bx.mk hP.out.fr
      by_cases hlk : k < len
      · have hlkd : decide ((k : Int) < (len : Int)) = true := by simp; omega
        by_cases hmk' : k < 4398046511104
        · have hmkd : decide ((k : Int) < 4398046511104) = true := by simp; omega
          obtain ⟨b, off, kd, a, Bv, C, S1, T1, rfl, hb, hop⟩ := HS.out k hlk
          obtain ⟨p0, p1, p2, p3, p4, p5⟩ := hop.fr hfw.out hb (fun c => c)
          have hbw : b < wr.heap.size := Nat.lt_of_lt_of_le hb hfw.out.size
          have hO : Bx (OQ (wr.alloc (.cells (opA kd a Bv C S1 T1) 44)) D m wr.heap.size kd a Bv C S1 T1) := ⟨⟨op_new wr kd a Bv C S1 T1 rfl, fun e => by have := hP.out.ws.lt _ e; omega⟩⟩
          have hP := Bx.mk (hP.out.fr0 ((Fr.refl S0 wr).alloc (.cells (opA kd a Bv C S1 T1) 44)))
          clear hmk' hop
          obtain ⟨c0, c1, c2, c3, c4, c5, c6, hl⟩ := hP.out.ws.de7
          obtain ⟨o0, o1, o2, o3, o4, o5, hol⟩ := hO.out.row.op6
          have hMk : Bx (∀ wx, Calls Tryz.prog 10 #[beV D] wx fun e w' => e = .returned (.tuple #[]) ∧ Fr S0 wx w') := ⟨fun wx => markL_any wx⟩
          have hMk2 := hMk
          go_wp2_with (first
            | (go_at_call 14; refine (note_any _ hP.out.ws).mono ?_; rintro e w8 ⟨rfl, hW8, hf8⟩; have hf8 := hf8.mono (S' := SU D m) (fun k hk => .inr (.inr (.inr hk))); have hO := Bx.mk (hO.out.step hf8 (.inl rfl)); have hP := Bx.mk (hP.out.step hW8 hf8 (.inl rfl)); clear hW8 hf8 p0 p1 p2 p3 p4 p5 hbw; clear c0 c1 c2 c3 c4 c5 c6 hl; obtain ⟨c0, c1, c2, c3, c4, c5, c6, hl⟩ := hP.out.ws.de7; clear o0 o1 o2 o3 o4 o5 hol; obtain ⟨o0, o1, o2, o3, o4, o5, hol⟩ := hO.out.row.op6)
            | (go_at_call 10; refine (hMk.out _).mono ?_; clear hMk; rintro e w9 ⟨rfl, hf9⟩; have hO := Bx.mk (hO.out.step (hf9.up (S := SU D m)) (.inl rfl)); have hP := Bx.mk (hP.out.fr0 hf9); clear hf9; clear c0 c1 c2 c3 c4 c5 c6 hl; obtain ⟨c0, c1, c2, c3, c4, c5, c6, hl⟩ := hP.out.ws.de7; clear o0 o1 o2 o3 o4 o5 hol; obtain ⟨o0, o1, o2, o3, o4, o5, hol⟩ := hO.out.row.op6)
            | (go_at_call 15; refine (play_any kd a Bv C S1 T1 _ hP.out.ws hSh.out hrg.out).mono ?_; rintro e w12 ⟨er, rfl, hf12, m', x', T', E', reg', hW12, hS12, hr12, hm12, hd12⟩; have hO := Bx.mk (hO.out.step hf12 hm12); have hP := Bx.mk (hP.out.step hW12 hf12 hm12); have hSh2 := Bx.mk hS12; have hrg2 := Bx.mk hr12; have hd2 := Bx.mk hd12; clear hW12 hS12 hr12 hm12 hf12 hd12; clear c0 c1 c2 c3 c4 c5 c6 hl; obtain ⟨c0, c1, c2, c3, c4, c5, c6, hl⟩ := hP.out.ws.de7; clear o0 o1 o2 o3 o4 o5 hol; obtain ⟨o0, o1, o2, o3, o4, o5, hol⟩ := hO.out.row.op6)
            | (go_at_call 16; refine (held_any kd a Bv C S1 T1 er _ hP.out.ws hSh.out hSh2.out hd2.out).mono ?_; rintro e w13 ⟨rfl, hf13⟩; have hP := Bx.mk (hP.out.fr0 hf13); clear hf13; clear c0 c1 c2 c3 c4 c5 c6 hl; obtain ⟨c0, c1, c2, c3, c4, c5, c6, hl⟩ := hP.out.ws.de7)
            | (go_at_call 10; refine (hMk2.out _).mono ?_; clear hMk2; rintro e w14 ⟨rfl, hf14⟩; have hP := Bx.mk (hP.out.fr0 hf14); clear hf14; clear c0 c1 c2 c3 c4 c5 c6 hl; obtain ⟨c0, c1, c2, c3, c4, c5, c6, hl⟩ := hP.out.ws.de7)
            | (go_at_call 13; refine (seen_any _ hP.out.ws).mono ?_; rintro e w15 ⟨rfl, hf15⟩; have hP := Bx.mk (hP.out.fr0 hf15); clear hf15; clear c0 c1 c2 c3 c4 c5 c6 hl; obtain ⟨c0, c1, c2, c3, c4, c5, c6, hl⟩ := hP.out.ws.de7)
            | (go_at_call 12; refine (worked_any 0 0 0 0 es es 0 _ hP.out.ws).mono ?_; rintro e w16 ⟨rfl, hf16⟩; have hP := Bx.mk (hP.out.fr0 hf16); clear hf16; clear c0 c1 c2 c3 c4 c5 c6 hl; obtain ⟨c0, c1, c2, c3, c4, c5, c6, hl⟩ := hP.out.ws.de7))
          go_roundw
          case rel => exact ⟨k + 1, m', x', T', E', reg', _, _, by go_num, by omega, hP, hSh2, hrg2⟩
          case measure => simp [intOf]; omega
        · have hmkd : decide ((k : Int) < 4398046511104) = false := by simp; omega
          have hge : decide ((len : Int) < 4398046511104) = false := by simp; omega
          clear hmk'
          go_wp2_with fail
          go_ret2
          exact ⟨_, rfl, hfw.out⟩
      · have hlkd : decide ((k : Int) < (len : Int)) = false := by simp; omega
        by_cases hge : len < 4398046511104
        · have hged : decide ((len : Int) < 4398046511104) = true := by simp; omega
          clear hge
          go_wp2_with fail
          go_ret2
          exact ⟨_, rfl, hfw.out⟩
        · have hged : decide ((len : Int) < 4398046511104) = false := by simp; omega
          clear hge
          go_wp2_with fail
          go_ret2
          exact ⟨_, rfl, hfw.out⟩)
end Go.Proofs.Qxb6500328aGreat
