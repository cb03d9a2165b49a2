import Derived.Test.Qxb6500326aGreatW8c
import Derived.Test.Qxb6500326aGreatW13
namespace Go.Proofs.Qxb6500326aGreat
set_option maxRecDepth 100000
set_option linter.unusedVariables false
set_option linter.unusedSimpArgs false
open Go.RowKit Go.PlainAid
theorem cut_len (b : Nat → Int) (a e : Nat) : (cut b a e).length = e - a := by simp [cut]
theorem true_lit : (bs wTrue).toList = [84, 82, 85, 69] := by rw [ByteArray.toList_eq]; rfl
theorem false_lit : (bs wFalse).toList = [70, 65, 76, 83, 69] := by rw [ByteArray.toList_eq]; rfl
theorem wTrue_bytes : ∀ c ∈ wTrue, 0 ≤ c ∧ c ≤ 255 := by intro c hc; simp [wTrue] at hc; omega
theorem wFalse_bytes : ∀ c ∈ wFalse, 0 ≤ c ∧ c ≤ 255 := by intro c hc; simp [wFalse] at hc; omega
theorem is_true {L : List Int} (h : L = wTrue) : ((bs L).toList == [84, 82, 85, 69]) = true := by rw [← true_lit]; exact beq_bs_true h
theorem is_false {L : List Int} (h : L = wFalse) : ((bs L).toList == [70, 65, 76, 83, 69]) = true := by rw [← false_lit]; exact beq_bs_true h
theorem no_true {L : List Int} (hL : ∀ c ∈ L, 0 ≤ c ∧ c ≤ 255) (h : ¬ L = wTrue) : ((bs L).toList == [84, 82, 85, 69]) = false := by rw [← true_lit]; exact beq_bs_false hL wTrue_bytes h
theorem no_false {L : List Int} (hL : ∀ c ∈ L, 0 ≤ c ∧ c ≤ 255) (h : ¬ L = wFalse) : ((bs L).toList == [70, 65, 76, 83, 69]) = false := by rw [← false_lit]; exact beq_bs_false hL wFalse_bytes h
theorem RD.refCell {w : World} (B : Nat) (x : Ref) (h : w.heap[B]? = some (.cells #[I x.col, I x.row, .bool x.absC, .bool x.absR] 147)) :
    w.cell? ⟨B, 0, none⟩ = some (I x.col) ∧ w.cell? ⟨B, 1, none⟩ = some (I x.row) ∧ w.cell? ⟨B, 2, none⟩ = some (.bool x.absC) ∧ w.cell? ⟨B, 3, none⟩ = some (.bool x.absR) := by
  simp [World.cell?, h]
/-- A reference in a block of its own. -/
structure RefB (w : World) (r B : Nat) (x : Ref) : Prop where
  lt : r < B
  row : Row w B 4 (fun i => match i with | 0 => I x.col | 1 => I x.row | 2 => .bool x.absC | _ => .bool x.absR)
theorem RefB.new {w : World} {r : Nat} (h : r < w.heap.size) (x : Ref) : RefB (w.alloc (.cells #[I x.col, I x.row, .bool x.absC, .bool x.absR] 147)) r w.heap.size x :=
  ⟨h, Row.new _ _ _ _ _ rfl (by intro i hi; rcases i with _ | _ | _ | _ | i <;> first | rfl | omega)⟩
theorem RefB.fr {w w' : World} {r B : Nat} {x : Ref} (h : RefB w r B x) (f : Fr (At1 r) w w') : RefB w' r B x :=
  ⟨h.lt, f.row h.row (fun e => by have := h.lt; have : B = r := e; omega)⟩
theorem RefB.fr0 {w w' : World} {r B : Nat} {x : Ref} (h : RefB w r B x) (f : Fr S0 w w') : RefB w' r B x := ⟨h.lt, f.row0 h.row⟩
theorem RefB.cells {w : World} {r B : Nat} {x : Ref} (h : RefB w r B x) :
    w.cell? ⟨B, 0, none⟩ = some (I x.col) ∧ w.cell? ⟨B, 1, none⟩ = some (I x.row) ∧ w.cell? ⟨B, 2, none⟩ = some (.bool x.absC) ∧ w.cell? ⟨B, 3, none⟩ = some (.bool x.absR) :=
  ⟨h.row.cell 0 (by omega), h.row.cell 1 (by omega), h.row.cell 2 (by omega), h.row.cell 3 (by omega)⟩
theorem RD.lt {w : World} {r : Nat} {s : ByteArray} {st : PS} {v : Value} (h : RD w r s st v) : r < w.heap.size := h.row.lt
set_option maxRecDepth 100000 in
set_option maxHeartbeats 8000000 in
theorem name_any (r : Nat) (s : ByteArray) (hs : s.size ≤ 40) (ex : Bool → PS → PS × Int) (F fu : Nat) (hF : s.size < F) (hex : OK1 142 r s ex fu)
    (hmono : ∀ ranges st, st.i ≤ s.size → s.size - st.i < fu → st.i ≤ (ex ranges st).1.i ∧ (ex ranges st).1.i ≤ s.size) :
    OK1 247 r s (nameM (bt s) s.size ex F) (fu + 1) := by
  intro ranges st v w h h1 h2
  have c1 := h.row.cell 1 (by omega)
  simp only [rdC] at c1
  have hWd := Bx.mk (word_any r s st v w h h1 hs)
  have hbyt := cut_bytes s st.i (wordEnd (bt s) s.size st.i)
  have hwl := cut_len (bt s) st.i (wordEnd (bt s) s.size st.i)
  have he1 : st.i ≤ wordEnd (bt s) s.size st.i := le_runF _ _
  have he2 : wordEnd (bt s) s.size st.i ≤ s.size := runF_le _ _ h1
  unfold nameM
  simp only
  generalize wordEnd (bt s) s.size st.i = e0 at *
  generalize cut (bt s) st.i e0 = W at *
  have hcall := Bx.mk (fun f at_ st v w h h1 h2 => call_any r s hs ex F fu hF hex hmono f at_ st v w h h1 h2)
  have hRfW := fun w => refOf_list W w hbyt (by omega)
  have hfn := Bx.mk (fun w => funcOf_any W w hbyt)
  clear h hex hmono
  by_cases hT : W = wTrue
  · rw [if_pos hT]
    have tT := is_true hT
    clear hbyt hT hRfW hfn hcall
    go_enter Tryz.func247, Tryz.ntmps247
    go_wp2_with (first
      | (go_at_call 253; refine hWd.out.mono ?_; clear hWd; rintro e w1 ⟨rfl, hR1, hf1⟩; have hR1 := Bx.mk hR1)
      | (go_at_call 173; refine (add_any r s (st.go e0) _ (nBool 1) _ hR1.out (by show e0 ≤ 40; omega)).mono ?_; rintro e w2 ⟨v2, rfl, hR2, hf2⟩))

    go_ret
    exact ⟨_, rfl, hR2, hf1.trans hf2, by rw [add_i]; exact he1, by rw [add_i]; exact he2⟩
  · rw [if_neg hT]
    have tT := no_true hbyt hT
    by_cases hFa : W = wFalse
    · rw [if_pos hFa]
      have tF := is_false hFa
      clear hbyt hT hFa hRfW hfn hcall
      go_enter Tryz.func247, Tryz.ntmps247
      go_wp2_with (first
        | (go_at_call 253; refine hWd.out.mono ?_; clear hWd; rintro e w1 ⟨rfl, hR1, hf1⟩; have hR1 := Bx.mk hR1)
        | (go_at_call 173; refine (add_any r s (st.go e0) _ (nBool 0) _ hR1.out (by show e0 ≤ 40; omega)).mono ?_; rintro e w2 ⟨v2, rfl, hR2, hf2⟩))

      go_ret
      exact ⟨_, rfl, hR2, hf1.trans hf2, by rw [add_i]; exact he1, by rw [add_i]; exact he2⟩
    · rw [if_neg hFa]
      have tF := no_false hbyt hFa
      clear hbyt hT hFa
      cases hrf : refOf W with
      | none =>
        rw [hrf] at hRfW
        have hRf : Bx (∀ w, Calls Tryz.prog 254 #[.string (bs W)] w fun e w' => e = .returned (.tuple #[refV rz, .bool false]) ∧ Fr S0 w w') := Bx.mk hRfW
        clear hRfW hrf
        obtain ⟨rr, hrr⟩ : ∃ rr, rr = rz := ⟨_, rfl⟩
        rw [← hrr] at hRf
        clear hrr
        generalize fnOf W = fw at *
        simp only
        by_cases hf0 : fw = 0
        · rw [if_pos hf0]
          have t0 : (fw == 0) = true := by simpa using hf0
          clear hf0 hcall
          go_enter Tryz.func247, Tryz.ntmps247
          go_wp2_with (first
            | (go_at_call 253; refine hWd.out.mono ?_; clear hWd; rintro e w1 ⟨rfl, hR1, hf1⟩; have hR1 := Bx.mk hR1)
            | (go_at_call 254; refine (hRf.out _).mono ?_; clear hRf; rintro e w2 ⟨rfl, hf2⟩; have hR2 := Bx.mk ((hR1.out.fr0 hf2).alloc (.cells #[I rr.col, I rr.row, .bool rr.absC, .bool rr.absR] 147)); have hB2 := Bx.mk (RefB.new (hR1.out.fr0 hf2).lt rr))
            | (go_at_call 255; refine (hfn.out _).mono ?_; clear hfn; rintro e w3 ⟨rfl, rfl⟩)
            | (go_at_call 144; refine (fail_any r s (st.go e0) _ 5 st.i _ hR2.out).mono ?_; rintro e w4 ⟨rfl, hR4, hf4⟩))

          go_ret
          exact ⟨_, rfl, hR4, (hf1.trans (hf2.up.alloc _)).trans hf4, by rw [fail_i]; exact he1, by rw [fail_i]; exact he2⟩
        · rw [if_neg hf0]
          have t0 : (fw == 0) = false := by simpa using hf0
          clear hf0
          have hL := Bx.mk (fun v w h => look_any r s (st.go e0) v w h he2 hs)
          have hpos := Bx.mk (look_pos (b := bt s) (n := s.size) (st := st.go e0))
          have hli := look_i (bt s) s.size (st.go e0)
          have hsk := le_skip (b := bt s) (n := s.size) e0
          have hsl := skip_le (b := bt s) (n := s.size) he2
          rw [show (st.go e0).i = e0 from rfl] at hli
          rw [← hli] at hsk hsl
          clear hli
          generalize (st.go e0).look (bt s) s.size = l at *
          by_cases hc : l.2 = 40
          · rw [if_pos hc]
            have t40 : (l.2 != 40) = false := by simp [hc]
            have hp := hpos.out (by rw [hc]; decide)
            obtain ⟨hp1, hp2⟩ := hp
            clear hc hpos
            go_enter Tryz.func247, Tryz.ntmps247
            go_wp2_with (first
              | (go_at_call 253; refine hWd.out.mono ?_; clear hWd; rintro e w1 ⟨rfl, hR1, hf1⟩; have hR1 := Bx.mk hR1)
              | (go_at_call 254; refine (hRf.out _).mono ?_; clear hRf; rintro e w2 ⟨rfl, hf2⟩; have hR2 := Bx.mk ((hR1.out.fr0 hf2).alloc (.cells #[I rr.col, I rr.row, .bool rr.absC, .bool rr.absR] 147)); have hB2 := Bx.mk (RefB.new (hR1.out.fr0 hf2).lt rr))
              | (go_at_call 255; refine (hfn.out _).mono ?_; clear hfn; rintro e w3 ⟨rfl, rfl⟩)
              | (go_at_call 143; refine (hL.out _ _ hR2.out).mono ?_; clear hL; rintro e w3 ⟨rfl, hR3, hf3⟩; have hR3 := Bx.mk hR3)
              | (go_at_call 256; refine (hcall.out fw st.i l.1 v _ hR3.out hp1 (by omega)).mono ?_; rintro e w4 ⟨v4, rfl, hR4, hf4, i1, i2⟩))

            go_ret
            exact ⟨_, rfl, hR4, ((hf1.trans (hf2.up.alloc _)).trans hf3).trans hf4, by omega, i2⟩
          · rw [if_neg hc]
            have t40 : (l.2 != 40) = true := by simpa using hc
            clear hc hpos hcall
            go_enter Tryz.func247, Tryz.ntmps247
            go_wp2_with (first
              | (go_at_call 253; refine hWd.out.mono ?_; clear hWd; rintro e w1 ⟨rfl, hR1, hf1⟩; have hR1 := Bx.mk hR1)
              | (go_at_call 254; refine (hRf.out _).mono ?_; clear hRf; rintro e w2 ⟨rfl, hf2⟩; have hR2 := Bx.mk ((hR1.out.fr0 hf2).alloc (.cells #[I rr.col, I rr.row, .bool rr.absC, .bool rr.absR] 147)); have hB2 := Bx.mk (RefB.new (hR1.out.fr0 hf2).lt rr))
              | (go_at_call 255; refine (hfn.out _).mono ?_; clear hfn; rintro e w3 ⟨rfl, rfl⟩)
              | (go_at_call 143; refine (hL.out _ _ hR2.out).mono ?_; clear hL; rintro e w3 ⟨rfl, hR3, hf3⟩; have hR3 := Bx.mk hR3)
              | (go_at_call 144; refine (fail_any r s l.1 _ 5 st.i _ hR3.out).mono ?_; rintro e w4 ⟨rfl, hR4, hf4⟩))

            go_ret
            exact ⟨_, rfl, hR4, ((hf1.trans (hf2.up.alloc _)).trans hf3).trans hf4, by rw [fail_i]; omega, by rw [fail_i]; omega⟩
      | some rr =>
        rw [hrf] at hRfW
        have hRf : Bx (∀ w, Calls Tryz.prog 254 #[.string (bs W)] w fun e w' => e = .returned (.tuple #[refV rr, .bool true]) ∧ Fr S0 w w') := Bx.mk hRfW
        clear hRfW hrf hfn hcall
        simp only
        have hL := Bx.mk (fun v w h => look_one r s (st.go e0) v w h he2 hs)
        have hpos := Bx.mk (look_pos (b := bt s) (n := s.size) (st := st.go e0))
        have hli := look_i (bt s) s.size (st.go e0)
        have hsk := le_skip (b := bt s) (n := s.size) e0
        have hsl := skip_le (b := bt s) (n := s.size) he2
        rw [show (st.go e0).i = e0 from rfl] at hli
        rw [← hli] at hsk hsl
        clear hli
        generalize (st.go e0).look (bt s) s.size = l at *
        by_cases hc : l.2 = 58
        · rw [if_pos hc]
          have t58 : (l.2 != 58) = false := by simp [hc]
          have hp := hpos.out (by rw [hc]; decide)
          obtain ⟨hp1, hp2⟩ := hp
          clear hc hpos
          have hL2 := Bx.mk (fun v w h => look_one r s (l.1.go (l.1.i + 1)) v w h (by show l.1.i + 1 ≤ s.size; omega) hs)
          have hli := look_i (bt s) s.size (l.1.go (l.1.i + 1))
          have hsk2 := le_skip (b := bt s) (n := s.size) (l.1.i + 1)
          have hsl2 := skip_le (b := bt s) (n := s.size) (show l.1.i + 1 ≤ s.size from hp1)
          rw [show (l.1.go (l.1.i + 1)).i = l.1.i + 1 from rfl] at hli
          rw [← hli] at hsk2 hsl2
          clear hli
          generalize (l.1.go (l.1.i + 1)).look (bt s) s.size = l2 at *
          have hWd2 := Bx.mk (fun v w h => word_one r s l2.1 v w h hsl2 hs)
          have hbyt2 := cut_bytes s l2.1.i (wordEnd (bt s) s.size l2.1.i)
          have hwl2 := cut_len (bt s) l2.1.i (wordEnd (bt s) s.size l2.1.i)
          have he3 : l2.1.i ≤ wordEnd (bt s) s.size l2.1.i := le_runF _ _
          have he4 : wordEnd (bt s) s.size l2.1.i ≤ s.size := runF_le _ _ hsl2
          generalize wordEnd (bt s) s.size l2.1.i = e2 at *
          generalize cut (bt s) l2.1.i e2 = W2 at *
          have hRfW2 := fun w => refOf_list W2 w hbyt2 (by omega)
          clear hbyt2
          cases hrf : refOf W2 with
          | none =>
            rw [hrf] at hRfW2
            have hRf2 : Bx (∀ w, Calls Tryz.prog 254 #[.string (bs W2)] w fun e w' => e = .returned (.tuple #[refV rz, .bool false]) ∧ Fr S0 w w') := Bx.mk hRfW2
            clear hRfW2 hrf
            obtain ⟨rr2, hrr⟩ : ∃ rr, rr = rz := ⟨_, rfl⟩
            rw [← hrr] at hRf2
            clear hrr
            simp only
            go_enter Tryz.func247, Tryz.ntmps247
            go_wp2_with (first
              | (go_at_call 253; refine hWd.out.mono ?_; clear hWd; rintro e w1 ⟨rfl, hR1, hf1⟩; have hR1 := Bx.mk hR1)
              | (go_at_call 254; refine (hRf.out _).mono ?_; clear hRf; rintro e w2 ⟨rfl, hf2⟩; have hR2 := Bx.mk ((hR1.out.fr0 hf2).alloc (.cells #[I rr.col, I rr.row, .bool rr.absC, .bool rr.absR] 147)); have hB2 := Bx.mk (RefB.new (hR1.out.fr0 hf2).lt rr))
              | (go_at_call 143; refine (hL.out _ _ hR2.out).mono ?_; clear hL; rintro e w3 ⟨rfl, hR3, hf3⟩; have hR3 := Bx.mk hR3; have hB3 := Bx.mk (hB2.out.fr hf3); obtain ⟨b0, b1, b2, b3⟩ := hB3.out.cells; have c2 := hR3.out.row.cell 1 (by omega); have z2 := hR3.out.row.frozen 1; simp only [rdC] at c2)
              | (go_at_call 143; refine (hL2.out _ _ hR3.out.inc).mono ?_; clear hL2 b0 b1 b2 b3 c2 z2; rintro e w4 ⟨rfl, hR4, hf4⟩; have hR4 := Bx.mk hR4; have hB4 := Bx.mk (hB3.out.fr (((Fr.refl _ _).inc1 1 _).trans hf4)); have c2 := hR4.out.row.cell 1 (by omega); simp only [rdC] at c2)
              | (go_at_call 253; refine (hWd2.out _ _ hR4.out).mono ?_; clear hWd2 c2; rintro e w5 ⟨rfl, hR5, hf5⟩; have hR5 := Bx.mk hR5; have hB5 := Bx.mk (hB4.out.fr hf5))
              | (go_at_call 254; refine (hRf2.out _).mono ?_; clear hRf2; rintro e w6 ⟨rfl, hf6⟩; have hR6 := Bx.mk ((hR5.out.fr0 hf6).alloc (.cells #[I rr2.col, I rr2.row, .bool rr2.absC, .bool rr2.absR] 147)); have hB6 := Bx.mk ((hB5.out.fr0 hf6).fr0 ((Fr.refl _ _).alloc (.cells #[I rr2.col, I rr2.row, .bool rr2.absC, .bool rr2.absR] 147))); have hC6 := Bx.mk (RefB.new (hR5.out.fr0 hf6).lt rr2); obtain ⟨b0, b1, b2, b3⟩ := hB6.out.cells; obtain ⟨d0, d1, d2, d3⟩ := hC6.out.cells)
              | (go_at_call 144; refine (fail_any r s (l2.1.go e2) _ 3 l2.1.i _ hR6.out).mono ?_; rintro e w7 ⟨rfl, hR7, hf7⟩))

            go_ret
            exact ⟨_, rfl, hR7, ((((((hf1.trans (hf2.up.alloc _)).trans hf3.up1).inc 1 _).trans hf4.up1).trans hf5.up1).trans (hf6.up.alloc _)).trans hf7, by rw [fail_i]; show st.i ≤ e2; omega, by rw [fail_i]; exact he4⟩
          | some rr2 =>
            rw [hrf] at hRfW2
            have hRf2 : Bx (∀ w, Calls Tryz.prog 254 #[.string (bs W2)] w fun e w' => e = .returned (.tuple #[refV rr2, .bool true]) ∧ Fr S0 w w') := Bx.mk hRfW2
            clear hRfW2 hrf
            simp only
            cases ranges with
            | false =>
              simp only [Bool.false_eq_true, if_false]
              go_enter Tryz.func247, Tryz.ntmps247
              go_wp2_with (first
                | (go_at_call 253; refine hWd.out.mono ?_; clear hWd; rintro e w1 ⟨rfl, hR1, hf1⟩; have hR1 := Bx.mk hR1)
                | (go_at_call 254; refine (hRf.out _).mono ?_; clear hRf; rintro e w2 ⟨rfl, hf2⟩; have hR2 := Bx.mk ((hR1.out.fr0 hf2).alloc (.cells #[I rr.col, I rr.row, .bool rr.absC, .bool rr.absR] 147)); have hB2 := Bx.mk (RefB.new (hR1.out.fr0 hf2).lt rr))
                | (go_at_call 143; refine (hL.out _ _ hR2.out).mono ?_; clear hL; rintro e w3 ⟨rfl, hR3, hf3⟩; have hR3 := Bx.mk hR3; have hB3 := Bx.mk (hB2.out.fr hf3); obtain ⟨b0, b1, b2, b3⟩ := hB3.out.cells; have c2 := hR3.out.row.cell 1 (by omega); have z2 := hR3.out.row.frozen 1; simp only [rdC] at c2)
                | (go_at_call 143; refine (hL2.out _ _ hR3.out.inc).mono ?_; clear hL2 b0 b1 b2 b3 c2 z2; rintro e w4 ⟨rfl, hR4, hf4⟩; have hR4 := Bx.mk hR4; have hB4 := Bx.mk (hB3.out.fr (((Fr.refl _ _).inc1 1 _).trans hf4)); have c2 := hR4.out.row.cell 1 (by omega); simp only [rdC] at c2)
                | (go_at_call 253; refine (hWd2.out _ _ hR4.out).mono ?_; clear hWd2 c2; rintro e w5 ⟨rfl, hR5, hf5⟩; have hR5 := Bx.mk hR5; have hB5 := Bx.mk (hB4.out.fr hf5))
                | (go_at_call 254; refine (hRf2.out _).mono ?_; clear hRf2; rintro e w6 ⟨rfl, hf6⟩; have hR6 := Bx.mk ((hR5.out.fr0 hf6).alloc (.cells #[I rr2.col, I rr2.row, .bool rr2.absC, .bool rr2.absR] 147)); have hB6 := Bx.mk ((hB5.out.fr0 hf6).fr0 ((Fr.refl _ _).alloc (.cells #[I rr2.col, I rr2.row, .bool rr2.absC, .bool rr2.absR] 147))); have hC6 := Bx.mk (RefB.new (hR5.out.fr0 hf6).lt rr2); obtain ⟨b0, b1, b2, b3⟩ := hB6.out.cells; obtain ⟨d0, d1, d2, d3⟩ := hC6.out.cells)
                | (go_at_call 144; refine (fail_any r s (l2.1.go e2) _ 6 st.i _ hR6.out).mono ?_; rintro e w7 ⟨rfl, hR7, hf7⟩))

              go_ret
              exact ⟨_, rfl, hR7, ((((((hf1.trans (hf2.up.alloc _)).trans hf3.up1).inc 1 _).trans hf4.up1).trans hf5.up1).trans (hf6.up.alloc _)).trans hf7, by rw [fail_i]; show st.i ≤ e2; omega, by rw [fail_i]; exact he4⟩
            | true =>
              simp only [if_true]
              go_enter Tryz.func247, Tryz.ntmps247
              go_wp2_with (first
                | (go_at_call 253; refine hWd.out.mono ?_; clear hWd; rintro e w1 ⟨rfl, hR1, hf1⟩; have hR1 := Bx.mk hR1)
                | (go_at_call 254; refine (hRf.out _).mono ?_; clear hRf; rintro e w2 ⟨rfl, hf2⟩; have hR2 := Bx.mk ((hR1.out.fr0 hf2).alloc (.cells #[I rr.col, I rr.row, .bool rr.absC, .bool rr.absR] 147)); have hB2 := Bx.mk (RefB.new (hR1.out.fr0 hf2).lt rr))
                | (go_at_call 143; refine (hL.out _ _ hR2.out).mono ?_; clear hL; rintro e w3 ⟨rfl, hR3, hf3⟩; have hR3 := Bx.mk hR3; have hB3 := Bx.mk (hB2.out.fr hf3); obtain ⟨b0, b1, b2, b3⟩ := hB3.out.cells; have c2 := hR3.out.row.cell 1 (by omega); have z2 := hR3.out.row.frozen 1; simp only [rdC] at c2)
                | (go_at_call 143; refine (hL2.out _ _ hR3.out.inc).mono ?_; clear hL2 b0 b1 b2 b3 c2 z2; rintro e w4 ⟨rfl, hR4, hf4⟩; have hR4 := Bx.mk hR4; have hB4 := Bx.mk (hB3.out.fr (((Fr.refl _ _).inc1 1 _).trans hf4)); have c2 := hR4.out.row.cell 1 (by omega); simp only [rdC] at c2)
                | (go_at_call 253; refine (hWd2.out _ _ hR4.out).mono ?_; clear hWd2 c2; rintro e w5 ⟨rfl, hR5, hf5⟩; have hR5 := Bx.mk hR5; have hB5 := Bx.mk (hB4.out.fr hf5))
                | (go_at_call 254; refine (hRf2.out _).mono ?_; clear hRf2; rintro e w6 ⟨rfl, hf6⟩; have hR6 := Bx.mk ((hR5.out.fr0 hf6).alloc (.cells #[I rr2.col, I rr2.row, .bool rr2.absC, .bool rr2.absR] 147)); have hB6 := Bx.mk ((hB5.out.fr0 hf6).fr0 ((Fr.refl _ _).alloc (.cells #[I rr2.col, I rr2.row, .bool rr2.absC, .bool rr2.absR] 147))); have hC6 := Bx.mk (RefB.new (hR5.out.fr0 hf6).lt rr2); obtain ⟨b0, b1, b2, b3⟩ := hB6.out.cells; obtain ⟨d0, d1, d2, d3⟩ := hC6.out.cells)
                | (go_at_call 173; refine (add_any r s (l2.1.go e2) _ (nRange rr rr2) _ hR6.out (by show e2 ≤ 40; omega)).mono ?_; rintro e w7 ⟨v7, rfl, hR7, hf7⟩))

              go_ret
              exact ⟨_, rfl, hR7, ((((((hf1.trans (hf2.up.alloc _)).trans hf3.up1).inc 1 _).trans hf4.up1).trans hf5.up1).trans (hf6.up.alloc _)).trans hf7, by rw [add_i]; show st.i ≤ e2; omega, by rw [add_i]; exact he4⟩
        · rw [if_neg hc]
          have t58 : (l.2 != 58) = true := by simpa using hc
          clear hc hpos
          go_enter Tryz.func247, Tryz.ntmps247
          go_wp2_with (first
            | (go_at_call 253; refine hWd.out.mono ?_; clear hWd; rintro e w1 ⟨rfl, hR1, hf1⟩; have hR1 := Bx.mk hR1)
            | (go_at_call 254; refine (hRf.out _).mono ?_; clear hRf; rintro e w2 ⟨rfl, hf2⟩; have hR2 := Bx.mk ((hR1.out.fr0 hf2).alloc (.cells #[I rr.col, I rr.row, .bool rr.absC, .bool rr.absR] 147)); have hB2 := Bx.mk (RefB.new (hR1.out.fr0 hf2).lt rr))
            | (go_at_call 143; refine (hL.out _ _ hR2.out).mono ?_; clear hL; rintro e w3 ⟨rfl, hR3, hf3⟩; have hR3 := Bx.mk hR3; have hB3 := Bx.mk (hB2.out.fr hf3); obtain ⟨b0, b1, b2, b3⟩ := hB3.out.cells; have c2 := hR3.out.row.cell 1 (by omega); have z2 := hR3.out.row.frozen 1; simp only [rdC] at c2)
            | (go_at_call 173; refine (add_any r s l.1 _ (nRef rr) _ hR3.out (by omega)).mono ?_; rintro e w7 ⟨v7, rfl, hR7, hf7⟩))

          go_ret
          exact ⟨_, rfl, hR7, ((hf1.trans (hf2.up.alloc _)).trans hf3.up1).trans hf7, by rw [add_i]; omega, by rw [add_i]; omega⟩
end Go.Proofs.Qxb6500326aGreat
