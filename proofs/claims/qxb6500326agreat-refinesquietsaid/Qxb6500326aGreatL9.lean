import Derived.Test.Qxb6500326aGreatL8
namespace Go.Proofs.Qxb6500326aGreat
set_option maxRecDepth 100000
set_option linter.unusedVariables false
set_option linter.unusedSimpArgs false
open Go.RowKit Go.PlainAid
section
variable {w w' w1 : World} {T T' : Tx} {ka kb : Nat}
theorem handed_b {A : XA} {kn : Nat} (w : World) (h : XB w A T) (hr : Row w kn 24 (fun j => .string (T j))) : Calls Tryz.prog 27 #[.agg #[pt A.xe], sl kn 24 24] w fun e w' => e = .returned (.bool true) ∧ Fr S0 w w' := handed_any w h hr

set_option maxHeartbeats 16000000 in
theorem editors_edit (a b c : Int) (S1 T1 : ByteArray) (w : World) (hT : TxO T) (ha : Row w ka 24 (fun j => .string (T j))) (hb : Row w kb 24 (fun j => .string (edX a b T j))) : Calls Tryz.prog 34 #[sl ka 24 24, sl kb 24 24, .agg (opA 3 a b c S1 T1), I (edP a b)] w fun e w' => e = .returned (.bool true) ∧ Fr S0 w w' := by
  have hop := Bx.mk (op_new w 3 a b c S1 T1 rfl)
  have hfa : Bx (Fr S0 w (w.alloc (.cells (opA 3 a b c S1 T1) 30))) := ⟨(Fr.refl S0 w).alloc _⟩
  have hG := Bx.mk (ground_any (w.alloc (.cells (opA 3 a b c S1 T1) 30)))
  have hal := Bx.mk ha.lt
  have hbl := Bx.mk hb.lt
  replace ha := Bx.mk ha
  replace hb := Bx.mk hb
  replace hT := Bx.mk hT
  generalize hX : edX a b T = T2 at *
  generalize hn : edP a b = n at *
  replace hX := Bx.mk hX
  replace hn := Bx.mk hn
  go_enter Tryz.func34, Tryz.ntmps34
  go_wp2_with (first
    | (go_at_call 22; refine hG.out.mono ?_; clear hG; rintro e w2 ⟨A, rfl, hX0, hf2, hn2⟩; have hsz := Bx.mk hf2.size; replace hX0 := Bx.mk hX0; replace hf2 := Bx.mk hf2; replace hn2 := Bx.mk hn2))
  have hcell := Bx.mk (cell_one w2 (pt A.xe) 43)
  have hl9 : Bx (w2.heap.size < (w2.alloc (.cells #[pt A.xe] 43)).heap.size) := ⟨(Row.new w2 #[pt A.xe] 43 1 (fun _ => pt A.xe) rfl (fun i hi => by match i, hi with
    | 0, _ => rfl)).lt⟩
  have hf3 : Bx (Fr S0 w2 (w2.alloc (.cells #[pt A.xe] 43))) := ⟨(Fr.refl S0 w2).alloc _⟩
  replace hX0 := Bx.mk (hX0.out.fr hf3.out (fun _ _ e => e))
  replace hop := Bx.mk (hf3.out.row0 (hf2.out.row0 hop.out))
  replace ha := Bx.mk (hf3.out.row0 (hf2.out.row0 (hfa.out.row0 ha.out)))
  replace hb := Bx.mk (hf3.out.row0 (hf2.out.row0 (hfa.out.row0 hb.out)))
  have hfall : Bx (Fr S0 w (w2.alloc (.cells #[pt A.xe] 43))) := ⟨(hfa.out.trans hf2.out).trans hf3.out⟩
  have hwl : Bx (w.heap.size < (w.alloc (.cells (opA 3 a b c S1 T1) 30)).heap.size) := ⟨(op_new w 3 a b c S1 T1 rfl).lt⟩
  have n1 : Bx (¬ SE A w.heap.size) := ⟨fun e => by have := hn2.out _ e; have := hwl.out; omega⟩
  have n2 : Bx (¬ SE A w2.heap.size) := ⟨fun e => by have := hn2.out _ e; omega⟩
  have n3 : Bx (¬ SE A ka) := ⟨fun e => by have := hn2.out _ e; have := hal.out; have := hwl.out; omega⟩
  have n4 : Bx (¬ SE A kb) := ⟨fun e => by have := hn2.out _ e; have := hbl.out; have := hwl.out; omega⟩
  have hnw : Bx (∀ k, SE A k → w.heap.size ≤ k) := ⟨fun k hk => by have := hn2.out _ hk; have := hwl.out; omega⟩
  generalize hg6 : w.heap.size = g6 at *
  generalize hg9 : w2.heap.size = g9 at *
  generalize hw3 : w2.alloc (.cells #[pt A.xe] 43) = w3 at *
  clear hw3 hg9 hf3 hf2 hn2 hfa hal hbl hwl hsz
  replace hg6 := Bx.mk hg6
  have hkey : Bx (∀ wx, Fr (SE A) w3 wx → wx.cell? ⟨g9, 0, none⟩ = some (pt A.xe) ∧ g9 < wx.heap.size ∧ Row wx g6 6 (opC 3 a b c S1 T1) ∧ Row wx ka 24 (fun j => .string (T j)) ∧ Row wx kb 24 (fun j => .string (T2 j)) ∧ Fr S0 w wx) := ⟨fun wx hx => ⟨by rw [hx.cell (a := ⟨g9, 0, none⟩) hl9.out n2.out]; exact hcell.out, by have := hx.size; have := hl9.out; omega, hx.row hop.out n1.out, hx.row ha.out n3.out, hx.row hb.out n4.out, hfall.out.step hx (fun k hk => .inr (by rw [hg6.out]; exact hnw.out k hk))⟩⟩
  clear hcell hl9 hop ha hb hfall n1 n2 n3 n4
  go_loopw [10] (fun s wr => ∃ k : Nat, k ≤ 24 ∧ s = I (k : Int) ∧ Bx (XB wr A (toK T tx0 k)) ∧ Bx (Fr (SE A) w3 wr)) (fun s _ => 24 - (intOf s).toNat)
  case atStart => exact ⟨0, by omega, rfl, ⟨by rw [toK_zero]; exact hX0.out⟩, ⟨Fr.refl _ _⟩⟩
  case round =>
    clear hX0
    obtain ⟨k, hk, rfl, hXk, hf⟩ := hrel
    obtain ⟨c9, l9, hop, ha, hb, hfw⟩ := hkey.out wr hf.out
    cases hlt : decide ((k : Int) < 24)
    · have hk24 : k = 24 := by simp at hlt; omega
      have hXT : XB wr A T := by have := hXk.out; rw [hk24, toK_all hT.out tx0_ok] at this; exact this
      have hE := Bx.mk (xb_edit hXT a b)
      rw [hn.out, hX.out] at hE
      obtain ⟨q0, q1, q2, q3, q4, q5, hgl⟩ := hop.op6
      have hH : Bx (∀ wx, XB wx A T2 → Fr (SE A) w3 wx → Calls Tryz.prog 27 #[.agg #[pt A.xe], sl kb 24 24] wx fun e w' => e = .returned (.bool true) ∧ Fr S0 wx w') := ⟨fun wx h1 h2 => handed_any wx h1 (hkey.out wx h2).2.2.2.2.1⟩
      clear hXT hk24 hop ha hb hfw hXk
      have hnn : (n == n) = true := by simp
      go_wp2_with (first
        | (go_at_call 68; refine hE.out.mono ?_; clear hE; rintro e w4 ⟨rfl, hX4, hf4⟩; have hf5 := hf.out.trans hf4; replace hH := Bx.mk (hH.out w4 hX4 hf5); clear c9 l9 q0 q1 q2 q3 q4 q5 hgl hX4 hf4; obtain ⟨c9, l9, -, -, -, hfw⟩ := hkey.out w4 hf5; replace hfw := Bx.mk hfw; clear hf5)
        | (go_at_call 27; refine hH.out.mono ?_; clear hH; rintro e w5 ⟨rfl, hf6⟩; replace hf6 := Bx.mk hf6))
      go_ret
      exact ⟨rfl, hfw.out.trans hf6.out⟩
    · have hk24 : k < 24 := by simp at hlt; omega
      have hkI : (k : Int) < 24 := by omega
      have m0 := ha.cell k hk24
      have l0 := ha.lt
      have hSt : Bx (Calls Tryz.prog 67 #[pt A.xe, I (k : Int), .string (T k)] wr.drew (Did wr.drew (SE A) 0 (fun w' => XB w' A (toK T tx0 (k + 1))))) := ⟨by
        have := xb_set (hXk.out.fr ((Fr.refl S0 wr).drew) (fun _ _ h => h)) (k : Int) (T k)
        rw [setP_ok hk24 (hT.out.size k), setT_ok hk24 (hT.out.size k), toK_next] at this
        exact this⟩
      clear hop ha hb hfw hXk
      generalize T k = y at m0 hSt
      go_wp2_with fail
      refine region_cut (fun w' => Bx (XB w' A (toK T tx0 (k + 1)) ∧ Fr (SE A) wr w')) ?_
      apply Exists.intro
      apply And.intro
      · go_region_with (first | (go_at_call 67; refine hSt.out.mono ?_; rintro e w2 ⟨rfl, hq, hfq⟩))
        all_goals exact ⟨rfl, ⟨hq, ((Fr.refl (SE A) wr).drew).trans hfq⟩⟩
      rintro wq ⟨hX2, hf2⟩
      replace hX2 := Bx.mk hX2
      have hf3 := Bx.mk (hf.out.trans hf2)
      clear c9 l9 m0 l0 hSt hf hf2
      go_wp2_with fail
      go_roundw
      case rel => exact ⟨k + 1, by omega, by go_num, hX2, hf3⟩
      case measure => simp [intOf]; omega

set_option maxHeartbeats 16000000 in
theorem editors_copy (a b c : Int) (S1 T1 : ByteArray) (w : World) (hT : TxO T) (ha : Row w ka 24 (fun j => .string (T j))) (hb : Row w kb 24 (fun j => .string (cpX a b T j))) : Calls Tryz.prog 34 #[sl ka 24 24, sl kb 24 24, .agg (opA 4 a b c S1 T1), I (cpP T a b)] w fun e w' => e = .returned (.bool true) ∧ Fr S0 w w' := by
  have hop := Bx.mk (op_new w 4 a b c S1 T1 rfl)
  have hfa : Bx (Fr S0 w (w.alloc (.cells (opA 4 a b c S1 T1) 30))) := ⟨(Fr.refl S0 w).alloc _⟩
  have hG := Bx.mk (ground_any (w.alloc (.cells (opA 4 a b c S1 T1) 30)))
  have hal := Bx.mk ha.lt
  have hbl := Bx.mk hb.lt
  replace ha := Bx.mk ha
  replace hb := Bx.mk hb
  replace hT := Bx.mk hT
  generalize hX : cpX a b T = T2 at *
  generalize hn : cpP T a b = n at *
  replace hX := Bx.mk hX
  replace hn := Bx.mk hn
  go_enter Tryz.func34, Tryz.ntmps34
  go_wp2_with (first
    | (go_at_call 22; refine hG.out.mono ?_; clear hG; rintro e w2 ⟨A, rfl, hX0, hf2, hn2⟩; have hsz := Bx.mk hf2.size; replace hX0 := Bx.mk hX0; replace hf2 := Bx.mk hf2; replace hn2 := Bx.mk hn2))
  have hcell := Bx.mk (cell_one w2 (pt A.xe) 43)
  have hl9 : Bx (w2.heap.size < (w2.alloc (.cells #[pt A.xe] 43)).heap.size) := ⟨(Row.new w2 #[pt A.xe] 43 1 (fun _ => pt A.xe) rfl (fun i hi => by match i, hi with
    | 0, _ => rfl)).lt⟩
  have hf3 : Bx (Fr S0 w2 (w2.alloc (.cells #[pt A.xe] 43))) := ⟨(Fr.refl S0 w2).alloc _⟩
  replace hX0 := Bx.mk (hX0.out.fr hf3.out (fun _ _ e => e))
  replace hop := Bx.mk (hf3.out.row0 (hf2.out.row0 hop.out))
  replace ha := Bx.mk (hf3.out.row0 (hf2.out.row0 (hfa.out.row0 ha.out)))
  replace hb := Bx.mk (hf3.out.row0 (hf2.out.row0 (hfa.out.row0 hb.out)))
  have hfall : Bx (Fr S0 w (w2.alloc (.cells #[pt A.xe] 43))) := ⟨(hfa.out.trans hf2.out).trans hf3.out⟩
  have hwl : Bx (w.heap.size < (w.alloc (.cells (opA 4 a b c S1 T1) 30)).heap.size) := ⟨(op_new w 4 a b c S1 T1 rfl).lt⟩
  have n1 : Bx (¬ SE A w.heap.size) := ⟨fun e => by have := hn2.out _ e; have := hwl.out; omega⟩
  have n2 : Bx (¬ SE A w2.heap.size) := ⟨fun e => by have := hn2.out _ e; omega⟩
  have n3 : Bx (¬ SE A ka) := ⟨fun e => by have := hn2.out _ e; have := hal.out; have := hwl.out; omega⟩
  have n4 : Bx (¬ SE A kb) := ⟨fun e => by have := hn2.out _ e; have := hbl.out; have := hwl.out; omega⟩
  have hnw : Bx (∀ k, SE A k → w.heap.size ≤ k) := ⟨fun k hk => by have := hn2.out _ hk; have := hwl.out; omega⟩
  generalize hg6 : w.heap.size = g6 at *
  generalize hg9 : w2.heap.size = g9 at *
  generalize hw3 : w2.alloc (.cells #[pt A.xe] 43) = w3 at *
  clear hw3 hg9 hf3 hf2 hn2 hfa hal hbl hwl hsz
  replace hg6 := Bx.mk hg6
  have hkey : Bx (∀ wx, Fr (SE A) w3 wx → wx.cell? ⟨g9, 0, none⟩ = some (pt A.xe) ∧ g9 < wx.heap.size ∧ Row wx g6 6 (opC 4 a b c S1 T1) ∧ Row wx ka 24 (fun j => .string (T j)) ∧ Row wx kb 24 (fun j => .string (T2 j)) ∧ Fr S0 w wx) := ⟨fun wx hx => ⟨by rw [hx.cell (a := ⟨g9, 0, none⟩) hl9.out n2.out]; exact hcell.out, by have := hx.size; have := hl9.out; omega, hx.row hop.out n1.out, hx.row ha.out n3.out, hx.row hb.out n4.out, hfall.out.step hx (fun k hk => .inr (by rw [hg6.out]; exact hnw.out k hk))⟩⟩
  clear hcell hl9 hop ha hb hfall n1 n2 n3 n4
  go_loopw [10] (fun s wr => ∃ k : Nat, k ≤ 24 ∧ s = I (k : Int) ∧ Bx (XB wr A (toK T tx0 k)) ∧ Bx (Fr (SE A) w3 wr)) (fun s _ => 24 - (intOf s).toNat)
  case atStart => exact ⟨0, by omega, rfl, ⟨by rw [toK_zero]; exact hX0.out⟩, ⟨Fr.refl _ _⟩⟩
  case round =>
    clear hX0
    obtain ⟨k, hk, rfl, hXk, hf⟩ := hrel
    obtain ⟨c9, l9, hop, ha, hb, hfw⟩ := hkey.out wr hf.out
    cases hlt : decide ((k : Int) < 24)
    · have hk24 : k = 24 := by simp at hlt; omega
      have hXT : XB wr A T := by have := hXk.out; rw [hk24, toK_all hT.out tx0_ok] at this; exact this
      have hE := Bx.mk (xb_copy hXT a b)
      rw [hn.out, hX.out] at hE
      obtain ⟨q0, q1, q2, q3, q4, q5, hgl⟩ := hop.op6
      have hH : Bx (∀ wx, XB wx A T2 → Fr (SE A) w3 wx → Calls Tryz.prog 27 #[.agg #[pt A.xe], sl kb 24 24] wx fun e w' => e = .returned (.bool true) ∧ Fr S0 wx w') := ⟨fun wx h1 h2 => handed_any wx h1 (hkey.out wx h2).2.2.2.2.1⟩
      clear hXT hk24 hop ha hb hfw hXk
      have hnn : (n == n) = true := by simp
      go_wp2_with (first
        | (go_at_call 69; refine hE.out.mono ?_; clear hE; rintro e w4 ⟨rfl, hX4, hf4⟩; have hf5 := hf.out.trans hf4; replace hH := Bx.mk (hH.out w4 hX4 hf5); clear c9 l9 q0 q1 q2 q3 q4 q5 hgl hX4 hf4; obtain ⟨c9, l9, -, -, -, hfw⟩ := hkey.out w4 hf5; replace hfw := Bx.mk hfw; clear hf5)
        | (go_at_call 27; refine hH.out.mono ?_; clear hH; rintro e w5 ⟨rfl, hf6⟩; replace hf6 := Bx.mk hf6))
      go_ret
      exact ⟨rfl, hfw.out.trans hf6.out⟩
    · have hk24 : k < 24 := by simp at hlt; omega
      have hkI : (k : Int) < 24 := by omega
      have m0 := ha.cell k hk24
      have l0 := ha.lt
      have hSt : Bx (Calls Tryz.prog 67 #[pt A.xe, I (k : Int), .string (T k)] wr.drew (Did wr.drew (SE A) 0 (fun w' => XB w' A (toK T tx0 (k + 1))))) := ⟨by
        have := xb_set (hXk.out.fr ((Fr.refl S0 wr).drew) (fun _ _ h => h)) (k : Int) (T k)
        rw [setP_ok hk24 (hT.out.size k), setT_ok hk24 (hT.out.size k), toK_next] at this
        exact this⟩
      clear hop ha hb hfw hXk
      generalize T k = y at m0 hSt
      go_wp2_with fail
      refine region_cut (fun w' => Bx (XB w' A (toK T tx0 (k + 1)) ∧ Fr (SE A) wr w')) ?_
      apply Exists.intro
      apply And.intro
      · go_region_with (first | (go_at_call 67; refine hSt.out.mono ?_; rintro e w2 ⟨rfl, hq, hfq⟩))
        all_goals exact ⟨rfl, ⟨hq, ((Fr.refl (SE A) wr).drew).trans hfq⟩⟩
      rintro wq ⟨hX2, hf2⟩
      replace hX2 := Bx.mk hX2
      have hf3 := Bx.mk (hf.out.trans hf2)
      clear c9 l9 m0 l0 hSt hf hf2
      go_wp2_with fail
      go_roundw
      case rel => exact ⟨k + 1, by omega, by go_num, hX2, hf3⟩
      case measure => simp [intOf]; omega

end
end Go.Proofs.Qxb6500326aGreat
