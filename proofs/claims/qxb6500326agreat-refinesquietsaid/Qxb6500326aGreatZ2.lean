import Derived.Test.Qxb6500326aGreatZ1
import Derived.Test.Qxb6500326aGreatU2
namespace Go.Proofs.Qxb6500326aGreat
set_option linter.unusedVariables false
set_option linter.unusedSimpArgs false
open Go.RowKit Go.PlainAid
theorem decF_app : ∀ (f v : Nat) (A T : List Int), decF f v (A ++ T) = decF f v A ++ T
  | 0, v, A, T => rfl
  | f + 1, v, A, T => by
    rw [decF_succ, decF_succ]
    split
    · rfl
    · exact decF_app f (v / 10) (_ :: A) T
theorem dec_app (v : Int) (T : List Int) : dec v ++ T = decF 20 v.toNat T := by
  unfold dec; rw [← decF_app]; rfl
set_option maxRecDepth 100000 in
set_option maxHeartbeats 1000000 in
theorem putNumX (B : FB) (N : Notes) (T : List Int) (v : Nat) (w : World) (h : FP w B N T) (hv : v ≤ 999999999) (hT : T.length + 9 ≤ 288) :
    Calls Tryz.prog 224 #[pt B.f, I v] w (Puts w B N (dec v ++ T)) := by
  have hD : Bx (dec v ++ T = decF (20 - 0) v T) := Bx.mk (by rw [dec_app]; simp)
  generalize dec v ++ T = D at *
  have hB := Bx.mk h
  clear h
  go_enter Tryz.func224, Tryz.ntmps224
  go_wp2_with fail
  go_loopw [1, 4] (fun vv dd wr => ∃ (m d : Nat) (U : List Int), vv = I m ∧ dd = I d ∧ d ≤ 9 ∧ m < 10 ^ (9 - d) ∧ (d = 0 ∨ 1 ≤ m) ∧ U.length = T.length + d ∧ decF (20 - d) m U = D ∧ FP wr B N U ∧ Fr (FmS B) w wr) (fun _ dd _ => 9 - (intOf dd).toNat)
  case atStart => exact ⟨v, 0, T, rfl, rfl, by omega, by show v < 1000000000; omega, .inl rfl, rfl, hD.out.symm, hB.out, Fr.refl _ _⟩
  case round =>
    clear hD hB
    obtain ⟨m, d, U, rfl, rfl, hd9, hm, hm1, hU, hD, hP, hfr⟩ := hrel
    have hd8 : d < 9 := by
      rcases Nat.lt_or_ge d 9 with h | h
      · exact h
      · have : d = 9 := by omega
        subst this; simp at hm; omega
    have hdd : decide ((d : Int) < 9) = true := decide_eq_true (by omega)
    have hm9 : (m : Int) ≤ 999999999 := by
      have : 10 ^ (9 - d) ≤ 10 ^ 9 := Nat.pow_le_pow_right (by omega) (by omega)
      omega
    have hr0 : (0 : Int) ≤ (m : Int) % 10 := by omega
    have hr1 : (m : Int) % 10 ≤ 9 := by omega
    have hdl : Bx ((m : Int) / 10 = ((m / 10 : Nat) : Int)) := Bx.mk (by omega)
    have hput : Bx (Calls Tryz.prog 203 #[pt B.f, Y (48 + (m : Int) % 10)] wr (Puts wr B N (((48 + m % 10 : Nat) : Int) :: U))) := Bx.mk (by
      have := putX B N U (48 + (m : Int) % 10) wr hP (by omega) (by omega)
      rw [show (48 + (m : Int) % 10) = ((48 + m % 10 : Nat) : Int) from by omega] at this ⊢
      exact this)
    rw [show 20 - d = (20 - (d + 1)) + 1 from by omega, decF_succ] at hD
    clear hP
    by_cases h0 : m / 10 = 0
    · rw [if_pos h0] at hD
      have hDB := Bx.mk hD
      have e0 : ((m : Int) / 10 == 0) = true := by simp; omega
      have e1 : (m : Int) / 10 = 0 := by omega
      clear hD h0 hm
      go_wp2_with (first | (go_at_call 203; refine hput.out.mono ?_; clear hput; rintro e w1 ⟨rfl, hP1, hf1⟩; have hP1 := Bx.mk hP1))
      go_end0
      exact ⟨rfl, by rw [← hDB.out]; exact hP1.out, hfr.trans hf1⟩
    · rw [if_neg h0] at hD
      have hDB := Bx.mk hD
      have e0 : ((m : Int) / 10 == 0) = false := by simp; omega
      have e1 : ¬ (m : Int) / 10 = 0 := by omega
      have hm2 : Bx (m / 10 < 10 ^ (9 - (d + 1))) := Bx.mk (by
        have : 10 ^ (9 - d) = 10 ^ (9 - (d + 1)) * 10 := by rw [show 9 - d = (9 - (d + 1)) + 1 from by omega, Nat.pow_succ]
        omega)
      clear hD hm
      go_wp2_with (first | (go_at_call 203; refine hput.out.mono ?_; clear hput; rintro e w1 ⟨rfl, hP1, hf1⟩; have hP1 := Bx.mk hP1))
      go_roundw
      case rel => exact ⟨m / 10, d + 1, _, by rw [← hdl.out], by go_num, by omega, hm2.out, .inr (by omega), by simp; omega, hDB.out, hP1.out, hfr.trans hf1⟩
      case measure => simp [intOf]; omega
set_option maxHeartbeats 1000000 in
theorem putOpX (B : FB) (N : Notes) (T : List Int) (op : Int) (w : World) (h : FP w B N T) (h1 : 1 ≤ op) (h2 : op ≤ 10) (hT : T.length + 2 ≤ 288) :
    Calls Tryz.prog 227 #[pt B.f, I op] w (Puts w B N (opTxt op ++ T)) := by
  have hop : op = 1 ∨ op = 2 ∨ op = 3 ∨ op = 4 ∨ op = 5 ∨ op = 6 ∨ op = 7 ∨ op = 8 ∨ op = 9 ∨ op = 10 := by omega
  have hone : ∀ c, 0 ≤ c ∧ c ≤ 255 → Calls Tryz.prog 203 #[pt B.f, Y c] w (Puts w B N (c :: T)) := fun c hc => putX B N T c w h hc (by omega)
  have htwo : ∀ c d wx, FP wx B N (d :: T) → 0 ≤ c ∧ c ≤ 255 → Calls Tryz.prog 203 #[pt B.f, Y c] wx (Puts wx B N (c :: d :: T)) := fun c d wx hx hc => putX B N (d :: T) c wx hx hc (by simp; omega)
  have hoB := Bx.mk hone
  have htB := Bx.mk htwo
  clear hone htwo h
  rcases hop with e | e | e | e | e | e | e | e | e | e <;> subst e <;> clear h1 h2
  all_goals (first
    | (go_enter Tryz.func227, Tryz.ntmps227
       go_wp2_with (first | (go_at_call 203; refine (hoB.out _ (by decide)).mono ?_; clear hoB; rintro e w1 ⟨rfl, hP1, hf1⟩; have hP1 := Bx.mk hP1) | (go_at_call 203; refine (htB.out _ _ _ hP1.out (by decide)).mono ?_; clear htB; rintro e w2 ⟨rfl, hP2, hf2⟩))
       go_end0
       first | exact ⟨rfl, hP2, hf1.trans hf2⟩ | exact ⟨rfl, hP1.out, hf1⟩))
set_option maxRecDepth 100000 in
set_option maxHeartbeats 1000000 in
theorem putRefX (B : FB) (N : Notes) (T : List Int) (r : Ref) (w : World) (h : FP w B N T) (hc0 : 0 ≤ r.col) (hc1 : r.col ≤ 25) (hr0 : 0 ≤ r.row) (hr1 : r.row ≤ 98) (hT : T.length + 12 ≤ 288) :
    Calls Tryz.prog 226 #[pt B.f, .agg #[I r.col, I r.row, .bool r.absC, .bool r.absR]] w (Puts w B N (refTxt r ++ T)) := by
  obtain ⟨rr, hrr⟩ : ∃ rr : Nat, r.row = rr := ⟨r.row.toNat, by omega⟩
  have hnew : Row (w.alloc (.cells #[I r.col, I r.row, .bool r.absC, .bool r.absR] 147)) w.heap.size 4 (fun k => match k with | 0 => I r.col | 1 => I r.row | 2 => .bool r.absC | _ => .bool r.absR) := Row.new _ _ _ _ _ rfl (by intro i hi; rcases i with _ | _ | _ | _ | i <;> first | rfl | omega)
  have hnb := Bx.mk (h.lts (Nat.le_refl w.heap.size))
  have hRw := Bx.mk hnew
  have hlen : (dec (r.row + 1)).length ≤ 2 := by
    rw [hrr]
    unfold dec
    rw [show ((rr : Int) + 1).toNat = rr + 1 from by omega, show (20 : Nat) = 18 + 1 + 1 from rfl, decF_succ]
    split
    · simp
    · rw [decF_succ, if_pos (by omega)]; simp
  have hnum : Calls Tryz.prog 224 #[pt B.f, I (r.row + 1)] (w.alloc (.cells #[I r.col, I r.row, .bool r.absC, .bool r.absR] 147)) (Puts (w.alloc (.cells #[I r.col, I r.row, .bool r.absC, .bool r.absR] 147)) B N (dec (r.row + 1) ++ T)) := by
    have := putNumX B N T (rr + 1) _ (h.alloc (.cells #[I r.col, I r.row, .bool r.absC, .bool r.absR] 147)) (by omega) (by omega)
    rw [show (((rr + 1 : Nat)) : Int) = r.row + 1 from by omega] at this
    exact this
  have hres : refTxt r ++ T = (if r.absC = true then [36] else []) ++ (65 + r.col) :: ((if r.absR = true then [36] else []) ++ (dec (r.row + 1) ++ T)) := by unfold refTxt; simp
  rw [hres]
  generalize dec (r.row + 1) = D at *
  have hnumB := Bx.mk hnum
  have hput : ∀ c U wx, FP wx B N U → 0 ≤ c ∧ c ≤ 255 → U.length < 288 → Calls Tryz.prog 203 #[pt B.f, Y c] wx (Puts wx B N (c :: U)) := fun c U wx hx hc hl => putX B N U c wx hx hc hl
  have hpB := Bx.mk hput
  clear hnew hnum hput h hres hrr
  have k1 : (0 : Int) ≤ 65 + r.col := by omega
  have k2 : (65 : Int) + r.col ≤ 255 := by omega
  have hl2 : (D ++ T).length + 5 ≤ 288 := by simp; omega
  cases hR : r.absR <;> cases hC : r.absC
  · rw [hR, hC] at hRw hnumB
    simp only [Bool.false_eq_true, if_false, if_true, List.nil_append, List.cons_append]
    go_enter Tryz.func226, Tryz.ntmps226
    go_wp2_with (first
      | (go_at_call 224; refine hnumB.out.mono ?_; clear hnumB; rintro e w1 ⟨rfl, hP1, hf1⟩; have hR1 := Bx.mk (hf1.row hRw.out hnb.out); have hP1 := Bx.mk hP1; have q0 := hR1.out.cell 0 (by omega); have q2 := hR1.out.cell 2 (by omega); have q3 := hR1.out.cell 3 (by omega); simp only at q0 q2 q3)
      | (go_at_call 203; refine (hpB.out (65 + r.col) _ _ hP1.out ⟨k1, k2⟩ (by simp at hl2 ⊢; omega)).mono ?_; rintro e w2 ⟨rfl, hP2, hf2⟩; have hR2 := Bx.mk (hf2.row hR1.out hnb.out); have hP2 := Bx.mk hP2; clear hP1; clear q0 q2 q3; have q0 := hR2.out.cell 0 (by omega); have q2 := hR2.out.cell 2 (by omega); have q3 := hR2.out.cell 3 (by omega); simp only at q0 q2 q3))
    go_end0
    exact ⟨rfl, hP2.out, (((Fr.refl _ _).alloc _).trans hf1).trans hf2⟩
  · rw [hR, hC] at hRw hnumB
    simp only [Bool.false_eq_true, if_false, if_true, List.nil_append, List.cons_append]
    go_enter Tryz.func226, Tryz.ntmps226
    go_wp2_with (first
      | (go_at_call 224; refine hnumB.out.mono ?_; clear hnumB; rintro e w1 ⟨rfl, hP1, hf1⟩; have hR1 := Bx.mk (hf1.row hRw.out hnb.out); have hP1 := Bx.mk hP1; have q0 := hR1.out.cell 0 (by omega); have q2 := hR1.out.cell 2 (by omega); have q3 := hR1.out.cell 3 (by omega); simp only at q0 q2 q3)
      | (go_at_call 203; refine (hpB.out (65 + r.col) _ _ hP1.out ⟨k1, k2⟩ (by simp at hl2 ⊢; omega)).mono ?_; rintro e w2 ⟨rfl, hP2, hf2⟩; have hR2 := Bx.mk (hf2.row hR1.out hnb.out); have hP2 := Bx.mk hP2; clear hP1; clear q0 q2 q3; have q0 := hR2.out.cell 0 (by omega); have q2 := hR2.out.cell 2 (by omega); have q3 := hR2.out.cell 3 (by omega); simp only at q0 q2 q3)
      | (go_at_call 203; refine (hpB.out _ _ _ hP2.out (by decide) (by simp at hl2 ⊢; omega)).mono ?_; rintro e w3 ⟨rfl, hP3, hf3⟩; have hR3 := Bx.mk (hf3.row hR2.out hnb.out); have hP3 := Bx.mk hP3; clear hP2; clear q0 q2 q3; have q0 := hR3.out.cell 0 (by omega); have q2 := hR3.out.cell 2 (by omega); have q3 := hR3.out.cell 3 (by omega); simp only at q0 q2 q3))
    go_end0
    exact ⟨rfl, hP3.out, ((((Fr.refl _ _).alloc _).trans hf1).trans hf2).trans hf3⟩
  · rw [hR, hC] at hRw hnumB
    simp only [Bool.false_eq_true, if_false, if_true, List.nil_append, List.cons_append]
    go_enter Tryz.func226, Tryz.ntmps226
    go_wp2_with (first
      | (go_at_call 224; refine hnumB.out.mono ?_; clear hnumB; rintro e w1 ⟨rfl, hP1, hf1⟩; have hR1 := Bx.mk (hf1.row hRw.out hnb.out); have hP1 := Bx.mk hP1; have q0 := hR1.out.cell 0 (by omega); have q2 := hR1.out.cell 2 (by omega); have q3 := hR1.out.cell 3 (by omega); simp only at q0 q2 q3)
      | (go_at_call 203; refine (hpB.out _ _ _ hP1.out (by decide) (by simp at hl2 ⊢; omega)).mono ?_; rintro e w2 ⟨rfl, hP2, hf2⟩; have hR2 := Bx.mk (hf2.row hR1.out hnb.out); have hP2 := Bx.mk hP2; clear hP1; clear q0 q2 q3; have q0 := hR2.out.cell 0 (by omega); have q2 := hR2.out.cell 2 (by omega); have q3 := hR2.out.cell 3 (by omega); simp only at q0 q2 q3)
      | (go_at_call 203; refine (hpB.out (65 + r.col) _ _ hP2.out ⟨k1, k2⟩ (by simp at hl2 ⊢; omega)).mono ?_; rintro e w3 ⟨rfl, hP3, hf3⟩; have hR3 := Bx.mk (hf3.row hR2.out hnb.out); have hP3 := Bx.mk hP3; clear hP2; clear q0 q2 q3; have q0 := hR3.out.cell 0 (by omega); have q2 := hR3.out.cell 2 (by omega); have q3 := hR3.out.cell 3 (by omega); simp only at q0 q2 q3))
    go_end0
    exact ⟨rfl, hP3.out, ((((Fr.refl _ _).alloc _).trans hf1).trans hf2).trans hf3⟩
  · rw [hR, hC] at hRw hnumB
    simp only [Bool.false_eq_true, if_false, if_true, List.nil_append, List.cons_append]
    go_enter Tryz.func226, Tryz.ntmps226
    go_wp2_with (first
      | (go_at_call 224; refine hnumB.out.mono ?_; clear hnumB; rintro e w1 ⟨rfl, hP1, hf1⟩; have hR1 := Bx.mk (hf1.row hRw.out hnb.out); have hP1 := Bx.mk hP1; have q0 := hR1.out.cell 0 (by omega); have q2 := hR1.out.cell 2 (by omega); have q3 := hR1.out.cell 3 (by omega); simp only at q0 q2 q3)
      | (go_at_call 203; refine (hpB.out _ _ _ hP1.out (by decide) (by simp at hl2 ⊢; omega)).mono ?_; rintro e w2 ⟨rfl, hP2, hf2⟩; have hR2 := Bx.mk (hf2.row hR1.out hnb.out); have hP2 := Bx.mk hP2; clear hP1; clear q0 q2 q3; have q0 := hR2.out.cell 0 (by omega); have q2 := hR2.out.cell 2 (by omega); have q3 := hR2.out.cell 3 (by omega); simp only at q0 q2 q3)
      | (go_at_call 203; refine (hpB.out (65 + r.col) _ _ hP2.out ⟨k1, k2⟩ (by simp at hl2 ⊢; omega)).mono ?_; rintro e w3 ⟨rfl, hP3, hf3⟩; have hR3 := Bx.mk (hf3.row hR2.out hnb.out); have hP3 := Bx.mk hP3; clear hP2; clear q0 q2 q3; have q0 := hR3.out.cell 0 (by omega); have q2 := hR3.out.cell 2 (by omega); have q3 := hR3.out.cell 3 (by omega); simp only at q0 q2 q3)
      | (go_at_call 203; refine (hpB.out _ _ _ hP3.out (by decide) (by simp at hl2 ⊢; omega)).mono ?_; rintro e w4 ⟨rfl, hP4, hf4⟩; have hR4 := Bx.mk (hf4.row hR3.out hnb.out); have hP4 := Bx.mk hP4; clear hP3; clear q0 q2 q3; have q0 := hR4.out.cell 0 (by omega); have q2 := hR4.out.cell 2 (by omega); have q3 := hR4.out.cell 3 (by omega); simp only at q0 q2 q3))
    go_end0
    exact ⟨rfl, hP4.out, (((((Fr.refl _ _).alloc _).trans hf1).trans hf2).trans hf3).trans hf4⟩
end Go.Proofs.Qxb6500326aGreat
