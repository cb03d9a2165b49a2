import Derived.Test.Qxb6500326aGreatU3
namespace Go.Proofs.Qxb6500326aGreat
set_option maxRecDepth 100000
set_option linter.unusedVariables false
set_option linter.unusedSimpArgs false
open Go.RowKit Go.PlainAid
theorem one_cell (w : World) (c : Int) (B : Nat) (T : TypeId) (hB : w.heap.size = B) : ∀ j (h : j < [c].length), (w.alloc (.cells #[Y c] T)).cell? ⟨B, 0 + j, none⟩ = some (Y [c][j]) := by
  subst hB
  intro j hj
  have : j = 0 := by simpa using hj
  subst this
  have h2 := heap_alloc_new w (.cells #[Y c] T)
  unfold World.cell?
  simp only [h2]
  rfl
theorem dec_lenW (v : Int) (hv : v.toNat < 1000000000) : (dec v).length ≤ 20 := by
  have : ∀ (f v : Nat) (T : List Int), (decF f v T).length ≤ T.length + f := by
    intro f
    induction f with
    | zero => intro v T; simp [decF]
    | succ f ih =>
      intro v T
      rw [decF_succ]
      split
      · simp
      · have := ih (v / 10) (((48 + v % 10 : Nat) : Int) :: T)
        simp at this ⊢; omega
  have := this 20 v.toNat []
  simpa [dec] using this
set_option maxRecDepth 100000 in
set_option maxHeartbeats 1000000 in
theorem refText_false_false (col : Int) (row : Nat) (h1 : 0 ≤ col) (h2 : col ≤ 25) (h4 : row ≤ 98) (w : World) :
    Calls Tryz.prog 178 #[refV ⟨col, row, false, false⟩] w fun e w' => e = .returned (.string (bs (refTxt ⟨col, row, false, false⟩))) ∧ Fr S0 w w' := by
  have hdl := dec_lenW ((row : Int) + 1) (by omega)
  have hc := Bx.mk (one_cell (w.alloc (.cells #[I col, I (row : Int), .bool false, .bool false] 147)) (65 + col) (w.heap.size + 1) 5 (by simp))
  have hI : Bx (Calls Tryz.prog 177 #[I ((row : Int) + 1)] ((w.alloc (.cells #[I col, I (row : Int), .bool false, .bool false] 147)).alloc (.cells #[Y (65 + col)] 5)) fun e w' => e = .returned (.string (bs (dec ((row : Int) + 1)))) ∧ Fr S0 ((w.alloc (.cells #[I col, I (row : Int), .bool false, .bool false] 147)).alloc (.cells #[Y (65 + col)] 5)) w') := Bx.mk (by
    have := itoa_any (row + 1) ((w.alloc (.cells #[I col, I (row : Int), .bool false, .bool false] 147)).alloc (.cells #[Y (65 + col)] 5)) (by omega)
    rw [show ((row + 1 : Nat) : Int) = (row : Int) + 1 from by omega] at this
    exact this)
  go_enter Tryz.func178, Tryz.ntmps178
  go_wp2_with (first
    | (refine wpList_bytes_str rfl (.tmp 11) (by rfl) (w.heap.size + 1) 0 1 1 [65 + col] (by rfl) rfl hc.out ?_)
    | (refine wpList_add_str rfl (.tmp 6) (.tmp 12) (by rfl) [] [65 + col] (by rfl) (by rfl) (by simp) ?_)
    | (go_at_call 177; refine hI.out.mono ?_; clear hI; rintro e w1 ⟨rfl, hf1⟩)
    | (refine wpList_add_str rfl (.tmp 18) (.tmp 22) (by rfl) ([] ++ [65 + col]) (dec ((row : Int) + 1)) (by rfl) (by rfl) (by simp; omega) ?_))
  go_ret
  refine ⟨?_, (((Fr.refl _ _).alloc _).alloc _).trans hf1⟩
  simp [refTxt]
set_option maxRecDepth 100000 in
set_option maxHeartbeats 1000000 in
theorem refText_false_true (col : Int) (row : Nat) (h1 : 0 ≤ col) (h2 : col ≤ 25) (h4 : row ≤ 98) (w : World) :
    Calls Tryz.prog 178 #[refV ⟨col, row, false, true⟩] w fun e w' => e = .returned (.string (bs (refTxt ⟨col, row, false, true⟩))) ∧ Fr S0 w w' := by
  have hdl := dec_lenW ((row : Int) + 1) (by omega)
  have hc := Bx.mk (one_cell (w.alloc (.cells #[I col, I (row : Int), .bool false, .bool true] 147)) (65 + col) (w.heap.size + 1) 5 (by simp))
  have hI : Bx (Calls Tryz.prog 177 #[I ((row : Int) + 1)] ((w.alloc (.cells #[I col, I (row : Int), .bool false, .bool true] 147)).alloc (.cells #[Y (65 + col)] 5)) fun e w' => e = .returned (.string (bs (dec ((row : Int) + 1)))) ∧ Fr S0 ((w.alloc (.cells #[I col, I (row : Int), .bool false, .bool true] 147)).alloc (.cells #[Y (65 + col)] 5)) w') := Bx.mk (by
    have := itoa_any (row + 1) ((w.alloc (.cells #[I col, I (row : Int), .bool false, .bool true] 147)).alloc (.cells #[Y (65 + col)] 5)) (by omega)
    rw [show ((row + 1 : Nat) : Int) = (row : Int) + 1 from by omega] at this
    exact this)
  go_enter Tryz.func178, Tryz.ntmps178
  go_wp2_with (first
    | (refine wpList_bytes_str rfl (.tmp 11) (by rfl) (w.heap.size + 1) 0 1 1 [65 + col] (by rfl) rfl hc.out ?_)
    | (refine wpList_add_str rfl (.tmp 6) (.tmp 12) (by rfl) [] [65 + col] (by rfl) (by rfl) (by simp) ?_)
    | (refine wpList_add_str rfl (.tmp 16) (.const (.string ⟨#[36]⟩)) (by rfl) ([] ++ [65 + col]) [36] (by rfl) (by rfl) (by simp) ?_)
    | (go_at_call 177; refine hI.out.mono ?_; clear hI; rintro e w1 ⟨rfl, hf1⟩)
    | (refine wpList_add_str rfl (.tmp 18) (.tmp 22) (by rfl) (([] ++ [65 + col]) ++ [36]) (dec ((row : Int) + 1)) (by rfl) (by rfl) (by simp; omega) ?_))
  go_ret
  refine ⟨?_, (((Fr.refl _ _).alloc _).alloc _).trans hf1⟩
  simp [refTxt]
set_option maxRecDepth 100000 in
set_option maxHeartbeats 1000000 in
theorem refText_true_false (col : Int) (row : Nat) (h1 : 0 ≤ col) (h2 : col ≤ 25) (h4 : row ≤ 98) (w : World) :
    Calls Tryz.prog 178 #[refV ⟨col, row, true, false⟩] w fun e w' => e = .returned (.string (bs (refTxt ⟨col, row, true, false⟩))) ∧ Fr S0 w w' := by
  have hdl := dec_lenW ((row : Int) + 1) (by omega)
  have hc := Bx.mk (one_cell (w.alloc (.cells #[I col, I (row : Int), .bool true, .bool false] 147)) (65 + col) (w.heap.size + 1) 5 (by simp))
  have hI : Bx (Calls Tryz.prog 177 #[I ((row : Int) + 1)] ((w.alloc (.cells #[I col, I (row : Int), .bool true, .bool false] 147)).alloc (.cells #[Y (65 + col)] 5)) fun e w' => e = .returned (.string (bs (dec ((row : Int) + 1)))) ∧ Fr S0 ((w.alloc (.cells #[I col, I (row : Int), .bool true, .bool false] 147)).alloc (.cells #[Y (65 + col)] 5)) w') := Bx.mk (by
    have := itoa_any (row + 1) ((w.alloc (.cells #[I col, I (row : Int), .bool true, .bool false] 147)).alloc (.cells #[Y (65 + col)] 5)) (by omega)
    rw [show ((row + 1 : Nat) : Int) = (row : Int) + 1 from by omega] at this
    exact this)
  go_enter Tryz.func178, Tryz.ntmps178
  go_wp2_with (first
    | (refine wpList_bytes_str rfl (.tmp 11) (by rfl) (w.heap.size + 1) 0 1 1 [65 + col] (by rfl) rfl hc.out ?_)
    | (refine wpList_add_str rfl (.tmp 6) (.tmp 12) (by rfl) [36] [65 + col] (by rfl) (by rfl) (by simp) ?_)
    | (go_at_call 177; refine hI.out.mono ?_; clear hI; rintro e w1 ⟨rfl, hf1⟩)
    | (refine wpList_add_str rfl (.tmp 18) (.tmp 22) (by rfl) ([36] ++ [65 + col]) (dec ((row : Int) + 1)) (by rfl) (by rfl) (by simp; omega) ?_))
  go_ret
  refine ⟨?_, (((Fr.refl _ _).alloc _).alloc _).trans hf1⟩
  simp [refTxt]
set_option maxRecDepth 100000 in
set_option maxHeartbeats 1000000 in
theorem refText_true_true (col : Int) (row : Nat) (h1 : 0 ≤ col) (h2 : col ≤ 25) (h4 : row ≤ 98) (w : World) :
    Calls Tryz.prog 178 #[refV ⟨col, row, true, true⟩] w fun e w' => e = .returned (.string (bs (refTxt ⟨col, row, true, true⟩))) ∧ Fr S0 w w' := by
  have hdl := dec_lenW ((row : Int) + 1) (by omega)
  have hc := Bx.mk (one_cell (w.alloc (.cells #[I col, I (row : Int), .bool true, .bool true] 147)) (65 + col) (w.heap.size + 1) 5 (by simp))
  have hI : Bx (Calls Tryz.prog 177 #[I ((row : Int) + 1)] ((w.alloc (.cells #[I col, I (row : Int), .bool true, .bool true] 147)).alloc (.cells #[Y (65 + col)] 5)) fun e w' => e = .returned (.string (bs (dec ((row : Int) + 1)))) ∧ Fr S0 ((w.alloc (.cells #[I col, I (row : Int), .bool true, .bool true] 147)).alloc (.cells #[Y (65 + col)] 5)) w') := Bx.mk (by
    have := itoa_any (row + 1) ((w.alloc (.cells #[I col, I (row : Int), .bool true, .bool true] 147)).alloc (.cells #[Y (65 + col)] 5)) (by omega)
    rw [show ((row + 1 : Nat) : Int) = (row : Int) + 1 from by omega] at this
    exact this)
  go_enter Tryz.func178, Tryz.ntmps178
  go_wp2_with (first
    | (refine wpList_bytes_str rfl (.tmp 11) (by rfl) (w.heap.size + 1) 0 1 1 [65 + col] (by rfl) rfl hc.out ?_)
    | (refine wpList_add_str rfl (.tmp 6) (.tmp 12) (by rfl) [36] [65 + col] (by rfl) (by rfl) (by simp) ?_)
    | (refine wpList_add_str rfl (.tmp 16) (.const (.string ⟨#[36]⟩)) (by rfl) ([36] ++ [65 + col]) [36] (by rfl) (by rfl) (by simp) ?_)
    | (go_at_call 177; refine hI.out.mono ?_; clear hI; rintro e w1 ⟨rfl, hf1⟩)
    | (refine wpList_add_str rfl (.tmp 18) (.tmp 22) (by rfl) (([36] ++ [65 + col]) ++ [36]) (dec ((row : Int) + 1)) (by rfl) (by rfl) (by simp; omega) ?_))
  go_ret
  refine ⟨?_, (((Fr.refl _ _).alloc _).alloc _).trans hf1⟩
  simp [refTxt]
theorem refText_any (r : Ref) (h : refIn r) (w : World) : Calls Tryz.prog 178 #[refV r] w fun e w' => e = .returned (.string (bs (refTxt r))) ∧ Fr S0 w w' := by
  obtain ⟨col, row, ac, ar⟩ := r
  obtain ⟨h1, h2, h3, h4⟩ := h
  simp only at h1 h2 h3 h4
  obtain ⟨q, rfl⟩ := Int.eq_ofNat_of_zero_le h3
  cases ac <;> cases ar
  · exact refText_false_false col q h1 h2 (by omega) w
  · exact refText_false_true col q h1 h2 (by omega) w
  · exact refText_true_false col q h1 h2 (by omega) w
  · exact refText_true_true col q h1 h2 (by omega) w
end Go.Proofs.Qxb6500326aGreat
