import Derived.Test.Qxb6500326aGreatL5
namespace Go.Proofs.Qxb6500326aGreat
set_option maxRecDepth 100000
set_option linter.unusedVariables false
set_option linter.unusedSimpArgs false
open Go.RowKit Go.PlainAid
section
variable {w w' w1 : World} {ρ ρ' ρ1 : Nat → Nat} {D : Ad} {T T' S : Tx} {past next past' next' : List Tx} {d : Dk} {va vp vn : Value} {A : XA}
set_option maxHeartbeats 1000000 in
theorem mark_any (v : Value) (w : World) : Calls Tryz.prog 23 #[.agg #[v]] w fun e w' => e = .returned (.tuple #[]) ∧ Fr S0 w w' := by
  go_enter Tryz.func23, Tryz.ntmps23
  go_wp2_with fail
  go_end0
  exact ⟨rfl, (Fr.refl _ _).alloc _⟩
set_option maxHeartbeats 1000000 in
theorem sets_any (v : Value) (w : World) : Calls Tryz.prog 25 #[.agg #[v]] w fun e w' => e = .returned (I (-1)) ∧ Fr S0 w w' := by
  go_enter Tryz.func25, Tryz.ntmps25
  go_wp2_with fail
  go_ret
  exact ⟨rfl, (Fr.refl _ _).alloc _⟩
set_option maxHeartbeats 1000000 in
theorem work_any (k n t : Int) (w : World) : Calls Tryz.prog 26 #[I k, I n, I t, I (-1)] w fun e w' => e = .returned (.bool true) ∧ w = w' := by
  go_enter Tryz.func26, Tryz.ntmps26
  go_wp2_with fail
  go_ret
  exact ⟨rfl, rfl⟩
set_option maxHeartbeats 4000000 in
theorem handed_any {kn : Nat} (w : World) (h : XB w A T) (hr : Row w kn 24 (fun j => .string (T j))) : Calls Tryz.prog 27 #[.agg #[pt A.xe], sl kn 24 24] w fun e w' => e = .returned (.bool true) ∧ Fr S0 w w' := by
  have hfa : Bx (Fr S0 w (w.alloc (.cells #[pt A.xe] 43))) := ⟨(Fr.refl S0 w).alloc _⟩
  have hcell := Bx.mk (cell_one w (pt A.xe) 43)
  have hl0 : Bx (w.heap.size < (w.alloc (.cells #[pt A.xe] 43)).heap.size) := ⟨(Row.new w #[pt A.xe] 43 1 (fun _ => pt A.xe) rfl (fun i hi => by match i, hi with
    | 0, _ => rfl)).lt⟩
  have hX : Bx (∀ wx, Fr S0 w wx → ∀ k : Nat, k < 24 → Calls Tryz.prog 52 #[pt A.xe, I k] wx fun e w' => e = .returned (.string (T k)) ∧ wx = w') := ⟨fun wx hx k hk => by have := xb_raw (h.fr hx (fun _ _ e => e)) (k : Int); rw [rawP_at hk] at this; exact this⟩
  replace hr := Bx.mk hr
  clear h
  go_enter Tryz.func27, Tryz.ntmps27
  go_wp2_with fail
  generalize hwa : w.alloc (.cells #[pt A.xe] 43) = wa at *
  generalize hHH : w.heap.size = g at *
  clear hwa hHH
  go_loopw [5] (fun c wr => ∃ k : Nat, k ≤ 24 ∧ c = I (k : Int) ∧ Bx (Fr S0 wa wr)) (fun c _ => 24 - (intOf c).toNat)
  case atStart => exact ⟨0, by omega, rfl, ⟨Fr.refl _ _⟩⟩
  case round =>
    obtain ⟨k, hk, rfl, hf⟩ := hrel
    cases hlt : decide ((k : Int) < 24)
    · go_wp2_with fail
      go_ret
      exact ⟨rfl, hfa.out.trans hf.out⟩
    · have hk24 : k < 24 := by simp at hlt; omega
      have hkI : (k : Int) < 24 := by omega
      have hrr := (hfa.out.trans hf.out).row0 hr.out
      have m0 := hrr.cell k hk24
      have l0 := hrr.lt
      have cg : wr.cell? ⟨g, 0, none⟩ = some (pt A.xe) := by rw [hf.out.cell (a := ⟨g, 0, none⟩) hl0.out (fun e => e)]; exact hcell.out
      have lg : g < wr.heap.size := by have := hf.out.size; have := hl0.out; omega
      have hv : Bx (∀ wx, Fr S0 wr wx → Calls Tryz.prog 52 #[pt A.xe, I k] wx fun e w' => e = .returned (.string (T k)) ∧ wx = w') := ⟨fun wx hx => hX.out wx ((hfa.out.trans hf.out).trans hx) k hk24⟩
      have fd : Bx (∀ n, Fr S0 wr (wr.drewN n)) := ⟨fun n => (Fr.refl S0 wr).drewN n⟩
      clear hrr
      generalize T k = y at m0 hv
      go_wp2_with fail
      go_quiet (first | (go_at_call 52; exact (hv.out _ (fd.out _)).mono (fun e w' h => ⟨h.1, _, h.2.symm⟩)))
      go_wp2_with fail
      go_roundw
      case rel => exact ⟨k + 1, by omega, by go_num, ⟨hf.out.drewN _⟩⟩
      case measure => simp [intOf]; omega
set_option maxHeartbeats 8000000 in
theorem shown_any {mk : Nat} {M : YA} (w : World) (h : XB w A T) (hm : BM w ρ mk M T past next) : Calls Tryz.prog 31 #[.agg #[pt A.xe], pt mk] w fun e w' => e = .returned (.bool true) ∧ Fr S0 w w' := by
  obtain ⟨E, hE, h1⟩ := xb_val h
  obtain ⟨E', hE', h2⟩ := bmValue_any w hm
  have hfa : Bx (Fr S0 w (w.alloc (.cells #[pt A.xe] 43))) := ⟨(Fr.refl S0 w).alloc _⟩
  have hcell := Bx.mk (cell_one w (pt A.xe) 43)
  have hl0 : Bx (w.heap.size < (w.alloc (.cells #[pt A.xe] 43)).heap.size) := ⟨(Row.new w #[pt A.xe] 43 1 (fun _ => pt A.xe) rfl (fun i hi => by match i, hi with
    | 0, _ => rfl)).lt⟩
  replace h1 := Bx.mk h1
  replace h2 : Bx (∀ (c : Int) w', Fr S0 w w' → Calls Tryz.prog 64 #[pt mk, I c] w' (VR w' (valP E c))) := ⟨fun c w' f => by rw [valP_same hE hE' c]; exact h2 c w' f⟩
  clear h hm hE hE'
  go_enter Tryz.func31, Tryz.ntmps31
  go_wp2_with fail
  generalize hwa : w.alloc (.cells #[pt A.xe] 43) = wa at *
  generalize hHH : w.heap.size = g at *
  clear hwa hHH
  go_loopw [5] (fun c wr => ∃ k : Nat, k ≤ 24 ∧ c = I (k : Int) ∧ Bx (Fr S0 wa wr)) (fun c _ => 24 - (intOf c).toNat)
  case atStart => exact ⟨0, by omega, rfl, ⟨Fr.refl _ _⟩⟩
  case round =>
    obtain ⟨k, hk, rfl, hf⟩ := hrel
    cases hlt : decide ((k : Int) < 24)
    · go_wp2_with fail
      go_ret
      exact ⟨rfl, hfa.out.trans hf.out⟩
    · have hk24 : k < 24 := by simp at hlt; omega
      have hkI : (k : Int) < 24 := by omega
      have cg : wr.cell? ⟨g, 0, none⟩ = some (pt A.xe) := by rw [hf.out.cell (a := ⟨g, 0, none⟩) hl0.out (fun e => e)]; exact hcell.out
      have lg : g < wr.heap.size := by have := hf.out.size; have := hl0.out; omega
      have hv1 := Bx.mk (h1.out k wr (hfa.out.trans hf.out))
      have hv2 : Bx (∀ wx, Fr S0 wr wx → Calls Tryz.prog 64 #[pt mk, I k] wx (VR wx (valP E k))) := ⟨fun wx hx => h2.out k wx ((hfa.out.trans hf.out).trans hx)⟩
      generalize valP E (k : Int) = y at hv1 hv2
      have hrun : ∀ u : World, (binOp .neq 92 (vV y) (vV y)).run Tryz.prog u = .ok (.bool false) u := fun u => by rw [neq_v, vEq_self]; rfl
      have hgd : ∀ u : World, (eqGuard .neq 92 (.tmp 19) (.tmp 20) (vV y) (vV y)).run Tryz.prog u = .ok () u := fun u => guard_v _ _ _ _ u
      go_wp2_with (first
        | (go_at_call 63; refine hv1.out.mono ?_; clear hv1; rintro e w1 ⟨rfl, hf1⟩; have hw1 := Bx.mk (v_new w1 y 92 rfl); have hf1 := Bx.mk (hf1.alloc (.cells (vA y) 92)))
        | (go_at_call 64; refine (hv2.out _ hf1.out).mono ?_; clear hv2; rintro e w2 ⟨rfl, hf2⟩; have hw2 := Bx.mk (hf2.row0 hw1.out); obtain ⟨q0, q1, q2, -, -, -⟩ := hw2.out.v3; have hlq := hw2.out.lt; have hf2 := Bx.mk ((hf1.out.trans hf2).alloc (.cells (vA y) 92))))
      go_roundw
      case rel => exact ⟨k + 1, by omega, by go_num, ⟨hf.out.trans hf2.out⟩⟩
      case measure => simp [intOf]; omega
set_option maxHeartbeats 2000000 in
theorem ghosts_any (w : World) (h : WS w ρ D T past next d) : Calls Tryz.prog 32 #[pt D.mb, pt D.dk] w fun e w' => e = .returned (.bool true) ∧ w = w' := by
  have h1 := Bx.mk (bmUndos_any w h.bm)
  have h2 := Bx.mk (bmRedos_any w h.bm)
  obtain ⟨va, vp, vn, hd⟩ := h.ds
  obtain ⟨ao, cap, rfl⟩ := hd.pt.shape rfl
  obtain ⟨ao2, cap2, rfl⟩ := hd.nt.shape rfl
  obtain ⟨c0, c1, c2, c3, c4, c5, hl, hz⟩ := hd.cells
  clear h hd hz
  generalize past.length = p at *
  generalize next.length = q at *
  have e1 : ((p : Int) == (p : Int)) = true := by simp
  have e2 : ((q : Int) == (q : Int)) = true := by simp
  go_enter Tryz.func32, Tryz.ntmps32
  go_wp2_with (first
    | (go_at_call 65; refine h1.out.mono ?_; clear h1; rintro e _ ⟨rfl, rfl⟩)
    | (go_at_call 66; refine h2.out.mono ?_; clear h2; rintro e _ ⟨rfl, rfl⟩))
  go_ret
  exact ⟨by simp, rfl⟩
set_option maxHeartbeats 4000000 in
theorem put_law {ka kb : Nat} (c : Int) (s : ByteArray) (w : World) (ha : Row w ka 24 (fun j => .string (T j))) (hb : Row w kb 24 (fun j => .string (T' j))) (hT : ∀ k : Nat, k < 24 → T' k = if (k : Int) = c then s else T k) : Calls Tryz.prog 33 #[sl ka 24 24, sl kb 24 24, I c, .string s] w fun e w' => e = .returned (.bool true) ∧ w = w' := by
  replace ha := Bx.mk ha
  replace hb := Bx.mk hb
  replace hT := Bx.mk hT
  go_enter Tryz.func33, Tryz.ntmps33
  go_wp2_with fail
  go_loopw [9] (fun c wr => ∃ k : Nat, k ≤ 24 ∧ c = I (k : Int) ∧ w = wr) (fun c _ => 24 - (intOf c).toNat)
  case atStart => exact ⟨0, by omega, rfl, rfl⟩
  case round =>
    obtain ⟨k, hk, rfl, rfl⟩ := hrel
    cases hlt : decide ((k : Int) < 24)
    · go_wp2_with fail
      go_ret
      exact ⟨rfl, rfl⟩
    · have hk24 : k < 24 := by simp at hlt; omega
      have hkI : (k : Int) < 24 := by omega
      have m0 := ha.out.cell k hk24
      have m1 := hb.out.cell k hk24
      have l0 := ha.out.lt
      have l1 := hb.out.lt
      rw [hT.out k hk24] at m1
      by_cases hc : (k : Int) = c
      · rw [if_pos hc] at m1
        have hcd : ((k : Int) == c) = true := by simp [hc]
        replace hc := Bx.mk hc
        generalize T k = y at m0
        go_wp2_with fail
        go_roundw
        case rel => exact ⟨k + 1, by omega, by go_num, trivial⟩
        case measure => simp [intOf]; omega
      · rw [if_neg hc] at m1
        have hcd : ((k : Int) == c) = false := by simp [hc]
        replace hc := Bx.mk hc
        generalize T k = y at m0 m1
        go_wp2_with fail
        go_roundw
        case rel => exact ⟨k + 1, by omega, by go_num, trivial⟩
        case measure => simp [intOf]; omega
end
end Go.Proofs.Qxb6500326aGreat
