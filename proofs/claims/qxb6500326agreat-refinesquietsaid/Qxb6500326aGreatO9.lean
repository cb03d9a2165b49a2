import Derived.Test.Qxb6500326aGreatO7
import Derived.BigRegion
namespace Go.Proofs.Qxb6500326aGreat
set_option maxRecDepth 100000
set_option linter.unusedVariables false
set_option linter.unusedSimpArgs false
open Go.RowKit Go.PlainAid
theorem sheet_f {u v : Int} {a b : Bool} (h : decide (0 ≤ u) = false ∨ decide (u ≤ 25) = false ∨ decide (0 ≤ v) = false ∨ decide (v ≤ 98) = false) : inSheet ⟨u, v, a, b⟩ = false := by
  unfold inSheet
  rcases h with h | h | h | h <;> rw [h] <;> simp
theorem sheet_t {u v : Int} {a b : Bool} (h1 : decide (0 ≤ u) = true) (h2 : decide (u ≤ 25) = true) (h3 : decide (0 ≤ v) = true) (h4 : decide (v ≤ 98) = true) : inSheet ⟨u, v, a, b⟩ = true := by
  unfold inSheet
  rw [h1, h2, h3, h4]; rfl

set_option maxHeartbeats 4000000 in
theorem slide_00 (dc dr : Int) (co ro : Int) (w : World) (b1 : -1000 ≤ co) (b2 : co ≤ 1000) (b3 : -1000 ≤ ro) (b4 : ro ≤ 1000) (c1 : -100 ≤ dc) (c2 : dc ≤ 100) (r1 : -100 ≤ dr) (r2 : dr ≤ 100) :
    Calls Tryz.prog 151 #[refV ⟨co, ro, false, false⟩, I dc, I dr] w fun e w' => e = .returned (.tuple #[refV ⟨co + dc, ro + dr, false, false⟩, .bool (inSheet ⟨co + dc, ro + dr, false, false⟩)]) ∧ Fr S0 w w' := by
  cases d1 : decide (0 ≤ co + dc)
  · rw [sheet_f (u := co + dc) (v := ro + dr) (.inl d1)]
    go_enter Tryz.func151, Tryz.ntmps151
    go_wp2_with fail
    go_region
    go_wp2_with fail
    go_returns
    exact ⟨rfl, (((Fr.refl _ _).alloc _).alloc _).drew⟩
  · cases d2 : decide (co + dc ≤ 25)
    · rw [sheet_f (u := co + dc) (v := ro + dr) (.inr (.inl d2))]
      go_enter Tryz.func151, Tryz.ntmps151
      go_wp2_with fail
      go_region
      go_wp2_with fail
      go_returns
      exact ⟨rfl, (((Fr.refl _ _).alloc _).alloc _).drew⟩
    · cases d3 : decide (0 ≤ ro + dr)
      · rw [sheet_f (u := co + dc) (v := ro + dr) (.inr (.inr (.inl d3)))]
        go_enter Tryz.func151, Tryz.ntmps151
        go_wp2_with fail
        go_region
        go_wp2_with fail
        go_returns
        exact ⟨rfl, (((Fr.refl _ _).alloc _).alloc _).drew⟩
      · cases d4 : decide (ro + dr ≤ 98)
        · rw [sheet_f (u := co + dc) (v := ro + dr) (.inr (.inr (.inr d4)))]
          go_enter Tryz.func151, Tryz.ntmps151
          go_wp2_with fail
          go_region
          go_wp2_with fail
          go_returns
          exact ⟨rfl, (((Fr.refl _ _).alloc _).alloc _).drew⟩
        · rw [sheet_t (u := co + dc) (v := ro + dr) d1 d2 d3 d4]
          go_enter Tryz.func151, Tryz.ntmps151
          go_wp2_with fail
          go_region
          go_wp2_with fail
          go_returns
          exact ⟨rfl, (((Fr.refl _ _).alloc _).alloc _).drew⟩

set_option maxHeartbeats 4000000 in
theorem slide_01 (dc dr : Int) (co ro : Int) (w : World) (b1 : -1000 ≤ co) (b2 : co ≤ 1000) (b3 : -1000 ≤ ro) (b4 : ro ≤ 1000) (c1 : -100 ≤ dc) (c2 : dc ≤ 100) (r1 : -100 ≤ dr) (r2 : dr ≤ 100) :
    Calls Tryz.prog 151 #[refV ⟨co, ro, false, true⟩, I dc, I dr] w fun e w' => e = .returned (.tuple #[refV ⟨co + dc, ro, false, true⟩, .bool (inSheet ⟨co + dc, ro, false, true⟩)]) ∧ Fr S0 w w' := by
  cases d1 : decide (0 ≤ co + dc)
  · rw [sheet_f (u := co + dc) (v := ro) (.inl d1)]
    go_enter Tryz.func151, Tryz.ntmps151
    go_wp2_with fail
    go_region
    go_wp2_with fail
    go_returns
    exact ⟨rfl, (((Fr.refl _ _).alloc _).alloc _).drew⟩
  · cases d2 : decide (co + dc ≤ 25)
    · rw [sheet_f (u := co + dc) (v := ro) (.inr (.inl d2))]
      go_enter Tryz.func151, Tryz.ntmps151
      go_wp2_with fail
      go_region
      go_wp2_with fail
      go_returns
      exact ⟨rfl, (((Fr.refl _ _).alloc _).alloc _).drew⟩
    · cases d3 : decide (0 ≤ ro)
      · rw [sheet_f (u := co + dc) (v := ro) (.inr (.inr (.inl d3)))]
        go_enter Tryz.func151, Tryz.ntmps151
        go_wp2_with fail
        go_region
        go_wp2_with fail
        go_returns
        exact ⟨rfl, (((Fr.refl _ _).alloc _).alloc _).drew⟩
      · cases d4 : decide (ro ≤ 98)
        · rw [sheet_f (u := co + dc) (v := ro) (.inr (.inr (.inr d4)))]
          go_enter Tryz.func151, Tryz.ntmps151
          go_wp2_with fail
          go_region
          go_wp2_with fail
          go_returns
          exact ⟨rfl, (((Fr.refl _ _).alloc _).alloc _).drew⟩
        · rw [sheet_t (u := co + dc) (v := ro) d1 d2 d3 d4]
          go_enter Tryz.func151, Tryz.ntmps151
          go_wp2_with fail
          go_region
          go_wp2_with fail
          go_returns
          exact ⟨rfl, (((Fr.refl _ _).alloc _).alloc _).drew⟩

set_option maxHeartbeats 4000000 in
theorem slide_10 (dc dr : Int) (co ro : Int) (w : World) (b1 : -1000 ≤ co) (b2 : co ≤ 1000) (b3 : -1000 ≤ ro) (b4 : ro ≤ 1000) (c1 : -100 ≤ dc) (c2 : dc ≤ 100) (r1 : -100 ≤ dr) (r2 : dr ≤ 100) :
    Calls Tryz.prog 151 #[refV ⟨co, ro, true, false⟩, I dc, I dr] w fun e w' => e = .returned (.tuple #[refV ⟨co, ro + dr, true, false⟩, .bool (inSheet ⟨co, ro + dr, true, false⟩)]) ∧ Fr S0 w w' := by
  cases d1 : decide (0 ≤ co)
  · rw [sheet_f (u := co) (v := ro + dr) (.inl d1)]
    go_enter Tryz.func151, Tryz.ntmps151
    go_wp2_with fail
    go_region
    go_wp2_with fail
    go_returns
    exact ⟨rfl, (((Fr.refl _ _).alloc _).alloc _).drew⟩
  · cases d2 : decide (co ≤ 25)
    · rw [sheet_f (u := co) (v := ro + dr) (.inr (.inl d2))]
      go_enter Tryz.func151, Tryz.ntmps151
      go_wp2_with fail
      go_region
      go_wp2_with fail
      go_returns
      exact ⟨rfl, (((Fr.refl _ _).alloc _).alloc _).drew⟩
    · cases d3 : decide (0 ≤ ro + dr)
      · rw [sheet_f (u := co) (v := ro + dr) (.inr (.inr (.inl d3)))]
        go_enter Tryz.func151, Tryz.ntmps151
        go_wp2_with fail
        go_region
        go_wp2_with fail
        go_returns
        exact ⟨rfl, (((Fr.refl _ _).alloc _).alloc _).drew⟩
      · cases d4 : decide (ro + dr ≤ 98)
        · rw [sheet_f (u := co) (v := ro + dr) (.inr (.inr (.inr d4)))]
          go_enter Tryz.func151, Tryz.ntmps151
          go_wp2_with fail
          go_region
          go_wp2_with fail
          go_returns
          exact ⟨rfl, (((Fr.refl _ _).alloc _).alloc _).drew⟩
        · rw [sheet_t (u := co) (v := ro + dr) d1 d2 d3 d4]
          go_enter Tryz.func151, Tryz.ntmps151
          go_wp2_with fail
          go_region
          go_wp2_with fail
          go_returns
          exact ⟨rfl, (((Fr.refl _ _).alloc _).alloc _).drew⟩

set_option maxHeartbeats 4000000 in
theorem slide_11 (dc dr : Int) (co ro : Int) (w : World) (b1 : -1000 ≤ co) (b2 : co ≤ 1000) (b3 : -1000 ≤ ro) (b4 : ro ≤ 1000) (c1 : -100 ≤ dc) (c2 : dc ≤ 100) (r1 : -100 ≤ dr) (r2 : dr ≤ 100) :
    Calls Tryz.prog 151 #[refV ⟨co, ro, true, true⟩, I dc, I dr] w fun e w' => e = .returned (.tuple #[refV ⟨co, ro, true, true⟩, .bool (inSheet ⟨co, ro, true, true⟩)]) ∧ Fr S0 w w' := by
  cases d1 : decide (0 ≤ co)
  · rw [sheet_f (u := co) (v := ro) (.inl d1)]
    go_enter Tryz.func151, Tryz.ntmps151
    go_wp2_with fail
    go_region
    go_wp2_with fail
    go_returns
    exact ⟨rfl, (((Fr.refl _ _).alloc _).alloc _).drew⟩
  · cases d2 : decide (co ≤ 25)
    · rw [sheet_f (u := co) (v := ro) (.inr (.inl d2))]
      go_enter Tryz.func151, Tryz.ntmps151
      go_wp2_with fail
      go_region
      go_wp2_with fail
      go_returns
      exact ⟨rfl, (((Fr.refl _ _).alloc _).alloc _).drew⟩
    · cases d3 : decide (0 ≤ ro)
      · rw [sheet_f (u := co) (v := ro) (.inr (.inr (.inl d3)))]
        go_enter Tryz.func151, Tryz.ntmps151
        go_wp2_with fail
        go_region
        go_wp2_with fail
        go_returns
        exact ⟨rfl, (((Fr.refl _ _).alloc _).alloc _).drew⟩
      · cases d4 : decide (ro ≤ 98)
        · rw [sheet_f (u := co) (v := ro) (.inr (.inr (.inr d4)))]
          go_enter Tryz.func151, Tryz.ntmps151
          go_wp2_with fail
          go_region
          go_wp2_with fail
          go_returns
          exact ⟨rfl, (((Fr.refl _ _).alloc _).alloc _).drew⟩
        · rw [sheet_t (u := co) (v := ro) d1 d2 d3 d4]
          go_enter Tryz.func151, Tryz.ntmps151
          go_wp2_with fail
          go_region
          go_wp2_with fail
          go_returns
          exact ⟨rfl, (((Fr.refl _ _).alloc _).alloc _).drew⟩

theorem slide_any (dc dr : Int) (r : Ref) (w : World) (hb : RB r) (hc : -100 ≤ dc ∧ dc ≤ 100) (hr : -100 ≤ dr ∧ dr ≤ 100) :
    Calls Tryz.prog 151 #[refV r, I dc, I dr] w fun e w' => e = .returned (.tuple #[refV (slideP dc dr r), .bool (inSheet (slideP dc dr r))]) ∧ Fr S0 w w' := by
  obtain ⟨co, ro, ac, ar⟩ := r
  obtain ⟨b1, b2, b3, b4⟩ := hb
  cases ac <;> cases ar
  · exact slide_00 dc dr co ro w b1 b2 b3 b4 hc.1 hc.2 hr.1 hr.2
  · exact slide_01 dc dr co ro w b1 b2 b3 b4 hc.1 hc.2 hr.1 hr.2
  · exact slide_10 dc dr co ro w b1 b2 b3 b4 hc.1 hc.2 hr.1 hr.2
  · exact slide_11 dc dr co ro w b1 b2 b3 b4 hc.1 hc.2 hr.1 hr.2

set_option maxHeartbeats 4000000 in
theorem copyNode_o (dc dr : Int) (x : Nd) (w : World) (h3 : (x.kind == 3) = false) (h4 : (x.kind == 4) = false) : Calls Tryz.prog 113 #[ndV x, I dc, I dr] w (NR w x) := by
  have n3 : (x.kind != 3) = true := by simpa using h3
  have n4 : (x.kind != 4) = true := by simpa using h4
  go_enter Tryz.func113, Tryz.ntmps113
  go_wp2
  exact ret_nd (x := x) (p := 6) (g := w.heap.size + 1) rfl rfl (nd_rowT (w.alloc (.cells (ndA x) 149)) x 149 (by simp)) rfl ⟨rfl, ((Fr.refl _ _).alloc _).alloc _⟩
theorem nd_setR1 {w : World} {b : Nat} {x : Nd} (h : Row w b 13 (ndC x)) (r : Ref) : Row (sets w b 5 [I r.col, I r.row, .bool r.absC, .bool r.absR]) b 13 (ndC (setR1 x r)) :=
  (sets_row _ w 5 _ h).congr (by intro i hi; rcases i with _ | _ | _ | _ | _ | _ | _ | _ | _ | _ | _ | _ | _ | i <;> first | rfl | omega)
theorem nd_setR2 {w : World} {b : Nat} {x : Nd} (h : Row w b 13 (ndC x)) (r : Ref) : Row (sets w b 9 [I r.col, I r.row, .bool r.absC, .bool r.absR]) b 13 (ndC (setR2 x r)) :=
  (sets_row _ w 9 _ h).congr (by intro i hi; rcases i with _ | _ | _ | _ | _ | _ | _ | _ | _ | _ | _ | _ | _ | i <;> first | rfl | omega)
theorem sets_other {w : World} {b c n : Nat} {f : Nat → Value} (h : Row w c n f) (hb : c ≠ b) : ∀ (vs : List Value) (w : World) (o : Nat), Row w c n f → Row (sets w b o vs) c n f
  | [], w, o, h => h
  | v :: vs, w, o, h => sets_other h hb vs _ _ (h.set_other hb v)

set_option maxHeartbeats 8000000 in
theorem copyNode_31 (dc dr : Int) (x : Nd) (s1 : Ref) (w : World) (hk : (x.kind == 3) = true)
    (hS1 : ∀ wx, Calls Tryz.prog 151 #[refV x.r1, I dc, I dr] wx fun e w' => e = .returned (.tuple #[refV s1, .bool true]) ∧ Fr S0 wx w') :
    Calls Tryz.prog 113 #[ndV x, I dc, I dr] w (NR w (setR1 x s1)) := by
  have hkk : x.kind = 3 := by simpa using hk
  have n3 : (x.kind != 3) = false := by rw [hkk]; rfl
  have n4 : (x.kind != 4) = true := by rw [hkk]; rfl
  have e4 : (x.kind == 4) = false := by rw [hkk]; rfl
  clear hkk
  have hS1 := Bx.mk hS1
  have hB : Bx (∀ wx, Calls Tryz.prog 146 #[] wx (NR wx nBad)) := ⟨bad_any⟩
  have hX0 := Bx.mk ((nd_rowT w x 149 rfl).alloc (.cells (ndA ndZ) 149))
  have hZ0 := Bx.mk (nd_rowT (w.alloc (.cells (ndA x) 149)) ndZ 149 (H := w.heap.size + 1) (by simp))
  have hfr0 := Bx.mk (((Fr.refl S0 w).alloc (.cells (ndA x) 149)).alloc (.cells (ndA ndZ) 149))
  have hc := Bx.mk (Fr.refl S0 (((w.alloc (.cells (ndA x) 149)).alloc (.cells (ndA ndZ) 149))))
  go_enter Tryz.func113, Tryz.ntmps113
  go_wp2_with (first
    | (go_at_call 151; refine (hS1.out _).mono ?_; clear hS1; rintro e w1 ⟨rfl, hf1⟩; have hX := Bx.mk (hf1.row0 hX0.out); have hZ := Bx.mk (hf1.row0 hZ0.out); have hfr := Bx.mk (hfr0.out.trans hf1); obtain ⟨k0, k1, k2, k3, k4, k5, k6, k7, k8, k9, k10, k11, k12⟩ := hX.out.nd13; obtain ⟨m0, m1, m2, m3, m4, m5, m6, m7, m8, m9, m10, m11, m12⟩ := hZ.out.nd13; obtain ⟨z0, z1, z2, z3, z4, z5, z6, z7, z8, z9, z10, z11, z12⟩ := hZ.out.fz13; obtain ⟨y0, y1, y2, y3, y4, y5, y6, y7, y8, y9, y10, y11, y12⟩ := hX.out.fz13; have hl1 := hX.out.lt; have hl2 := hZ.out.lt; have hX1 := Bx.mk (nd_setR1 hX.out s1); have hZ1 := Bx.mk (sets_other hZ.out (by omega : w.heap.size + 1 ≠ w.heap.size) [I s1.col, I s1.row, .bool s1.absC, .bool s1.absR] w1 5 hZ.out); have hfr1 := Bx.mk (sets_fr (S := S0) (a := w) (b := w.heap.size) (.inr (Nat.le_refl _)) [I s1.col, I s1.row, .bool s1.absC, .bool s1.absR] w1 5 hfr.out); clear hf1)
    | (go_at_call 146; refine (hB.out _).mono ?_; clear hB; rintro e w3 ⟨rfl, hf1⟩; have hZ := Bx.mk (hf1.row0 hZ1.out); have hfr3 := Bx.mk (hfr1.out.trans hf1); obtain ⟨m0, m1, m2, m3, m4, m5, m6, m7, m8, m9, m10, m11, m12⟩ := hZ.out.nd13; obtain ⟨z0, z1, z2, z3, z4, z5, z6, z7, z8, z9, z10, z11, z12⟩ := hZ.out.fz13; have hl2 := hZ.out.lt; clear hf1))
  exact ret_nds (x := setR1 x s1) (p := 6) (g := w.heap.size + 1) rfl rfl rfl hZ1.out hfr1.out (by omega) rfl

set_option maxHeartbeats 8000000 in
theorem copyNode_30 (dc dr : Int) (x : Nd) (s1 : Ref) (w : World) (hk : (x.kind == 3) = true)
    (hS1 : ∀ wx, Calls Tryz.prog 151 #[refV x.r1, I dc, I dr] wx fun e w' => e = .returned (.tuple #[refV s1, .bool false]) ∧ Fr S0 wx w') :
    Calls Tryz.prog 113 #[ndV x, I dc, I dr] w (NR w (nBad)) := by
  have hkk : x.kind = 3 := by simpa using hk
  have n3 : (x.kind != 3) = false := by rw [hkk]; rfl
  have n4 : (x.kind != 4) = true := by rw [hkk]; rfl
  have e4 : (x.kind == 4) = false := by rw [hkk]; rfl
  clear hkk
  have hS1 := Bx.mk hS1
  have hB : Bx (∀ wx, Calls Tryz.prog 146 #[] wx (NR wx nBad)) := ⟨bad_any⟩
  have hX0 := Bx.mk ((nd_rowT w x 149 rfl).alloc (.cells (ndA ndZ) 149))
  have hZ0 := Bx.mk (nd_rowT (w.alloc (.cells (ndA x) 149)) ndZ 149 (H := w.heap.size + 1) (by simp))
  have hfr0 := Bx.mk (((Fr.refl S0 w).alloc (.cells (ndA x) 149)).alloc (.cells (ndA ndZ) 149))
  have hc := Bx.mk (Fr.refl S0 (((w.alloc (.cells (ndA x) 149)).alloc (.cells (ndA ndZ) 149))))
  generalize hxb : nBad = xb at *
  have hxb := Bx.mk hxb
  go_enter Tryz.func113, Tryz.ntmps113
  go_wp2_with (first
    | (go_at_call 151; refine (hS1.out _).mono ?_; clear hS1; rintro e w1 ⟨rfl, hf1⟩; have hX := Bx.mk (hf1.row0 hX0.out); have hZ := Bx.mk (hf1.row0 hZ0.out); have hfr := Bx.mk (hfr0.out.trans hf1); obtain ⟨k0, k1, k2, k3, k4, k5, k6, k7, k8, k9, k10, k11, k12⟩ := hX.out.nd13; obtain ⟨m0, m1, m2, m3, m4, m5, m6, m7, m8, m9, m10, m11, m12⟩ := hZ.out.nd13; obtain ⟨z0, z1, z2, z3, z4, z5, z6, z7, z8, z9, z10, z11, z12⟩ := hZ.out.fz13; obtain ⟨y0, y1, y2, y3, y4, y5, y6, y7, y8, y9, y10, y11, y12⟩ := hX.out.fz13; have hl1 := hX.out.lt; have hl2 := hZ.out.lt; have hX1 := Bx.mk (nd_setR1 hX.out s1); have hZ1 := Bx.mk (sets_other hZ.out (by omega : w.heap.size + 1 ≠ w.heap.size) [I s1.col, I s1.row, .bool s1.absC, .bool s1.absR] w1 5 hZ.out); have hfr1 := Bx.mk (sets_fr (S := S0) (a := w) (b := w.heap.size) (.inr (Nat.le_refl _)) [I s1.col, I s1.row, .bool s1.absC, .bool s1.absR] w1 5 hfr.out); clear hf1)
    | (go_at_call 146; refine (hB.out _).mono ?_; clear hB; rintro e w3 ⟨rfl, hf1⟩; have hZ := Bx.mk (hf1.row0 hZ1.out); have hfr3 := Bx.mk (hfr1.out.trans hf1); obtain ⟨m0, m1, m2, m3, m4, m5, m6, m7, m8, m9, m10, m11, m12⟩ := hZ.out.nd13; obtain ⟨z0, z1, z2, z3, z4, z5, z6, z7, z8, z9, z10, z11, z12⟩ := hZ.out.fz13; have hl2 := hZ.out.lt; clear hf1))
  exact ret_nds (x := xb) (p := 6) (g := w.heap.size + 1) rfl rfl rfl hZ.out hfr3.out (by omega) rfl

set_option maxHeartbeats 8000000 in
theorem copyNode_411 (dc dr : Int) (x : Nd) (s1 s2 : Ref) (w : World) (hk : (x.kind == 4) = true)
    (hS1 : ∀ wx, Calls Tryz.prog 151 #[refV x.r1, I dc, I dr] wx fun e w' => e = .returned (.tuple #[refV s1, .bool true]) ∧ Fr S0 wx w')
    (hS2 : ∀ wx, Calls Tryz.prog 151 #[refV x.r2, I dc, I dr] wx fun e w' => e = .returned (.tuple #[refV s2, .bool true]) ∧ Fr S0 wx w') :
    Calls Tryz.prog 113 #[ndV x, I dc, I dr] w (NR w (setR2 (setR1 x s1) s2)) := by
  have hkk : x.kind = 4 := by simpa using hk
  have n3 : (x.kind != 3) = true := by rw [hkk]; rfl
  have n4 : (x.kind != 4) = false := by rw [hkk]; rfl
  have e4 : (x.kind == 4) = true := by rw [hkk]; rfl
  clear hkk
  have hS1 := Bx.mk hS1
  have hS2 := Bx.mk hS2
  have hB : Bx (∀ wx, Calls Tryz.prog 146 #[] wx (NR wx nBad)) := ⟨bad_any⟩
  have hX0 := Bx.mk ((nd_rowT w x 149 rfl).alloc (.cells (ndA ndZ) 149))
  have hZ0 := Bx.mk (nd_rowT (w.alloc (.cells (ndA x) 149)) ndZ 149 (H := w.heap.size + 1) (by simp))
  have hfr0 := Bx.mk (((Fr.refl S0 w).alloc (.cells (ndA x) 149)).alloc (.cells (ndA ndZ) 149))
  have hc := Bx.mk (Fr.refl S0 (((w.alloc (.cells (ndA x) 149)).alloc (.cells (ndA ndZ) 149))))
  go_enter Tryz.func113, Tryz.ntmps113
  go_wp2_with (first
    | (go_at_call 151; refine (hS1.out _).mono ?_; clear hS1; rintro e w1 ⟨rfl, hf1⟩; have hX := Bx.mk (hf1.row0 hX0.out); have hZ := Bx.mk (hf1.row0 hZ0.out); have hfr := Bx.mk (hfr0.out.trans hf1); obtain ⟨k0, k1, k2, k3, k4, k5, k6, k7, k8, k9, k10, k11, k12⟩ := hX.out.nd13; obtain ⟨m0, m1, m2, m3, m4, m5, m6, m7, m8, m9, m10, m11, m12⟩ := hZ.out.nd13; obtain ⟨z0, z1, z2, z3, z4, z5, z6, z7, z8, z9, z10, z11, z12⟩ := hZ.out.fz13; obtain ⟨y0, y1, y2, y3, y4, y5, y6, y7, y8, y9, y10, y11, y12⟩ := hX.out.fz13; have hl1 := hX.out.lt; have hl2 := hZ.out.lt; have hX1 := Bx.mk (nd_setR1 hX.out s1); have hZ1 := Bx.mk (sets_other hZ.out (by omega : w.heap.size + 1 ≠ w.heap.size) [I s1.col, I s1.row, .bool s1.absC, .bool s1.absR] w1 5 hZ.out); have hfr1 := Bx.mk (sets_fr (S := S0) (a := w) (b := w.heap.size) (.inr (Nat.le_refl _)) [I s1.col, I s1.row, .bool s1.absC, .bool s1.absR] w1 5 hfr.out); clear hf1)
    | (go_at_call 151; refine (hS2.out _).mono ?_; clear hS2; rintro e w2 ⟨rfl, hf1⟩; have hX := Bx.mk (hf1.row0 hX1.out); have hZ := Bx.mk (hf1.row0 hZ1.out); have hfr := Bx.mk (hfr1.out.trans hf1); obtain ⟨k0, k1, k2, k3, k4, k5, k6, k7, k8, k9, k10, k11, k12⟩ := hX.out.nd13; obtain ⟨m0, m1, m2, m3, m4, m5, m6, m7, m8, m9, m10, m11, m12⟩ := hZ.out.nd13; obtain ⟨z0, z1, z2, z3, z4, z5, z6, z7, z8, z9, z10, z11, z12⟩ := hZ.out.fz13; obtain ⟨y0, y1, y2, y3, y4, y5, y6, y7, y8, y9, y10, y11, y12⟩ := hX.out.fz13; have hl1 := hX.out.lt; have hl2 := hZ.out.lt; have hX1 := Bx.mk (nd_setR2 hX.out s2); have hZ1 := Bx.mk (sets_other hZ.out (by omega : w.heap.size + 1 ≠ w.heap.size) [I s2.col, I s2.row, .bool s2.absC, .bool s2.absR] w2 9 hZ.out); have hfr1 := Bx.mk (sets_fr (S := S0) (a := w) (b := w.heap.size) (.inr (Nat.le_refl _)) [I s2.col, I s2.row, .bool s2.absC, .bool s2.absR] w2 9 hfr.out); clear hf1)
    | (go_at_call 146; refine (hB.out _).mono ?_; clear hB; rintro e w3 ⟨rfl, hf1⟩; have hZ := Bx.mk (hf1.row0 hZ1.out); have hfr3 := Bx.mk (hfr1.out.trans hf1); obtain ⟨m0, m1, m2, m3, m4, m5, m6, m7, m8, m9, m10, m11, m12⟩ := hZ.out.nd13; obtain ⟨z0, z1, z2, z3, z4, z5, z6, z7, z8, z9, z10, z11, z12⟩ := hZ.out.fz13; have hl2 := hZ.out.lt; clear hf1))
  exact ret_nds (x := setR2 (setR1 x s1) s2) (p := 6) (g := w.heap.size + 1) rfl rfl rfl hZ1.out hfr1.out (by omega) rfl

set_option maxHeartbeats 8000000 in
theorem copyNode_410 (dc dr : Int) (x : Nd) (s1 s2 : Ref) (w : World) (hk : (x.kind == 4) = true)
    (hS1 : ∀ wx, Calls Tryz.prog 151 #[refV x.r1, I dc, I dr] wx fun e w' => e = .returned (.tuple #[refV s1, .bool true]) ∧ Fr S0 wx w')
    (hS2 : ∀ wx, Calls Tryz.prog 151 #[refV x.r2, I dc, I dr] wx fun e w' => e = .returned (.tuple #[refV s2, .bool false]) ∧ Fr S0 wx w') :
    Calls Tryz.prog 113 #[ndV x, I dc, I dr] w (NR w (nBad)) := by
  have hkk : x.kind = 4 := by simpa using hk
  have n3 : (x.kind != 3) = true := by rw [hkk]; rfl
  have n4 : (x.kind != 4) = false := by rw [hkk]; rfl
  have e4 : (x.kind == 4) = true := by rw [hkk]; rfl
  clear hkk
  have hS1 := Bx.mk hS1
  have hS2 := Bx.mk hS2
  have hB : Bx (∀ wx, Calls Tryz.prog 146 #[] wx (NR wx nBad)) := ⟨bad_any⟩
  have hX0 := Bx.mk ((nd_rowT w x 149 rfl).alloc (.cells (ndA ndZ) 149))
  have hZ0 := Bx.mk (nd_rowT (w.alloc (.cells (ndA x) 149)) ndZ 149 (H := w.heap.size + 1) (by simp))
  have hfr0 := Bx.mk (((Fr.refl S0 w).alloc (.cells (ndA x) 149)).alloc (.cells (ndA ndZ) 149))
  have hc := Bx.mk (Fr.refl S0 (((w.alloc (.cells (ndA x) 149)).alloc (.cells (ndA ndZ) 149))))
  generalize hxb : nBad = xb at *
  have hxb := Bx.mk hxb
  go_enter Tryz.func113, Tryz.ntmps113
  go_wp2_with (first
    | (go_at_call 151; refine (hS1.out _).mono ?_; clear hS1; rintro e w1 ⟨rfl, hf1⟩; have hX := Bx.mk (hf1.row0 hX0.out); have hZ := Bx.mk (hf1.row0 hZ0.out); have hfr := Bx.mk (hfr0.out.trans hf1); obtain ⟨k0, k1, k2, k3, k4, k5, k6, k7, k8, k9, k10, k11, k12⟩ := hX.out.nd13; obtain ⟨m0, m1, m2, m3, m4, m5, m6, m7, m8, m9, m10, m11, m12⟩ := hZ.out.nd13; obtain ⟨z0, z1, z2, z3, z4, z5, z6, z7, z8, z9, z10, z11, z12⟩ := hZ.out.fz13; obtain ⟨y0, y1, y2, y3, y4, y5, y6, y7, y8, y9, y10, y11, y12⟩ := hX.out.fz13; have hl1 := hX.out.lt; have hl2 := hZ.out.lt; have hX1 := Bx.mk (nd_setR1 hX.out s1); have hZ1 := Bx.mk (sets_other hZ.out (by omega : w.heap.size + 1 ≠ w.heap.size) [I s1.col, I s1.row, .bool s1.absC, .bool s1.absR] w1 5 hZ.out); have hfr1 := Bx.mk (sets_fr (S := S0) (a := w) (b := w.heap.size) (.inr (Nat.le_refl _)) [I s1.col, I s1.row, .bool s1.absC, .bool s1.absR] w1 5 hfr.out); clear hf1)
    | (go_at_call 151; refine (hS2.out _).mono ?_; clear hS2; rintro e w2 ⟨rfl, hf1⟩; have hX := Bx.mk (hf1.row0 hX1.out); have hZ := Bx.mk (hf1.row0 hZ1.out); have hfr := Bx.mk (hfr1.out.trans hf1); obtain ⟨k0, k1, k2, k3, k4, k5, k6, k7, k8, k9, k10, k11, k12⟩ := hX.out.nd13; obtain ⟨m0, m1, m2, m3, m4, m5, m6, m7, m8, m9, m10, m11, m12⟩ := hZ.out.nd13; obtain ⟨z0, z1, z2, z3, z4, z5, z6, z7, z8, z9, z10, z11, z12⟩ := hZ.out.fz13; obtain ⟨y0, y1, y2, y3, y4, y5, y6, y7, y8, y9, y10, y11, y12⟩ := hX.out.fz13; have hl1 := hX.out.lt; have hl2 := hZ.out.lt; have hX1 := Bx.mk (nd_setR2 hX.out s2); have hZ1 := Bx.mk (sets_other hZ.out (by omega : w.heap.size + 1 ≠ w.heap.size) [I s2.col, I s2.row, .bool s2.absC, .bool s2.absR] w2 9 hZ.out); have hfr1 := Bx.mk (sets_fr (S := S0) (a := w) (b := w.heap.size) (.inr (Nat.le_refl _)) [I s2.col, I s2.row, .bool s2.absC, .bool s2.absR] w2 9 hfr.out); clear hf1)
    | (go_at_call 146; refine (hB.out _).mono ?_; clear hB; rintro e w3 ⟨rfl, hf1⟩; have hZ := Bx.mk (hf1.row0 hZ1.out); have hfr3 := Bx.mk (hfr1.out.trans hf1); obtain ⟨m0, m1, m2, m3, m4, m5, m6, m7, m8, m9, m10, m11, m12⟩ := hZ.out.nd13; obtain ⟨z0, z1, z2, z3, z4, z5, z6, z7, z8, z9, z10, z11, z12⟩ := hZ.out.fz13; have hl2 := hZ.out.lt; clear hf1))
  exact ret_nds (x := xb) (p := 6) (g := w.heap.size + 1) rfl rfl rfl hZ.out hfr3.out (by omega) rfl

set_option maxHeartbeats 8000000 in
theorem copyNode_401 (dc dr : Int) (x : Nd) (s1 s2 : Ref) (w : World) (hk : (x.kind == 4) = true)
    (hS1 : ∀ wx, Calls Tryz.prog 151 #[refV x.r1, I dc, I dr] wx fun e w' => e = .returned (.tuple #[refV s1, .bool false]) ∧ Fr S0 wx w')
    (hS2 : ∀ wx, Calls Tryz.prog 151 #[refV x.r2, I dc, I dr] wx fun e w' => e = .returned (.tuple #[refV s2, .bool true]) ∧ Fr S0 wx w') :
    Calls Tryz.prog 113 #[ndV x, I dc, I dr] w (NR w (nBad)) := by
  have hkk : x.kind = 4 := by simpa using hk
  have n3 : (x.kind != 3) = true := by rw [hkk]; rfl
  have n4 : (x.kind != 4) = false := by rw [hkk]; rfl
  have e4 : (x.kind == 4) = true := by rw [hkk]; rfl
  clear hkk
  have hS1 := Bx.mk hS1
  have hS2 := Bx.mk hS2
  have hB : Bx (∀ wx, Calls Tryz.prog 146 #[] wx (NR wx nBad)) := ⟨bad_any⟩
  have hX0 := Bx.mk ((nd_rowT w x 149 rfl).alloc (.cells (ndA ndZ) 149))
  have hZ0 := Bx.mk (nd_rowT (w.alloc (.cells (ndA x) 149)) ndZ 149 (H := w.heap.size + 1) (by simp))
  have hfr0 := Bx.mk (((Fr.refl S0 w).alloc (.cells (ndA x) 149)).alloc (.cells (ndA ndZ) 149))
  have hc := Bx.mk (Fr.refl S0 (((w.alloc (.cells (ndA x) 149)).alloc (.cells (ndA ndZ) 149))))
  generalize hxb : nBad = xb at *
  have hxb := Bx.mk hxb
  go_enter Tryz.func113, Tryz.ntmps113
  go_wp2_with (first
    | (go_at_call 151; refine (hS1.out _).mono ?_; clear hS1; rintro e w1 ⟨rfl, hf1⟩; have hX := Bx.mk (hf1.row0 hX0.out); have hZ := Bx.mk (hf1.row0 hZ0.out); have hfr := Bx.mk (hfr0.out.trans hf1); obtain ⟨k0, k1, k2, k3, k4, k5, k6, k7, k8, k9, k10, k11, k12⟩ := hX.out.nd13; obtain ⟨m0, m1, m2, m3, m4, m5, m6, m7, m8, m9, m10, m11, m12⟩ := hZ.out.nd13; obtain ⟨z0, z1, z2, z3, z4, z5, z6, z7, z8, z9, z10, z11, z12⟩ := hZ.out.fz13; obtain ⟨y0, y1, y2, y3, y4, y5, y6, y7, y8, y9, y10, y11, y12⟩ := hX.out.fz13; have hl1 := hX.out.lt; have hl2 := hZ.out.lt; have hX1 := Bx.mk (nd_setR1 hX.out s1); have hZ1 := Bx.mk (sets_other hZ.out (by omega : w.heap.size + 1 ≠ w.heap.size) [I s1.col, I s1.row, .bool s1.absC, .bool s1.absR] w1 5 hZ.out); have hfr1 := Bx.mk (sets_fr (S := S0) (a := w) (b := w.heap.size) (.inr (Nat.le_refl _)) [I s1.col, I s1.row, .bool s1.absC, .bool s1.absR] w1 5 hfr.out); clear hf1)
    | (go_at_call 151; refine (hS2.out _).mono ?_; clear hS2; rintro e w2 ⟨rfl, hf1⟩; have hX := Bx.mk (hf1.row0 hX1.out); have hZ := Bx.mk (hf1.row0 hZ1.out); have hfr := Bx.mk (hfr1.out.trans hf1); obtain ⟨k0, k1, k2, k3, k4, k5, k6, k7, k8, k9, k10, k11, k12⟩ := hX.out.nd13; obtain ⟨m0, m1, m2, m3, m4, m5, m6, m7, m8, m9, m10, m11, m12⟩ := hZ.out.nd13; obtain ⟨z0, z1, z2, z3, z4, z5, z6, z7, z8, z9, z10, z11, z12⟩ := hZ.out.fz13; obtain ⟨y0, y1, y2, y3, y4, y5, y6, y7, y8, y9, y10, y11, y12⟩ := hX.out.fz13; have hl1 := hX.out.lt; have hl2 := hZ.out.lt; have hX1 := Bx.mk (nd_setR2 hX.out s2); have hZ1 := Bx.mk (sets_other hZ.out (by omega : w.heap.size + 1 ≠ w.heap.size) [I s2.col, I s2.row, .bool s2.absC, .bool s2.absR] w2 9 hZ.out); have hfr1 := Bx.mk (sets_fr (S := S0) (a := w) (b := w.heap.size) (.inr (Nat.le_refl _)) [I s2.col, I s2.row, .bool s2.absC, .bool s2.absR] w2 9 hfr.out); clear hf1)
    | (go_at_call 146; refine (hB.out _).mono ?_; clear hB; rintro e w3 ⟨rfl, hf1⟩; have hZ := Bx.mk (hf1.row0 hZ1.out); have hfr3 := Bx.mk (hfr1.out.trans hf1); obtain ⟨m0, m1, m2, m3, m4, m5, m6, m7, m8, m9, m10, m11, m12⟩ := hZ.out.nd13; obtain ⟨z0, z1, z2, z3, z4, z5, z6, z7, z8, z9, z10, z11, z12⟩ := hZ.out.fz13; have hl2 := hZ.out.lt; clear hf1))
  exact ret_nds (x := xb) (p := 6) (g := w.heap.size + 1) rfl rfl rfl hZ.out hfr3.out (by omega) rfl

set_option maxHeartbeats 8000000 in
theorem copyNode_400 (dc dr : Int) (x : Nd) (s1 s2 : Ref) (w : World) (hk : (x.kind == 4) = true)
    (hS1 : ∀ wx, Calls Tryz.prog 151 #[refV x.r1, I dc, I dr] wx fun e w' => e = .returned (.tuple #[refV s1, .bool false]) ∧ Fr S0 wx w')
    (hS2 : ∀ wx, Calls Tryz.prog 151 #[refV x.r2, I dc, I dr] wx fun e w' => e = .returned (.tuple #[refV s2, .bool false]) ∧ Fr S0 wx w') :
    Calls Tryz.prog 113 #[ndV x, I dc, I dr] w (NR w (nBad)) := by
  have hkk : x.kind = 4 := by simpa using hk
  have n3 : (x.kind != 3) = true := by rw [hkk]; rfl
  have n4 : (x.kind != 4) = false := by rw [hkk]; rfl
  have e4 : (x.kind == 4) = true := by rw [hkk]; rfl
  clear hkk
  have hS1 := Bx.mk hS1
  have hS2 := Bx.mk hS2
  have hB : Bx (∀ wx, Calls Tryz.prog 146 #[] wx (NR wx nBad)) := ⟨bad_any⟩
  have hX0 := Bx.mk ((nd_rowT w x 149 rfl).alloc (.cells (ndA ndZ) 149))
  have hZ0 := Bx.mk (nd_rowT (w.alloc (.cells (ndA x) 149)) ndZ 149 (H := w.heap.size + 1) (by simp))
  have hfr0 := Bx.mk (((Fr.refl S0 w).alloc (.cells (ndA x) 149)).alloc (.cells (ndA ndZ) 149))
  have hc := Bx.mk (Fr.refl S0 (((w.alloc (.cells (ndA x) 149)).alloc (.cells (ndA ndZ) 149))))
  generalize hxb : nBad = xb at *
  have hxb := Bx.mk hxb
  go_enter Tryz.func113, Tryz.ntmps113
  go_wp2_with (first
    | (go_at_call 151; refine (hS1.out _).mono ?_; clear hS1; rintro e w1 ⟨rfl, hf1⟩; have hX := Bx.mk (hf1.row0 hX0.out); have hZ := Bx.mk (hf1.row0 hZ0.out); have hfr := Bx.mk (hfr0.out.trans hf1); obtain ⟨k0, k1, k2, k3, k4, k5, k6, k7, k8, k9, k10, k11, k12⟩ := hX.out.nd13; obtain ⟨m0, m1, m2, m3, m4, m5, m6, m7, m8, m9, m10, m11, m12⟩ := hZ.out.nd13; obtain ⟨z0, z1, z2, z3, z4, z5, z6, z7, z8, z9, z10, z11, z12⟩ := hZ.out.fz13; obtain ⟨y0, y1, y2, y3, y4, y5, y6, y7, y8, y9, y10, y11, y12⟩ := hX.out.fz13; have hl1 := hX.out.lt; have hl2 := hZ.out.lt; have hX1 := Bx.mk (nd_setR1 hX.out s1); have hZ1 := Bx.mk (sets_other hZ.out (by omega : w.heap.size + 1 ≠ w.heap.size) [I s1.col, I s1.row, .bool s1.absC, .bool s1.absR] w1 5 hZ.out); have hfr1 := Bx.mk (sets_fr (S := S0) (a := w) (b := w.heap.size) (.inr (Nat.le_refl _)) [I s1.col, I s1.row, .bool s1.absC, .bool s1.absR] w1 5 hfr.out); clear hf1)
    | (go_at_call 151; refine (hS2.out _).mono ?_; clear hS2; rintro e w2 ⟨rfl, hf1⟩; have hX := Bx.mk (hf1.row0 hX1.out); have hZ := Bx.mk (hf1.row0 hZ1.out); have hfr := Bx.mk (hfr1.out.trans hf1); obtain ⟨k0, k1, k2, k3, k4, k5, k6, k7, k8, k9, k10, k11, k12⟩ := hX.out.nd13; obtain ⟨m0, m1, m2, m3, m4, m5, m6, m7, m8, m9, m10, m11, m12⟩ := hZ.out.nd13; obtain ⟨z0, z1, z2, z3, z4, z5, z6, z7, z8, z9, z10, z11, z12⟩ := hZ.out.fz13; obtain ⟨y0, y1, y2, y3, y4, y5, y6, y7, y8, y9, y10, y11, y12⟩ := hX.out.fz13; have hl1 := hX.out.lt; have hl2 := hZ.out.lt; have hX1 := Bx.mk (nd_setR2 hX.out s2); have hZ1 := Bx.mk (sets_other hZ.out (by omega : w.heap.size + 1 ≠ w.heap.size) [I s2.col, I s2.row, .bool s2.absC, .bool s2.absR] w2 9 hZ.out); have hfr1 := Bx.mk (sets_fr (S := S0) (a := w) (b := w.heap.size) (.inr (Nat.le_refl _)) [I s2.col, I s2.row, .bool s2.absC, .bool s2.absR] w2 9 hfr.out); clear hf1)
    | (go_at_call 146; refine (hB.out _).mono ?_; clear hB; rintro e w3 ⟨rfl, hf1⟩; have hZ := Bx.mk (hf1.row0 hZ1.out); have hfr3 := Bx.mk (hfr1.out.trans hf1); obtain ⟨m0, m1, m2, m3, m4, m5, m6, m7, m8, m9, m10, m11, m12⟩ := hZ.out.nd13; obtain ⟨z0, z1, z2, z3, z4, z5, z6, z7, z8, z9, z10, z11, z12⟩ := hZ.out.fz13; have hl2 := hZ.out.lt; clear hf1))
  exact ret_nds (x := xb) (p := 6) (g := w.heap.size + 1) rfl rfl rfl hZ.out hfr3.out (by omega) rfl

theorem copyNode_any (dc dr : Int) (x : Nd) (w : World) (hb1 : RB x.r1) (hb2 : RB x.r2) (hc : -100 ≤ dc ∧ dc ≤ 100) (hr : -100 ≤ dr ∧ dr ≤ 100) : Calls Tryz.prog 113 #[ndV x, I dc, I dr] w (NR w (copyN dc dr x)) := by
  have hS1 : ∀ b, inSheet (slideP dc dr x.r1) = b → ∀ wx, Calls Tryz.prog 151 #[refV x.r1, I dc, I dr] wx fun e w' => e = .returned (.tuple #[refV (slideP dc dr x.r1), .bool b]) ∧ Fr S0 wx w' := fun b e wx => e ▸ slide_any dc dr x.r1 wx hb1 hc hr
  have hS2 : ∀ b, inSheet (slideP dc dr x.r2) = b → ∀ wx, Calls Tryz.prog 151 #[refV x.r2, I dc, I dr] wx fun e w' => e = .returned (.tuple #[refV (slideP dc dr x.r2), .bool b]) ∧ Fr S0 wx w' := fun b e wx => e ▸ slide_any dc dr x.r2 wx hb2 hc hr
  cases h3 : (x.kind == 3)
  · cases h4 : (x.kind == 4)
    · rw [copyN_o (by simpa using h3) (by simpa using h4)]; exact copyNode_o dc dr x w h3 h4
    · rw [copyN_4 (by simpa using h4)]
      cases e1 : inSheet (slideP dc dr x.r1) <;> cases e2 : inSheet (slideP dc dr x.r2)
      · exact copyNode_400 dc dr x _ _ w h4 (hS1 _ e1) (hS2 _ e2)
      · exact copyNode_401 dc dr x _ _ w h4 (hS1 _ e1) (hS2 _ e2)
      · exact copyNode_410 dc dr x _ _ w h4 (hS1 _ e1) (hS2 _ e2)
      · exact copyNode_411 dc dr x _ _ w h4 (hS1 _ e1) (hS2 _ e2)
  · rw [copyN_3 (by simpa using h3)]
    cases e1 : inSheet (slideP dc dr x.r1)
    · exact copyNode_30 dc dr x _ w h3 (hS1 _ e1)
    · exact copyNode_31 dc dr x _ w h3 (hS1 _ e1)
end Go.Proofs.Qxb6500326aGreat
