import Derived.Test.Qxb6500326aGreatL7
import Derived.Test.Qxb6500326aGreatN6
import Derived.Test.Qxb6500326aGreatE9
namespace Go.Proofs.Qxb6500326aGreat
set_option maxRecDepth 100000
set_option linter.unusedVariables false
set_option linter.unusedSimpArgs false
open Go.RowKit Go.PlainAid

/-! ### the building -/
theorem Tryz.size43 : (Tryz.prog.info? 43).map (·.size) = some 1 := by kernel_rfl
theorem row1_heap {w : World} {b : Nat} {f : Nat → Value} (h : Row w b 1 f) : ∃ T, w.heap[b]? = some (.cells #[f 0] T (0, 0)) := by
  obtain ⟨arr, T, h1, h2, h3⟩ := h
  refine ⟨T, ?_⟩
  rw [h1]
  have : arr = #[f 0] := by
    apply Array.ext_getElem?
    intro i
    rcases Nat.lt_or_ge i 1 with hi | hi
    · rw [h3 i hi]
      have : i = 0 := by omega
      subst this; rfl
    · rw [Array.getElem?_eq_none (by omega), Array.getElem?_eq_none (by simpa using hi)]
  rw [this]
theorem ret_b1 {fn : Func} {R : Ending → World → Prop} {a : Act} {w : World} {p : Tmp} {g : Nat} {f : Nat → Value} {v1 : Value} (hr : fn.results = #[.cell p 43]) (hp : a.tmps.getD p undef = pt g) (hrow : Row w g 1 f) (h1 : f 0 = v1) (hd : a.defers = [])
    (hR : R (.returned (.agg #[v1])) w) : bodyPost Tryz.prog fn R .ret a w := by
  subst h1
  obtain ⟨T, hh⟩ := row1_heap hrow
  exact bodyPost_ret (results_cell_row hr a.tmps w g T _ (0, 0) _ hp hh Tryz.underlying43 rfl (by rw [Tryz.size43]; rfl)) hd hR
def exC0 (f xb bb : Nat) : Nat → Value
  | 0 => pt f
  | 1 => pt xb
  | _ => sl bb 24 24
theorem ex_obj (w : World) (f xb bb : Nat) (T : TypeId) {H : Nat} (e : w.heap.size = H) : Row (w.alloc (.cells #[pt f, pt xb, sl bb 24 24] T)) H 3 (exC0 f xb bb) := by
  subst e
  exact Row.new w _ T 3 _ rfl (by intro i hi; rcases i with _ | _ | _ | i <;> first | rfl | omega)
set_option maxHeartbeats 2000000 in
theorem xNew_any2 (f xb : Nat) (w : World) : Calls Tryz.prog 51 #[pt f, pt xb] w fun e w' => e = .returned (pt (w.heap.size + 1)) ∧ Row w' (w.heap.size + 1) 3 (exC0 f xb w.heap.size) ∧ Row w' w.heap.size 24 (fun _ => .string es) ∧ Fr S0 w w' := by
  have kk1 := mk38
  generalize hA : MS = A1 at kk1
  have hA := Bx.mk hA
  go_enter Tryz.func51, Tryz.ntmps51
  go_wp2_with fail
  go_ret
  exact ⟨rfl, ex_obj (w.alloc (.cells A1 9)) f xb w.heap.size 127 (H := w.heap.size + 1) (by simp), (ms_row hA.out w rfl).alloc _, ((Fr.refl S0 w).alloc _).alloc _⟩
/-- What Ground leaves. -/
def GrP (w : World) : Ending → World → Prop := fun e w' => ∃ A : XA, e = .returned (.agg #[pt A.xe]) ∧ XB w' A (fun _ => es) ∧ Fr S0 w w' ∧ (∀ k, SE A k → w.heap.size ≤ k ∧ k < w'.heap.size)
set_option maxHeartbeats 8000000 in
theorem ground_any (w : World) : Calls Tryz.prog 22 #[] w (GrP w) := by
  have hb := Bx.mk (Row.new w #[.pointer none] 43 1 (fun _ => .pointer none) rfl (by intro i hi; rcases i with _ | i <;> first | rfl | omega))
  have hnew : Bx (∀ wx, Calls Tryz.prog 47 #[] wx fun e w' => ∃ B : FB, e = .returned (pt B.f) ∧ FZ w' B ∧ Fr S0 wx w' ∧ (∀ k, FmS B k → wx.heap.size ≤ k ∧ k < w'.heap.size)) := ⟨new_any⟩
  have hnew2 := hnew
  go_enter Tryz.func22, Tryz.ntmps22
  go_wp2_with (first
    | (go_at_call 47; refine (hnew.out _).mono ?_; clear hnew; rintro e w1 ⟨B, rfl, hz1, hf1, hB⟩; have hb1 := Bx.mk (hf1.row0 hb.out); have hz1 := Bx.mk hz1; have hff1 := Bx.mk (((Fr.refl S0 w).alloc _).trans hf1); have hB : Bx (∀ k, FmS B k → w.heap.size + 1 ≤ k ∧ k < w1.heap.size) := ⟨fun k hk => by have := hB k hk; simpa using this⟩; clear hf1)
    | (go_at_call 48; refine (newV_any B _ hz1.out).mono ?_; rintro e w2 ⟨V, rfl, hz2, hf2, hV⟩; have hb2 := Bx.mk (hf2.row0 hb1.out); have hz2 := Bx.mk hz2; have hff2 := Bx.mk (hff1.out.trans hf2); have hV := Bx.mk hV; have hs2 : Bx (w1.heap.size ≤ w2.heap.size) := ⟨hf2.size⟩; clear hf2)
    | (go_at_call 49; refine (Gr.xNew_any _).mono ?_; rintro e w3 ⟨rfl, hX, hf3, hsz⟩; have hb3 := Bx.mk (hf3.row0 hb2.out); have hz3 := Bx.mk (hz2.out.fr0 hf3); have hX := Bx.mk hX; have hff3 := Bx.mk (hff2.out.trans hf3); have hsz := Bx.mk hsz; clear hf3; have hgv : Bx (∀ k, Gr.SX w2.heap.size k → ¬ VF V B k) := ⟨fun k hk hv => by have s2 := hs2.out; have hk1 := hk.1; rcases hv with e | e; (have := hV.out k e; omega); (have := hB.out k e; omega)⟩)
    | (go_at_call 50; refine (kNew_any V B w2.heap.size _ hz3.out hX.out hgv.out).mono ?_; rintro e w4 ⟨xb, rb, sb, rfl, hK, hf4, g1, g2, g3⟩; have hb4 := Bx.mk (hf4.row0 hb3.out); have hK := Bx.mk hK; have hff4 := Bx.mk (hff3.out.trans hf4); have g1 := Bx.mk g1; have g2 := Bx.mk g2; have g3 := Bx.mk g3; have hs4 : Bx (w3.heap.size ≤ w4.heap.size) := ⟨hf4.size⟩; clear hf4)
    | (go_at_call 47; refine (hnew2.out _).mono ?_; clear hnew2; rintro e w5 ⟨B2, rfl, hz5, hf5, hB2⟩; have hb5 := Bx.mk (hf5.row0 hb4.out); have hz5 := Bx.mk hz5; have hK5 := Bx.mk (hK.out.fr0 hf5); have hff5 := Bx.mk (hff4.out.trans hf5); have hB2 := Bx.mk hB2; have hs5 : Bx (w4.heap.size ≤ w5.heap.size) := ⟨hf5.size⟩; clear hf5)
    | (go_at_call 51; refine (xNew_any2 B2.f xb _).mono ?_; rintro e w6 ⟨rfl, hxo, hbb, hf6⟩; have hb6 := Bx.mk (hf6.row0 hb5.out); have hz6 := Bx.mk (hz5.out.fr0 hf6); have hK6 := Bx.mk (hK5.out.fr0 hf6); have hff6 := Bx.mk (hff5.out.trans hf6); have hs6 : Bx (w5.heap.size ≤ w6.heap.size) := ⟨hf6.size⟩; have hxo := Bx.mk hxo; have hbb := Bx.mk hbb; have y0 := hb6.out.frozen 0; have q0 := hb6.out.cell 0 (by omega); have hbl := hb6.out.lt; clear hf6))
  have s2 := hs2.out
  have s3 := hsz.out
  have s4 := hs4.out
  have s5 := hs5.out
  have s6 := hs6.out
  have hw1 : w.heap.size + 1 ≤ w1.heap.size := by have := hb1.out.lt; omega
  have hKS : ∀ k, KS xb V B w2.heap.size rb sb k → w.heap.size + 1 ≤ k ∧ k < w4.heap.size := by
    intro k hk
    have hlt := hK.out.lt k hk
    refine ⟨?_, hlt⟩
    rcases hk with e | (e | e) | e | e | e
    · have := g1.out; omega
    · have := hV.out k e; omega
    · have := hB.out k e; omega
    · have := e.1; omega
    · have := g2.out; omega
    · have := g3.out; omega
  have hFS : ∀ k, FmS B2 k → w4.heap.size ≤ k ∧ k < w5.heap.size := hB2.out
  have hS : Fr (fun k => k = w.heap.size) w6 (sets w6 w.heap.size 0 [pt (w5.heap.size + 1)]) := sets_fr (S := fun k => k = w.heap.size) (a := w6) (b := w.heap.size) (.inl rfl) _ w6 0 (Fr.refl _ _)
  have hxl := hxo.out.lt
  refine ret_b1 (p := 0) (g := w.heap.size) (v1 := pt (w5.heap.size + 1)) rfl rfl (sets_row [pt (w5.heap.size + 1)] w6 0 _ hb6.out) rfl rfl ⟨⟨w5.heap.size + 1, w5.heap.size, B2, xb, V, B, w2.heap.size, rb, sb⟩, rfl, ⟨Gr.x0, fun _ => v0, ⟨hS.row (hxo.out.congr (by intro i hi; rcases i with _ | _ | _ | i <;> first | rfl | omega)) (fun e => by have e : w5.heap.size + 1 = w.heap.size := e; omega), hK6.out.fr hS (fun k hk e => by have := hKS k hk; have e : k = w.heap.size := e; omega), hz6.out.fr hS (fun k hk e => by have := hFS k hk; have e : k = w.heap.size := e; omega), hS.row hbb.out (fun e => by have e : w5.heap.size = w.heap.size := e; omega), ?_⟩, shows0⟩, sets_fr (S := S0) (a := w) (b := w.heap.size) (.inr (Nat.le_refl _)) [pt (w5.heap.size + 1)] w6 0 hff6.out, fun k hk => ?_⟩
  · exact ⟨fun k hk e => by have := hKS k hk; have := hFS k e; omega, fun e => by have := hKS _ e; simp only at this; omega, fun e => by have := hKS _ e; simp only at this; omega, fun e => by have := hFS _ e; simp only at this; omega, fun e => by have := hFS _ e; simp only at this; omega, by simp only [ne_eq]; omega⟩
  · have h5 : w6.heap.size ≤ (sets w6 w.heap.size 0 [pt (w5.heap.size + 1)]).heap.size := hS.size
    rcases hk with e | e | e | e
    · have := hKS k e; exact ⟨by omega, Nat.lt_of_lt_of_le (m := w6.heap.size) (by omega) h5⟩
    · have := hFS k e; exact ⟨by omega, Nat.lt_of_lt_of_le (m := w6.heap.size) (by omega) h5⟩
    · have e : k = w5.heap.size + 1 := e; exact ⟨by omega, Nat.lt_of_lt_of_le (m := w6.heap.size) (by omega) h5⟩
    · have e : k = w5.heap.size := e; exact ⟨by omega, Nat.lt_of_lt_of_le (m := w6.heap.size) (by omega) h5⟩
theorem em_new (w : World) (fm cb : Nat) (M : YA) (h1 : M.fm = fm) (h2 : M.cb = cb) {H : Nat} (e : w.heap.size = H) : Row (w.alloc (.cells #[pt fm, pt cb, I 0] 100)) H 3 (emC M 0) := by
  subst e; subst h1; subst h2
  exact Row.new w _ 100 3 _ rfl (by intro i hi; rcases i with _ | _ | _ | i <;> first | rfl | omega)
set_option maxHeartbeats 2000000 in
theorem yNew_any (w : World) : Calls Tryz.prog 35 #[] w fun e w' => ∃ (M : YA) (sb : Nat), e = .returned (pt M.me) ∧ EY w' M sb (fun _ => es) (fun _ => v0) ∧ Fr S0 w w' ∧ (∀ k, SYa M sb k → w.heap.size ≤ k ∧ k < w'.heap.size) := by
  go_enter Tryz.func35, Tryz.ntmps35
  go_wp2_with (first
    | (go_at_call 70; refine (mnew_any _).mono ?_; rintro e w1 ⟨rfl, hm, hf, hsz⟩; have hm := Bx.mk hm; have hf := Bx.mk hf; have hsz := Bx.mk hsz)
    | (go_at_call 71; refine (cNew_any _).mono ?_; rintro e w2 ⟨cb, mb, fb, rb, sb, rfl, hC, hf2, hn⟩; have hC := Bx.mk hC; have hf2 := Bx.mk hf2; have hn := Bx.mk hn))
  go_ret
  have s1 := hsz.out
  have s2 := hf2.out.size
  have hn := hn.out
  have hA : ∀ k, CmS cb mb fb rb sb k → w.heap.size + 1 ≤ k ∧ k < w2.heap.size := fun k hk => by have := hn k hk; omega
  have fa : Fr S0 w2 (w2.alloc (.cells #[pt w.heap.size, pt cb, I 0] 100)) := (Fr.refl S0 _).alloc _
  refine ⟨⟨w2.heap.size, w.heap.size, cb, mb, fb, rb⟩, sb, rfl, ⟨⟨0, em_new w2 w.heap.size cb _ rfl rfl rfl⟩, hC.out.fr0 fa, (hm.out.fr hf2.out (fun e => e)).fr fa (fun e => e), fun e => by have := hA _ e; simp only at this; omega, fun e => by have := hA _ e; simp only at this; omega, by simp only [ne_eq]; omega⟩, (hf.out.trans hf2.out).trans fa, ?_⟩
  have hsz3 : (w2.alloc (.cells #[pt w.heap.size, pt cb, I 0] 100)).heap.size = w2.heap.size + 1 := by simp
  rintro k ((e | e | e | (e | e) | e) | e) <;> rw [hsz3]
  · simp only at e; omega
  · simp only at e; omega
  · have := hA k (.inl e); omega
  · have := hA k (.inr (.inl e)); omega
  · have := hA k (.inr (.inr (.inl e))); omega
  · have := hA k (.inr (.inr (.inr (.inl e)))); omega
  · have := hA k (.inr (.inr (.inr (.inr e)))); omega
def nilS : Value := .slice none 0 0
theorem bm_obj (w : World) (M : YA) {H : Nat} (e : w.heap.size = H) : Row (w.alloc (.cells #[pt M.me, .slice none 0 0, .slice none 0 0] 66)) H 3 (bmC M (.slice none 0 0) (.slice none 0 0)) := by
  subst e
  exact Row.new w _ 66 3 _ rfl (by intro i hi; rcases i with _ | _ | _ | i <;> first | rfl | omega)
set_option maxHeartbeats 2000000 in
theorem bmNew_any (w : World) : Calls Tryz.prog 10 #[] w fun e w' => ∃ (M : YA) (sb mk : Nat), e = .returned (pt mk) ∧ EY w' M sb (fun _ => es) (fun _ => v0) ∧ Row w' mk 3 (bmC M (.slice none 0 0) (.slice none 0 0)) ∧ Fr S0 w w' ∧ (∀ k, SYa M sb k → w.heap.size ≤ k ∧ k < mk) ∧ w.heap.size ≤ mk ∧ mk < w'.heap.size := by
  have h1 := Bx.mk (yNew_any w)
  go_enter Tryz.func10, Tryz.ntmps10
  go_wp2_with (first
    | (go_at_call 35; refine h1.out.mono ?_; clear h1; rintro e w1 ⟨M, sb, rfl, hY, hf, hn⟩; replace hY := Bx.mk hY; replace hf := Bx.mk hf; replace hn := Bx.mk hn))
  go_ret
  have s1 := hf.out.size
  have fa : Fr S0 w1 (w1.alloc (.cells #[pt M.me, .slice none 0 0, .slice none 0 0] 66)) := (Fr.refl S0 _).alloc _
  have hr := bm_obj w1 M rfl
  exact ⟨M, sb, w1.heap.size, rfl, hY.out.fr0 fa, hr, hf.out.trans fa, fun k hk => hn.out k hk, s1, hr.lt⟩
/-! ### book.New -/
theorem Tryz.info117 : (Tryz.prog.info? 117).map (fun i => (i.zero, i.size, i.bytes)) = some (some (.int .u32 0), 1, 4) := by kernel_rfl
def MP : Array Value := madeCells (Value.string es).cells (288 * 1)
def MT : Array Value := madeCells (Value.int .u32 0).cells (6 * 1)
def MO : Array Value := madeCells (Value.int .u8 0).cells (1056 * 1)
theorem MP_made : Made MP 288 1 (fun _ => .string es) := made_of rfl (by intro k hk; rcases k with _ | k <;> first | rfl | omega) (by omega)
theorem MT_made : Made MT 6 1 (fun _ => .int .u32 0) := made_of rfl (by intro k hk; rcases k with _ | k <;> first | rfl | omega) (by omega)
theorem MO_made : Made MO 1056 1 (fun _ => .int .u8 0) := made_of rfl (by intro k hk; rcases k with _ | k <;> first | rfl | omega) (by omega)
theorem mkP : ∀ u : World, (Instr.makeSlice 38 (.int .i64 288) (.int .i64 288)).run Tryz.prog u = .ok (sl u.heap.size 288 288) (u.alloc (.cells MP 9)) := mkOf Tryz.underlying38 Tryz.info9 288 (by omega) (by omega)
theorem mkT : ∀ u : World, (Instr.makeSlice 80 (.int .i64 6) (.int .i64 6)).run Tryz.prog u = .ok (sl u.heap.size 6 6) (u.alloc (.cells MT 117)) := mkOf Tryz.underlying80 Tryz.info117 6 (by omega) (by omega)
theorem mkO : ∀ u : World, (Instr.makeSlice 81 (.int .i64 1056) (.int .i64 1056)).run Tryz.prog u = .ok (sl u.heap.size 1056 1056) (u.alloc (.cells MO 5)) := by
  intro u
  obtain ⟨i0, hi0, hz0, hz1, hzb⟩ := info_parts Tryz.info5
  have hq : (i0.bytes : Int) * (1056 : Int) ≤ 281474976710656 := by rw [hzb]; omega
  have := run_make (P := Tryz.prog) u 81 5 i0 (Y 0) Tryz.underlying81 hi0 hz0 .i64 .i64 (1056 : Int) (1056 : Int) (by omega) (by omega) hq (by omega)
  rw [this, hz1]
  rfl
theorem mp_row {A : Array Value} (h : MP = A) (w : World) {H : Nat} (e : w.heap.size = H) : Row (w.alloc (.cells A 9)) H 288 (fun _ => .string es) := by
  subst h; exact MP_made.gridAt w 9 e
theorem mt_row {A : Array Value} (h : MT = A) (w : World) {H : Nat} (e : w.heap.size = H) : Row (w.alloc (.cells A 117)) H 6 (fun _ => .int .u32 0) := by
  subst h; exact MT_made.gridAt w 117 e
theorem mo_row {A : Array Value} (h : MO = A) (w : World) {H : Nat} (e : w.heap.size = H) : Row (w.alloc (.cells A 5)) H 1056 (fun _ => .int .u8 0) := by
  subst h; exact MO_made.gridAt w 5 e
set_option maxHeartbeats 4000000 in
theorem bkNew_any (xe : Nat) (w : World) : Calls Tryz.prog 24 #[pt xe] w fun e w' => ∃ R : RA, R.xe = xe ∧ e = .returned (pt R.bk) ∧ RG w' R 0 0 0 (fun _ => 0#32) (fun _ => es) (fun _ => es) ∧ Fr S0 w w' ∧ (∀ k, SR R k → w.heap.size ≤ k ∧ k < w'.heap.size) := by
  have k1 := mk38
  generalize hA : MS = A1 at k1
  replace hA := Bx.mk hA
  have k2 := mkP
  generalize hB : MP = A2 at k2
  replace hB := Bx.mk hB
  have k3 := mkT
  generalize hC : MT = A3 at k3
  replace hC := Bx.mk hC
  have k4 := mkO
  generalize hD : MO = A4 at k4
  replace hD := Bx.mk hD
  go_enter Tryz.func24, Tryz.ntmps24
  go_wp2_with fail
  go_ret
  have ho := Row.new w #[pt xe, sl (w.heap.size + 1) 288 288, sl (w.heap.size + 1 + 1) 6 6, I 0, I 0, I 0, sl (w.heap.size + 1 + 1 + 1) 24 24, sl (w.heap.size + 1 + 1 + 1 + 1) 1056 1056] 83 8 (bkC ⟨w.heap.size, xe, w.heap.size + 1, w.heap.size + 1 + 1, w.heap.size + 1 + 1 + 1, w.heap.size + 1 + 1 + 1 + 1⟩ 0 0 0) rfl (by intro i hi; rcases i with _ | _ | _ | _ | _ | _ | _ | _ | i <;> first | rfl | omega)
  have r2 := mp_row hB.out (w.alloc (.cells #[pt xe, sl (w.heap.size + 1) 288 288, sl (w.heap.size + 1 + 1) 6 6, I 0, I 0, I 0, sl (w.heap.size + 1 + 1 + 1) 24 24, sl (w.heap.size + 1 + 1 + 1 + 1) 1056 1056] 83)) (H := w.heap.size + 1) (by simp)
  have r3 := mt_row hC.out ((w.alloc (.cells #[pt xe, sl (w.heap.size + 1) 288 288, sl (w.heap.size + 1 + 1) 6 6, I 0, I 0, I 0, sl (w.heap.size + 1 + 1 + 1) 24 24, sl (w.heap.size + 1 + 1 + 1 + 1) 1056 1056] 83)).alloc (.cells A2 9)) (H := w.heap.size + 1 + 1) (by simp)
  have r4 := ms_row hA.out (((w.alloc (.cells #[pt xe, sl (w.heap.size + 1) 288 288, sl (w.heap.size + 1 + 1) 6 6, I 0, I 0, I 0, sl (w.heap.size + 1 + 1 + 1) 24 24, sl (w.heap.size + 1 + 1 + 1 + 1) 1056 1056] 83)).alloc (.cells A2 9)).alloc (.cells A3 117)) (H := w.heap.size + 1 + 1 + 1) (by simp)
  have r5 := mo_row hD.out ((((w.alloc (.cells #[pt xe, sl (w.heap.size + 1) 288 288, sl (w.heap.size + 1 + 1) 6 6, I 0, I 0, I 0, sl (w.heap.size + 1 + 1 + 1) 24 24, sl (w.heap.size + 1 + 1 + 1 + 1) 1056 1056] 83)).alloc (.cells A2 9)).alloc (.cells A3 117)).alloc (.cells A1 9)) (H := w.heap.size + 1 + 1 + 1 + 1) (by simp)
  have l5 := r5.lt
  have hz0 : Gr.U 0#32 = .int .u32 0 := by simp [uN]
  refine ⟨⟨w.heap.size, xe, w.heap.size + 1, w.heap.size + 1 + 1, w.heap.size + 1 + 1 + 1, w.heap.size + 1 + 1 + 1 + 1⟩, rfl, rfl, ⟨(((ho.alloc _).alloc _).alloc _).alloc _, ((r2.alloc _).alloc _).alloc _, ((r3.alloc _).alloc _).congr (fun i _ => hz0.symm), r4.alloc _, ⟨_, r5⟩, ?_⟩, (((((Fr.refl S0 w).alloc _).alloc _).alloc _).alloc _).alloc _, ?_⟩
  · constructor <;> (simp only [ne_eq]; omega)
  · rintro k (e | e | e | e | e) <;> (simp only at e; subst e; exact ⟨by omega, Nat.lt_of_le_of_lt (by omega) l5⟩)
theorem ring0 (H : Nat → Tx) : Ring (fun _ => 0#32) (fun _ => es) 0 0 0 H := ⟨by omega, by omega, fun k hk => absurd hk (by omega), fun k _ _ => ⟨rfl, fun _ _ _ _ => rfl⟩⟩
def tx0 : Tx := fun _ => es
theorem tx0_ok : TxO tx0 := ⟨fun c _ => (by decide : es.size ≤ 40), fun _ _ => rfl⟩
theorem bk_start {w : World} {R : RA} {A : XA} (hxe : R.xe = A.xe) (hX : XB w A tx0) (hG : RG w R 0 0 0 (fun _ => 0#32) (fun _ => es) (fun _ => es)) (hd : ∀ k, SR R k → ¬ SE A k) : BK w R A tx0 (fun _ => tx0) 0 0 :=
  ⟨hxe, hX, ⟨0, _, _, _, hG, ring0 _⟩, rfl, fun _ _ => tx0_ok, hd⟩
def dk0 : Dk := ⟨es, es, es, tx0⟩
theorem sav0 : bs (savFrom tx0 0) = es := by
  have : ∀ (k c : Nat), savF tx0 k c = [] := by
    intro k
    induction k with
    | zero => intro c; rfl
    | succ k ih => intro c; unfold savF pieceP; rw [if_pos (by show es.size = 0; decide), ih]; rfl
  unfold savFrom
  rw [this]; rfl
open Classical in
/-- The colours at the start. -/
noncomputable def col0 (P Q : Nat → Prop) (mk dk : Nat) : Nat → Nat := fun k => if P k then 1 else if Q k then 2 else if k = mk then 8 else if k = dk then 7 else 0
theorem ws_start {w : World} {R : RA} {A : XA} {M : YA} {sb mk dk : Nat} (hb : BK w R A tx0 (fun _ => tx0) 0 0) (hY : EY w M sb tx0 (fun _ => v0)) (hm : Row w mk 3 (bmC M (.slice none 0 0) (.slice none 0 0))) (hd : Row w dk 6 (dkC dk0 (.slice none 0 0) (.slice none 0 0) (.slice none 0 0)))
    (h1 : ∀ k, SBk R A k → ¬ SYa M sb k ∧ k ≠ mk ∧ k ≠ dk) (h2 : ∀ k, SYa M sb k → k ≠ mk ∧ k ≠ dk) (h3 : mk ≠ dk) : WS w (col0 (SBk R A) (SYa M sb) mk dk) ⟨R, A, mk, M, dk⟩ tx0 [] [] dk0 ∧ ∀ k, col0 (SBk R A) (SYa M sb) mk dk k ≠ 0 → SBk R A k ∨ SYa M sb k ∨ k = mk ∨ k = dk := by
  have c1 : ∀ k, SBk R A k → col0 (SBk R A) (SYa M sb) mk dk k = 1 := fun k hk => by unfold col0; rw [if_pos hk]
  have c2 : ∀ k, SYa M sb k → col0 (SBk R A) (SYa M sb) mk dk k = 2 := fun k hk => by unfold col0; rw [if_neg (fun e => (h1 k e).1 hk), if_pos hk]
  have c3 : col0 (SBk R A) (SYa M sb) mk dk mk = 8 := by unfold col0; rw [if_neg (fun e => (h1 _ e).2.1 rfl), if_neg (fun e => (h2 _ e).1 rfl), if_pos rfl]
  have c4 : col0 (SBk R A) (SYa M sb) mk dk dk = 7 := by unfold col0; rw [if_neg (fun e => (h1 _ e).2.2 rfl), if_neg (fun e => (h2 _ e).2 rfl), if_neg (fun e => h3 e.symm), if_pos rfl]
  refine ⟨⟨⟨⟨_, 0, 0, hb, hist0 _⟩, c1⟩, ⟨_, _, ⟨hm, ⟨sb, _, hY, shows0, c2⟩, c3, tx0_ok⟩, lt_nil _ _ _, lt_nil _ _ _, by simp, by simp⟩, ⟨_, _, _, hd, c4, .inl ⟨rfl, rfl⟩, lt_nil _ _ _, lt_nil _ _ _, sav0.symm, tx0_ok, (by decide : es.size ≤ 1057)⟩⟩, fun k hk => ?_⟩
  unfold col0 at hk
  by_cases e1 : SBk R A k
  · exact .inl e1
  · rw [if_neg e1] at hk
    by_cases e2 : SYa M sb k
    · exact .inr (.inl e2)
    · rw [if_neg e2] at hk
      by_cases e3 : k = mk
      · exact .inr (.inr (.inl e3))
      · rw [if_neg e3] at hk
        by_cases e4 : k = dk
        · exact .inr (.inr (.inr e4))
        · rw [if_neg e4] at hk; exact absurd rfl hk
end Go.Proofs.Qxb6500326aGreat
