import Derived.Test.Qxb6500328aGreatL5
import Derived.Test.Qxb6500328aGreatN6
namespace Go.Proofs.Qxb6500328aGreat
set_option maxRecDepth 100000
set_option linter.unusedVariables false
set_option linter.unusedSimpArgs false
open Go.RowKit Go.PlainAid

/-! ### the building -/
theorem Tryz.size30 : (Tryz.prog.info? 30).map (·.size) = some 2 := by kernel_rfl
theorem row2_heap {w : World} {b : Nat} {f : Nat → Value} (h : Row w b 2 f) : ∃ T, w.heap[b]? = some (.cells #[f 0, f 1] T (0, 0)) := by
  obtain ⟨arr, T, h1, h2, h3⟩ := h
  refine ⟨T, ?_⟩
  rw [h1]
  have : arr = #[f 0, f 1] := by
    apply Array.ext_getElem?
    intro i
    rcases Nat.lt_or_ge i 2 with hi | hi
    · rw [h3 i hi]
      have : i = 0 ∨ i = 1 := by omega
      rcases this with e | e <;> subst e <;> rfl
    · rw [Array.getElem?_eq_none (by omega), Array.getElem?_eq_none (by simpa using hi)]
  rw [this]
theorem ret_be {fn : Func} {R : Ending → World → Prop} {a : Act} {w : World} {p : Tmp} {g : Nat} {f : Nat → Value} {v1 v2 : Value} (hr : fn.results = #[.cell p 30]) (hp : a.tmps.getD p undef = pt g) (hrow : Row w g 2 f) (h1 : f 0 = v1) (h2 : f 1 = v2) (hd : a.defers = [])
    (hR : R (.returned (.agg #[v1, v2])) w) : bodyPost Tryz.prog fn R .ret a w := by
  subst h1 h2
  obtain ⟨T, hh⟩ := row2_heap hrow
  exact bodyPost_ret (results_cell_row hr a.tmps w g T _ (0, 0) _ hp hh Tryz.underlying30 rfl (by rw [Tryz.size30]; rfl)) hd hR
set_option maxHeartbeats 4000000 in
theorem ground_any (w : World) : Calls Tryz.prog 8 #[] w fun e w' => ∃ (B2 : FB) (xb : Nat) (V : VB) (B : FB) (gb rb sb : Nat), e = .returned (.agg #[pt B2.f, pt xb]) ∧ KM w' xb V B gb rb sb Gr.x0 (fun _ => es) (fun _ => v0) ∧ FZ w' B2 ∧ Fr S0 w w' ∧ (∀ k, KS xb V B gb rb sb k ∨ FmS B2 k → w.heap.size ≤ k ∧ k < w'.heap.size) ∧ (∀ k, KS xb V B gb rb sb k → ¬ FmS B2 k) := by
  have hb := Bx.mk (Row.new w #[.pointer none, .pointer none] 30 2 (fun _ => .pointer none) rfl (by intro i hi; rcases i with _ | _ | i <;> first | rfl | omega))
  have hnew : Bx (∀ wx, Calls Tryz.prog 17 #[] wx fun e w' => ∃ B : FB, e = .returned (pt B.f) ∧ FZ w' B ∧ Fr S0 wx w' ∧ (∀ k, FmS B k → wx.heap.size ≤ k ∧ k < w'.heap.size)) := ⟨new_any⟩
  have hnew2 := hnew
  go_enter Tryz.func8, Tryz.ntmps8
  go_wp2_with (first
    | (go_at_call 17; refine (hnew.out _).mono ?_; clear hnew; rintro e w1 ⟨B, rfl, hz1, hf1, hB⟩; have hb1 := Bx.mk (hf1.row0 hb.out); have hz1 := Bx.mk hz1; have hff1 := Bx.mk (((Fr.refl S0 w).alloc _).trans hf1); have hB : Bx (∀ k, FmS B k → w.heap.size + 1 ≤ k ∧ k < w1.heap.size) := ⟨fun k hk => by have := hB k hk; simpa using this⟩; clear hf1)
    | (go_at_call 18; refine (newV_any B _ hz1.out).mono ?_; rintro e w2 ⟨V, rfl, hz2, hf2, hV⟩; have hb2 := Bx.mk (hf2.row0 hb1.out); have hz2 := Bx.mk hz2; have hff2 := Bx.mk (hff1.out.trans hf2); have hV := Bx.mk hV; have hs2 : Bx (w1.heap.size ≤ w2.heap.size) := ⟨hf2.size⟩; clear hf2)
    | (go_at_call 19; refine (Gr.xNew_any _).mono ?_; rintro e w3 ⟨rfl, hX, hf3, hsz⟩; have hb3 := Bx.mk (hf3.row0 hb2.out); have hz3 := Bx.mk (hz2.out.fr0 hf3); have hX := Bx.mk hX; have hff3 := Bx.mk (hff2.out.trans hf3); have hsz := Bx.mk hsz; clear hf3; have hgv : Bx (∀ k, Gr.SX w2.heap.size k → ¬ VF V B k) := ⟨fun k hk hv => by have s2 := hs2.out; have hk1 := hk.1; rcases hv with e | e; (have := hV.out k e; omega); (have := hB.out k e; omega)⟩)
    | (go_at_call 20; refine (kNew_any V B w2.heap.size _ hz3.out hX.out hgv.out).mono ?_; rintro e w4 ⟨xb, rb, sb, rfl, hK, hf4, g1, g2, g3⟩; have hb4 := Bx.mk (hf4.row0 hb3.out); have hK := Bx.mk hK; have hff4 := Bx.mk (hff3.out.trans hf4); have g1 := Bx.mk g1; have g2 := Bx.mk g2; have g3 := Bx.mk g3; have hs4 : Bx (w3.heap.size ≤ w4.heap.size) := ⟨hf4.size⟩; clear hf4)
    | (go_at_call 17; refine (hnew2.out _).mono ?_; clear hnew2; rintro e w5 ⟨B2, rfl, hz5, hf5, hB2⟩; have hb5 := Bx.mk (hf5.row0 hb4.out); have hz5 := Bx.mk hz5; have hK5 := Bx.mk (hK.out.fr0 hf5); have hff5 := Bx.mk (hff4.out.trans hf5); have hB2 := Bx.mk hB2; have hs5 : Bx (w4.heap.size ≤ w5.heap.size) := ⟨hf5.size⟩; have y0 := hb5.out.frozen 0; have y1 := hb5.out.frozen 1; have q0 := hb5.out.cell 0 (by omega); have q1 := hb5.out.cell 1 (by omega); have hbl := hb5.out.lt; clear hf5))
  have s2 := hs2.out
  have s3 := hsz.out
  have s4 := hs4.out
  have s5 := hs5.out
  have hw1 : w.heap.size + 1 ≤ w1.heap.size := by have := hb1.out.lt; omega
  have hKS : ∀ k, KS xb V B w2.heap.size rb sb k → w.heap.size + 1 ≤ k ∧ k < w4.heap.size := by
    intro k hk
    have hlt := hK.out.lt k hk
    refine ⟨?_, hlt⟩
    rcases hk with e | (e | e) | e | e | e
    · have := g1.out; omega
    · have := hV.out k e; omega
    · have := hB.out k e; omega
    · have := e.1; omega
    · have := g2.out; omega
    · have := g3.out; omega
  have hS : Fr (fun k => k = w.heap.size) w5 (sets w5 w.heap.size 0 [pt B2.f, pt xb]) := sets_fr (S := fun k => k = w.heap.size) (a := w5) (b := w.heap.size) (.inl rfl) _ w5 0 (Fr.refl _ _)
  refine ret_be (p := 0) (g := w.heap.size) (v1 := pt B2.f) (v2 := pt xb) rfl rfl (sets_row [pt B2.f, pt xb] w5 0 _ hb5.out) rfl rfl rfl ⟨B2, xb, V, B, w2.heap.size, rb, sb, rfl, hK5.out.fr hS (fun k hk e => by have := hKS k hk; have e : k = w.heap.size := e; omega), hz5.out.fr hS (fun k hk e => by have := hB2.out k hk; have e : k = w.heap.size := e; omega), sets_fr (S := S0) (a := w) (b := w.heap.size) (.inr (Nat.le_refl _)) [pt B2.f, pt xb] w5 0 hff5.out, fun k hk => ?_, fun k hk hv => ?_⟩
  · have h5 : w5.heap.size ≤ (sets w5 w.heap.size 0 [pt B2.f, pt xb]).heap.size := hS.size
    rcases hk with e | e
    · have := hKS k e; exact ⟨by omega, Nat.lt_of_lt_of_le (m := w5.heap.size) (by omega) h5⟩
    · have := hB2.out k e; exact ⟨by omega, Nat.lt_of_lt_of_le (m := w5.heap.size) (by omega) h5⟩
  · have := hKS k hk; have := hB2.out k hv; omega
theorem em_new (w : World) (fm cb : Nat) (M : YA) (h1 : M.fm = fm) (h2 : M.cb = cb) {H : Nat} (e : w.heap.size = H) : Row (w.alloc (.cells #[pt fm, pt cb, I 0] 61)) H 3 (emC M 0) := by
  subst e; subst h1; subst h2
  exact Row.new w _ 61 3 _ rfl (by intro i hi; rcases i with _ | _ | _ | i <;> first | rfl | omega)
set_option maxHeartbeats 2000000 in
theorem yNew_any (w : World) : Calls Tryz.prog 9 #[] w fun e w' => ∃ (M : YA) (sb : Nat), e = .returned (pt M.me) ∧ EY w' M sb (fun _ => es) (fun _ => v0) ∧ Fr S0 w w' ∧ (∀ k, SYa M sb k → w.heap.size ≤ k ∧ k < w'.heap.size) := by
  go_enter Tryz.func9, Tryz.ntmps9
  go_wp2_with (first
    | (go_at_call 21; refine (mnew_any _).mono ?_; rintro e w1 ⟨rfl, hm, hf, hsz⟩; have hm := Bx.mk hm; have hf := Bx.mk hf; have hsz := Bx.mk hsz)
    | (go_at_call 22; refine (cNew_any _).mono ?_; rintro e w2 ⟨cb, mb, fb, rb, sb, rfl, hC, hf2, hn⟩; have hC := Bx.mk hC; have hf2 := Bx.mk hf2; have hn := Bx.mk hn))
  go_ret
  have s1 := hsz.out
  have s2 := hf2.out.size
  have hn := hn.out
  have hA : ∀ k, CmS cb mb fb rb sb k → w.heap.size + 1 ≤ k ∧ k < w2.heap.size := fun k hk => by have := hn k hk; omega
  have fa : Fr S0 w2 (w2.alloc (.cells #[pt w.heap.size, pt cb, I 0] 61)) := (Fr.refl S0 _).alloc _
  refine ⟨⟨w2.heap.size, w.heap.size, cb, mb, fb, rb⟩, sb, rfl, ⟨⟨0, em_new w2 w.heap.size cb _ rfl rfl rfl⟩, hC.out.fr0 fa, (hm.out.fr hf2.out (fun e => e)).fr fa (fun e => e), fun e => by have := hA _ e; simp only at this; omega, fun e => by have := hA _ e; simp only at this; omega, by simp only [ne_eq]; omega⟩, (hf.out.trans hf2.out).trans fa, ?_⟩
  have hsz3 : (w2.alloc (.cells #[pt w.heap.size, pt cb, I 0] 61)).heap.size = w2.heap.size + 1 := by simp
  rintro k ((e | e | e | (e | e) | e) | e) <;> rw [hsz3]
  · simp only at e; omega
  · simp only at e; omega
  · have := hA k (.inl e); omega
  · have := hA k (.inr (.inl e)); omega
  · have := hA k (.inr (.inr (.inl e))); omega
  · have := hA k (.inr (.inr (.inr (.inl e)))); omega
  · have := hA k (.inr (.inr (.inr (.inr e)))); omega
def exC0 (f xb bb : Nat) : Nat → Value
  | 0 => pt f
  | 1 => pt xb
  | _ => sl bb 24 24
theorem ex_obj (w : World) (f xb bb : Nat) (T : TypeId) {H : Nat} (e : w.heap.size = H) : Row (w.alloc (.cells #[pt f, pt xb, sl bb 24 24] T)) H 3 (exC0 f xb bb) := by
  subst e
  exact Row.new w _ T 3 _ rfl (by intro i hi; rcases i with _ | _ | _ | i <;> first | rfl | omega)
set_option maxHeartbeats 2000000 in
theorem xNew_any2 (f xb : Nat) (w : World) : Calls Tryz.prog 11 #[pt f, pt xb] w fun e w' => e = .returned (pt (w.heap.size + 1)) ∧ Row w' (w.heap.size + 1) 3 (exC0 f xb w.heap.size) ∧ Row w' w.heap.size 24 (fun _ => .string es) ∧ Fr S0 w w' := by
  have kk1 := mk38
  generalize hA : MS = A1 at kk1
  have hA := Bx.mk hA
  go_enter Tryz.func11, Tryz.ntmps11
  go_wp2_with fail
  go_ret
  exact ⟨rfl, ex_obj (w.alloc (.cells A1 9)) f xb w.heap.size 63 (H := w.heap.size + 1) (by simp), (ms_row hA.out w rfl).alloc _, ((Fr.refl S0 w).alloc _).alloc _⟩
/-! ### the walk's state -/
structure WP (w0 w : World) (D : DA) (sb : Nat) (x : Gr.XS) (T : Nat → ByteArray) (E : Nat → Vl) (reg : ByteArray) (Wt : Nat → ByteArray) (We : Nat → Vl) : Prop where
  ws : WS w D sb x T E reg Wt We
  new : ∀ k, SU D sb k → w0.heap.size ≤ k
  fr : Fr S0 w0 w
theorem SU.new {D : DA} {m sb k : Nat} (h : SU D m k) : SU D sb k ∨ k = m := by
  rcases h with e | (e | e) | e
  · exact .inl (.inl e)
  · exact .inl (.inr (.inl (.inl e)))
  · exact .inr e
  · exact .inl (.inr (.inr e))
section
variable {w0 w w' : World} {D : DA} {sb m : Nat} {x x' : Gr.XS} {T T' : Nat → ByteArray} {E E' : Nat → Vl} {reg reg' : ByteArray} {Wt Wt' : Nat → ByteArray} {We We' : Nat → Vl}
theorem WP.step (h : WP w0 w D sb x T E reg Wt We) (hw : WS w' D m x' T' E' reg' Wt' We') (f : Fr (SU D sb) w w') (hm : m = sb ∨ w.heap.size ≤ m) : WP w0 w' D m x' T' E' reg' Wt' We' := by
  have h0 := h.fr.size
  refine ⟨hw, fun k hk => ?_, h.fr.step f (fun k hk => .inr (h.new k hk))⟩
  rcases hm with rfl | hm
  · exact h.new k hk
  · rcases SU.new (sb := sb) hk with e | e
    · exact h.new k e
    · omega
theorem WP.fr0 (h : WP w0 w D sb x T E reg Wt We) (f : Fr S0 w w') : WP w0 w' D sb x T E reg Wt We := h.step (h.ws.fr0 f) f.up (.inl rfl)
end
def de0 (f xb me wsb shb : Nat) : Nat → Value
  | 0 => pt f
  | 1 => pt xb
  | 2 => .pointer none
  | 3 => pt me
  | 4 => .string es
  | 5 => sl wsb 24 24
  | _ => sl shb 24 24
theorem de_obj (w : World) (f xb me wsb shb : Nat) (T : TypeId) {H : Nat} (e : w.heap.size = H) : Row (w.alloc (.cells #[pt f, pt xb, .pointer none, pt me, .string es, sl wsb 24 24, sl shb 24 24] T)) H 7 (de0 f xb me wsb shb) := by
  subst e
  exact Row.new w _ T 7 _ rfl (by intro i hi; rcases i with _ | _ | _ | _ | _ | _ | _ | i <;> first | rfl | omega)
theorem Row.de0c {w : World} {d f xb me wsb shb : Nat} (h : Row w d 7 (de0 f xb me wsb shb)) : w.cell? ⟨d, 0, none⟩ = some (pt f) ∧ w.cell? ⟨d, 1, none⟩ = some (pt xb) ∧ w.cell? ⟨d, 2, none⟩ = some (.pointer none) ∧ w.frozen? ⟨d, 2, none⟩ = false ∧ d < w.heap.size :=
  ⟨h.cell 0 (by omega), h.cell 1 (by omega), h.cell 2 (by omega), h.frozen 2, h.lt⟩
/-- The building is done. -/
theorem wp_start {w0 w1 w2 w3 w4 w5 : World} {B2 : FB} {xb : Nat} {V : VB} {B : FB} {gb rb ksb : Nat} {M : YA} {sb d wsb shb H : Nat}
    (hf1 : Fr S0 w0 w1) (hK : KM w1 xb V B gb rb ksb Gr.x0 (fun _ => es) (fun _ => v0)) (hz : FZ w1 B2) (hn1 : ∀ k, KS xb V B gb rb ksb k ∨ FmS B2 k → w0.heap.size ≤ k ∧ k < w1.heap.size) (hdj : ∀ k, KS xb V B gb rb ksb k → ¬ FmS B2 k)
    (hf2 : Fr S0 w1 w2) (hY : EY w2 M sb (fun _ => es) (fun _ => v0)) (hn2 : ∀ k, SYa M sb k → w1.heap.size ≤ k ∧ k < w2.heap.size)
    (hf3 : Fr S0 w2 w3) (hd : Row w3 d 7 (de0 B2.f xb M.me wsb shb)) (hws : Row w3 wsb 24 (fun _ => .string es)) (hsh : EL w3 shb 24 (fun _ => v0)) (q1 : d ≠ wsb ∧ d ≠ shb ∧ wsb ≠ shb) (q2 : w2.heap.size ≤ d ∧ w2.heap.size ≤ wsb ∧ w2.heap.size ≤ shb)
    (hf4 : Fr S0 w3 w4) (hxe : Row w4 (H + 1) 3 (exC0 B2.f xb H)) (hbb : Row w4 H 24 (fun _ => .string es)) (hH : w3.heap.size ≤ H) (e5 : w5 = w4.setCell ⟨d, 2, none⟩ (pt (H + 1))) :
    WP w0 w5 ⟨⟨H + 1, H, B2, xb, V, B, gb, rb, ksb⟩, M, d, wsb, shb⟩ sb Gr.x0 (fun _ => es) (fun _ => v0) es (fun _ => es) (fun _ => v0) := by
  have s1 := hf1.size
  have s2 := hf2.size
  have s3 := hf3.size
  have ld := hd.lt
  have lw := hws.lt
  have ls := Row.lt hsh
  have fS : Fr (fun k => k = d) w4 w5 := by rw [e5]; exact (Fr.refl (fun k => k = d) w4).setCell (p := ⟨d, 2, none⟩) (.inl rfl) _
  have hf14 : Fr S0 w1 w4 := (hf2.trans hf3).trans hf4
  have hE : ∀ k, SE ⟨H + 1, H, B2, xb, V, B, gb, rb, ksb⟩ k → (w0.heap.size ≤ k ∧ k < w1.heap.size) ∨ w3.heap.size ≤ k := by
    rintro k (e | e | e | e)
    · exact .inl (hn1 k (.inl e))
    · exact .inl (hn1 k (.inr e))
    · exact .inr (by have e : k = H + 1 := e; omega)
    · exact .inr (by have e : k = H := e; omega)
  have hD : ∀ k, (k = d ∨ k = wsb ∨ k = shb) → w2.heap.size ≤ k ∧ k < w3.heap.size := by
    rintro k (e | e | e)
    · rw [e]; exact ⟨q2.1, ld⟩
    · rw [e]; exact ⟨q2.2.1, lw⟩
    · rw [e]; exact ⟨q2.2.2, ls⟩
  have hnd : ∀ k, (k < w2.heap.size ∨ w3.heap.size ≤ k) → ¬ k = d := fun k hk e => by have := hD d (.inl rfl); omega
  refine ⟨⟨⟨fS.row (hxe.congr (by intro i hi; rcases i with _ | _ | _ | i <;> first | rfl | omega)) (hnd _ (.inr (by simp only; omega))), (hK.fr0 hf14).fr fS (fun k hk => hnd k (.inl (by have := hn1 k (.inl hk); omega))), (hz.fr0 hf14).fr fS (fun k hk => hnd k (.inl (by have := hn1 k (.inr hk); omega))), fS.row hbb (hnd _ (.inr (by simp only; omega))), ?_⟩, ((hY.fr0 hf3).fr0 hf4).fr fS (fun k hk => hnd k (.inl (hn2 k hk).2)), ?_, fS.row (hf4.row0 hws) (fun e => q1.1 e.symm), (hsh.of hf4 (fun e => e)).of fS (fun e => q1.2.1 e.symm), ?_⟩, ?_, ?_⟩
  · have hKl : ∀ k, KS xb V B gb rb ksb k → k < w1.heap.size := fun k hk => (hn1 k (.inl hk)).2
    have hFl : ∀ k, FmS B2 k → k < w1.heap.size := fun k hk => (hn1 k (.inr hk)).2
    exact ⟨hdj, fun e => by have := hKl _ e; simp only at this; omega, fun e => by have := hKl _ e; simp only at this; omega, fun e => by have := hFl _ e; simp only at this; omega, fun e => by have := hFl _ e; simp only at this; omega, by simp only [ne_eq]; omega⟩
  · rw [e5]
    exact ((hf4.row0 hd).set 2 (pt (H + 1))).congr (by intro i hi; rcases i with _ | _ | _ | _ | _ | _ | _ | i <;> first | rfl | omega)
  · refine ⟨fun k hk e => ?_, fun k hk e => ?_, fun k hk e => ?_, q1.1, q1.2.1, q1.2.2⟩
    · have := hE k hk; have := hn2 k e; omega
    · have := hE k hk; have := hD k e; omega
    · have := hn2 k hk; have := hD k e; omega
  · rintro k (e | e | e)
    · have := hE k e; omega
    · have := hn2 k e; omega
    · have := hD k e; omega
  · rw [e5]
    exact (hf1.trans hf14).setCell (p := ⟨d, 2, none⟩) (.inr (by have := hD d (.inl rfl); show w0.heap.size ≤ d; omega)) _
end Go.Proofs.Qxb6500328aGreat
