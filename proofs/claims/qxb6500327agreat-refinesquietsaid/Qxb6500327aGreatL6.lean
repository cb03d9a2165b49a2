import Derived.Test.Qxb6500327aGreatL5
namespace Go.Proofs.Qxb6500327aGreat
set_option maxRecDepth 100000
set_option linter.unusedVariables false
set_option linter.unusedSimpArgs false
open Go.RowKit Go.PlainAid

/-! ### the ground -/
theorem Tryz.size31 : (Tryz.prog.info? 31).map (·.size) = some 3 := by kernel_rfl
theorem row3_heap {w : World} {b : Nat} {f : Nat → Value} (h : Row w b 3 f) : ∃ T, w.heap[b]? = some (.cells #[f 0, f 1, f 2] T (0, 0)) := by
  obtain ⟨arr, T, h1, h2, h3⟩ := h
  refine ⟨T, ?_⟩
  rw [h1]
  have : arr = #[f 0, f 1, f 2] := by
    apply Array.ext_getElem?
    intro i
    rcases Nat.lt_or_ge i 3 with hi | hi
    · rw [h3 i hi]
      have : i = 0 ∨ i = 1 ∨ i = 2 := by omega
      rcases this with e | e | e <;> subst e <;> rfl
    · rw [Array.getElem?_eq_none (by omega), Array.getElem?_eq_none (by simpa using hi)]
  rw [this]
theorem ret_bl {fn : Func} {R : Ending → World → Prop} {a : Act} {w : World} {p : Tmp} {g : Nat} {f : Nat → Value} {v1 v2 v3 : Value} (hr : fn.results = #[.cell p 31]) (hp : a.tmps.getD p undef = pt g) (hrow : Row w g 3 f) (h1 : f 0 = v1) (h2 : f 1 = v2) (h3 : f 2 = v3) (hd : a.defers = [])
    (hR : R (.returned (.agg #[v1, v2, v3])) w) : bodyPost Tryz.prog fn R .ret a w := by
  subst h1 h2 h3
  obtain ⟨T, hh⟩ := row3_heap hrow
  exact bodyPost_ret (results_cell_row hr a.tmps w g T _ (0, 0) _ hp hh Tryz.underlying31 rfl (by rw [Tryz.size31]; rfl)) hd hR
set_option maxHeartbeats 2000000 in
theorem ground_any (w : World) : Calls Tryz.prog 8 #[] w fun e w' => ∃ (V : VB) (B : FB) (gb mb fb : Nat), e = .returned (.agg #[pt V.e, pt gb, pt mb]) ∧ EZ w' V B ∧ Gr.XG w' gb Gr.x0 ∧ MEv w' mb fb ∧ Fr S0 w w' ∧ (∀ k, VF V B k ∨ Gr.SX gb k ∨ MeS mb fb k → w.heap.size ≤ k ∧ k < w'.heap.size) ∧ (∀ k, Gr.SX gb k → ¬ VF V B k) ∧ (∀ k, MeS mb fb k → ¬ VF V B k ∧ ¬ Gr.SX gb k) := by
  have hb := Bx.mk (Row.new w #[.pointer none, .pointer none, .pointer none] 31 3 (fun _ => .pointer none) rfl (by intro i hi; rcases i with _ | _ | _ | i <;> first | rfl | omega))
  go_enter Tryz.func8, Tryz.ntmps8
  go_wp2_with (first
    | (go_at_call 18; refine (new_any _).mono ?_; rintro e w1 ⟨B, rfl, hz1, hf1, hB⟩; have hb1 := Bx.mk (hf1.row0 hb.out); have hz1 := Bx.mk hz1; have hff1 := Bx.mk (((Fr.refl S0 w).alloc _).trans hf1); have hB : Bx (∀ k, FmS B k → w.heap.size + 1 ≤ k ∧ k < w1.heap.size) := ⟨fun k hk => by have := hB k hk; simpa using this⟩; clear hf1)
    | (go_at_call 19; refine (newV_any B _ hz1.out).mono ?_; rintro e w2 ⟨V, rfl, hz2, hf2, hV⟩; have hb2 := Bx.mk (hf2.row0 hb1.out); have hz2 := Bx.mk hz2; have hff2 := Bx.mk (hff1.out.trans hf2); have hV := Bx.mk hV; have hs2 : Bx (w1.heap.size ≤ w2.heap.size) := ⟨hf2.size⟩; clear hf2)
    | (go_at_call 20; refine (Gr.xNew_any _).mono ?_; rintro e w3 ⟨rfl, hX, hf3, hsz⟩; have hb3 := Bx.mk (hf3.row0 hb2.out); have hz3 := Bx.mk (hz2.out.fr0 hf3); have hX := Bx.mk hX; have hff3 := Bx.mk (hff2.out.trans hf3); have hsz := Bx.mk hsz; clear hf3)
    | (go_at_call 21; refine (meNew_any _).mono ?_; rintro e w4 ⟨mb, fb, rfl, hm, hf4, hM⟩; have hb4 := Bx.mk (hf4.row0 hb3.out); have hz4 := Bx.mk (hz3.out.fr0 hf4); have hX4 := Bx.mk (hX.out.fr0 hf4); have hm := Bx.mk hm; have hff4 := Bx.mk (hff3.out.trans hf4); have hM := Bx.mk hM; have hs4 : Bx (w3.heap.size ≤ w4.heap.size) := ⟨hf4.size⟩; have y0 := hb4.out.frozen 0; have y1 := hb4.out.frozen 1; have y2 := hb4.out.frozen 2; have q0 := hb4.out.cell 0 (by omega); have q1 := hb4.out.cell 1 (by omega); have q2 := hb4.out.cell 2 (by omega); have hbl := hb4.out.lt; clear hf4))
  have s2 := hs2.out
  have s3 := hsz.out
  have s4 := hs4.out
  have hw1 : w.heap.size + 1 ≤ w1.heap.size := by have := hb1.out.lt; omega
  have hVF : ∀ k, VF V B k → w.heap.size + 1 ≤ k ∧ k < w2.heap.size := by
    rintro k (e | e)
    · have := hV.out k e; omega
    · have := hB.out k e; omega
  have hGX : ∀ k, Gr.SX w2.heap.size k → w2.heap.size ≤ k ∧ k < w3.heap.size := by rintro k ⟨e1, e2⟩; omega
  have hMM := hM.out
  have hS : Fr (fun k => k = w.heap.size) w4 (sets w4 w.heap.size 0 [pt V.e, pt w2.heap.size, pt mb]) := sets_fr (S := fun k => k = w.heap.size) (a := w4) (b := w.heap.size) (.inl rfl) _ w4 0 (Fr.refl _ _)
  refine ret_bl (p := 0) (g := w.heap.size) (v1 := pt V.e) (v2 := pt w2.heap.size) (v3 := pt mb) rfl rfl (sets_row [pt V.e, pt w2.heap.size, pt mb] w4 0 _ hb4.out) rfl rfl rfl rfl ⟨V, B, w2.heap.size, mb, fb, rfl, hz4.out.fr hS (fun k hk e => by have := hVF k hk; have e : k = w.heap.size := e; omega), hX4.out.fr hS (fun k e hk => by have := hGX k hk; have e : k = w.heap.size := e; omega), hm.out.fr hS (fun e => by have := hMM mb (.inl rfl); have e : mb = w.heap.size := e; omega) (fun e => by have := hMM fb (.inr rfl); have e : fb = w.heap.size := e; omega), sets_fr (S := S0) (a := w) (b := w.heap.size) (.inr (Nat.le_refl _)) [pt V.e, pt w2.heap.size, pt mb] w4 0 hff4.out, fun k hk => ?_, fun k hk hv => ?_, fun k hk => ⟨fun hv => ?_, fun hv => ?_⟩⟩
  · have h5 : w4.heap.size ≤ (sets w4 w.heap.size 0 [pt V.e, pt w2.heap.size, pt mb]).heap.size := hS.size
    rcases hk with e | e | e
    · have := hVF k e; exact ⟨by omega, Nat.lt_of_lt_of_le (m := w4.heap.size) (by omega) h5⟩
    · have := hGX k e; exact ⟨by omega, Nat.lt_of_lt_of_le (m := w4.heap.size) (by omega) h5⟩
    · have := hMM k e; exact ⟨by omega, Nat.lt_of_lt_of_le (m := w4.heap.size) (by omega) h5⟩
  · have := hVF k hv; have := hGX k hk; omega
  · have := hVF k hv; have := hMM k hk; omega
  · have := hGX k hv; have := hMM k hk; omega

/-! ### the walk's state -/
structure WP (w0 w : World) (A : AD) (bb msb : Nat) (x : Gr.XS) (T : Nat → ByteArray) (E : Nat → Vl) (D : DS) : Prop where
  ws : WS w A msb x T E D
  bl : Row w bb 3 (blC A)
  hb : ¬ SU A msb bb
  new : ∀ k, SU A msb k → w0.heap.size ≤ k
  fr : Fr S0 w0 w
theorem SU.new {A : AD} {m msb k : Nat} (h : SU A m k) : SU A msb k ∨ k = m := by
  rcases h with e | (e | e | e | e | e) | e | e
  · exact .inl (.inl e)
  · exact .inl (.inr (.inl (.inl e)))
  · exact .inl (.inr (.inl (.inr (.inl e))))
  · exact .inl (.inr (.inl (.inr (.inr (.inl e)))))
  · exact .inl (.inr (.inl (.inr (.inr (.inr (.inl e))))))
  · exact .inr e
  · exact .inl (.inr (.inr (.inl e)))
  · exact .inl (.inr (.inr (.inr e)))
section
variable {w0 w w' : World} {A : AD} {bb msb m : Nat} {x x' : Gr.XS} {T T' : Nat → ByteArray} {E E' : Nat → Vl} {D D' : DS}
theorem WP.step (h : WP w0 w A bb msb x T E D) (hw : WS w' A m x' T' E' D') (f : Fr (SU A msb) w w') (hm : m = msb ∨ w.heap.size ≤ m) : WP w0 w' A bb m x' T' E' D' := by
  have hl := h.bl.lt
  have h0 := h.fr.size
  refine ⟨hw, f.row h.bl h.hb, fun e => ?_, fun k hk => ?_, h.fr.step f (fun k hk => .inr (h.new k hk))⟩
  · rcases hm with rfl | hm
    · exact h.hb e
    · rcases SU.new (msb := msb) e with e | e
      · exact h.hb e
      · omega
  · rcases hm with rfl | hm
    · exact h.new k hk
    · rcases SU.new (msb := msb) hk with e | e
      · exact h.new k e
      · omega
theorem WP.fr0 (h : WP w0 w A bb msb x T E D) (f : Fr S0 w w') : WP w0 w' A bb msb x T E D := h.step (h.ws.fr0 f) f.up (.inl rfl)
/-- The op that is played lies in block ob. -/
structure OQ (w : World) (A : AD) (msb ob : Nat) (kd a b c : Int) (S1 T1 : ByteArray) : Prop where
  row : Row w ob 6 (opC kd a b c S1 T1)
  hb : ¬ SU A msb ob
theorem OQ.step {ob : Nat} {kd a b c : Int} {S1 T1 : ByteArray} (h : OQ w A msb ob kd a b c S1 T1) (f : Fr (SU A msb) w w') (hm : m = msb ∨ w.heap.size ≤ m) : OQ w' A m ob kd a b c S1 T1 := by
  have hl := h.row.lt
  refine ⟨f.row h.row h.hb, fun e => ?_⟩
  rcases hm with rfl | hm
  · exact h.hb e
  · rcases SU.new (msb := msb) e with e | e
    · exact h.hb e
    · omega
theorem WS.stepC (h : WS w A msb x T E D) (hc : CM w' A.cb A.mb A.fb A.mrb msb T E) (f : Fr (SM A msb) w w') : WS w' A msb x T E D := by
  have ap := h.ap
  have hd : ∀ k, SD A k → ¬ SM A msb k := fun k hk e => ap.m2 k e hk
  exact ⟨h.km.fr f (fun k hk => ap.r1 k hk), hc, h.me.fr f (fun e => ap.m1 _ e (.inl rfl)) (fun e => ap.m1 _ e (.inr rfl)), f.row h.dk (hd _ (.inl rfl)), f.row h.tb (hd _ (.inr (.inl rfl))), h.wb.of f (hd _ (.inr (.inr (.inl rfl)))), h.nb.of f (hd _ (.inr (.inr (.inr rfl)))), ap⟩
end
/-! ### the desk is laid -/
def dk0 (tb wb nb : Nat) : Nat → Value
  | 0 => .string es
  | 1 => sl tb 24 24
  | 2 => sl wb 24 24
  | 3 => sl nb 24 24
  | _ => I 0
theorem dk_obj (w : World) (tb wb nb : Nat) (T : TypeId) {H : Nat} (e : w.heap.size = H) : Row (w.alloc (.cells #[.string es, sl tb 24 24, sl wb 24 24, sl nb 24 24, I 0, I 0, I 0, I 0, I 0] T)) H 9 (dk0 tb wb nb) := by
  subst e
  exact Row.new w _ T 9 _ rfl (by intro i hi; rcases i with _ | _ | _ | _ | _ | _ | _ | _ | _ | i <;> first | rfl | omega)
def D0 : DS := ⟨es, 0, 0, 0, 0, 0, fun _ => es, fun _ => v0, fun _ => v0⟩
/-- The building is done. -/
theorem wp_start {w0 w1 w3 w4 w5 : World} {V : VB} {B : FB} {gb mb2 fb2 xb rb sb cb mb fb mrb msb d tb wb nb : Nat}
    (hf1 : Fr S0 w0 w1) (hm1 : MEv w1 mb2 fb2) (hn1 : ∀ k, VF V B k ∨ Gr.SX gb k ∨ MeS mb2 fb2 k → w0.heap.size ≤ k ∧ k < w1.heap.size) (hd1 : ∀ k, MeS mb2 fb2 k → ¬ VF V B k ∧ ¬ Gr.SX gb k)
    (hK : KM w3 xb V B gb rb sb Gr.x0 (fun _ => es) (fun _ => v0)) (hf3 : Fr S0 (w1.alloc (.cells #[pt V.e, pt gb, pt mb2] 31)) w3) (g1 : w1.heap.size + 1 ≤ xb) (g2 : w1.heap.size + 1 ≤ rb) (g3 : w1.heap.size + 1 ≤ sb)
    (hC : CM w4 cb mb fb mrb msb (fun _ => es) (fun _ => v0)) (hf4 : Fr S0 w3 w4) (hn4 : ∀ k, CmS cb mb fb mrb msb k → w3.heap.size ≤ k ∧ k < w4.heap.size)
    (hd : Row w5 d 9 (dk0 tb wb nb)) (ht : Row w5 tb 24 (fun _ => .string es)) (hw : EL w5 wb 24 (fun _ => v0)) (hn : EL w5 nb 24 (fun _ => v0)) (hf5 : Fr S0 w4 w5)
    (q1 : d ≠ tb ∧ d ≠ wb ∧ d ≠ nb ∧ tb ≠ wb ∧ tb ≠ nb ∧ wb ≠ nb) (q2 : w4.heap.size ≤ d ∧ w4.heap.size ≤ tb ∧ w4.heap.size ≤ wb ∧ w4.heap.size ≤ nb) :
    WP w0 w5 ⟨xb, rb, sb, gb, V, B, cb, mb, fb, mrb, mb2, fb2, d, tb, wb, nb⟩ w1.heap.size msb Gr.x0 (fun _ => es) (fun _ => v0) D0 := by
  have s1 := hf1.size
  have s3 : w1.heap.size + 1 ≤ w3.heap.size := by have := hf3.size; simpa using this
  have s4 := hf4.size
  have hbr := hf5.row0 (hf4.row0 (hf3.row0 (bl_new w1 ⟨xb, rb, sb, gb, V, B, cb, mb, fb, mrb, mb2, fb2, d, tb, wb, nb⟩ rfl)))
  have hR : ∀ k, KS xb V B gb rb sb k → w0.heap.size ≤ k ∧ k < w3.heap.size ∧ k ≠ w1.heap.size ∧ (VF V B k ∨ Gr.SX gb k ∨ w1.heap.size + 1 ≤ k) := by
    intro k hk
    have hlt := hK.lt k hk
    rcases hk with rfl | e | e | rfl | rfl
    · exact ⟨by omega, hlt, by omega, .inr (.inr g1)⟩
    · have := hn1 k (.inl e); exact ⟨by omega, hlt, by omega, .inl e⟩
    · have := hn1 k (.inr (.inl e)); exact ⟨by omega, hlt, by omega, .inr (.inl e)⟩
    · exact ⟨by omega, hlt, by omega, .inr (.inr g2)⟩
    · exact ⟨by omega, hlt, by omega, .inr (.inr g3)⟩
  have hL : ∀ k, MeS mb2 fb2 k → w0.heap.size ≤ k ∧ k < w1.heap.size := fun k hk => hn1 k (.inr (.inr hk))
  have hD : ∀ k, (k = d ∨ k = tb ∨ k = wb ∨ k = nb) → w4.heap.size ≤ k := by rintro k (e | e | e | e) <;> omega
  refine ⟨⟨(hK.fr0 hf4).fr0 hf5, hC.fr0 hf5, (((hm1.fr0 ((Fr.refl S0 _).alloc _)).fr0 hf3).fr0 hf4).fr0 hf5, hd.congr (fun i hi => ?_), ht, hw, hn, ⟨?_, ?_, ?_, ?_, ?_, ?_, q1⟩⟩, hbr, ?_, ?_, ((hf1.trans ((Fr.refl S0 _).alloc _)).trans hf3).trans hf4 |>.trans hf5⟩
  · match i, hi with
    | 0, _ => rfl
    | 1, _ => rfl
    | 2, _ => rfl
    | 3, _ => rfl
    | 4, _ => rfl
    | 5, _ => rfl
    | 6, _ => rfl
    | 7, _ => rfl
    | 8, _ => rfl
  · intro k hk hs; have := hR k hk; have := hn4 k hs; omega
  · intro k hk hs
    rcases (hR k hk).2.2.2 with e | e | e
    · exact (hd1 k hs).1 e
    · exact (hd1 k hs).2 e
    · have := hL k hs; omega
  · intro k hk hs; have := hR k hk; have := hD k hs; omega
  · intro k hk hs; have := hn4 k hk; have := hL k hs; omega
  · intro k hk hs; have := hn4 k hk; have := hD k hs; omega
  · intro k hk hs; have := hL k hk; have := hD k hs; omega
  · rintro (e | e | e | e)
    · have := hR _ e; omega
    · have := hn4 _ e; omega
    · have := hL _ e; omega
    · have := hD _ e; omega
  · rintro k (e | e | e | e)
    · have := hR k e; omega
    · have := hn4 k e; omega
    · have := hL k e; omega
    · have := hD k e; omega
end Go.Proofs.Qxb6500327aGreat
