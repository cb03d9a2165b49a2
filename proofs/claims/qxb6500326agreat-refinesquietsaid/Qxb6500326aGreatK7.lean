import Derived.Test.Qxb6500326aGreatK6
namespace Go.Proofs.Qxb6500326aGreat
set_option maxRecDepth 100000
set_option linter.unusedVariables false
set_option linter.unusedSimpArgs false
open Go.RowKit Go.PlainAid
attribute [local go_sem] bv_and bv_or bv_eq_zero bv_ne_zero bv_bit

section
variable {xb gb rb sb : Nat} {V : VB} {B : FB} {x : Gr.XS} {T : Nat → ByteArray} {E : Nat → Vl}
theorem KM.stepV {w w1 : World} (h : KM w xb V B gb rb sb x T E) (hz : EZ w1 V B) (f : Fr (VF V B) w w1) : KM w1 xb V B gb rb sb x T E :=
  ⟨f.row h.obj h.n.x1, hz, h.xg.fr f (fun k hk hg => h.n.g k hg hk), h.xi, f.row h.raw h.n.r1, h.sh.of f h.n.s1, h.n⟩
theorem KM.turn {w w2 : World} (h : KM w xb V B gb rb sb x T E) {x' : Gr.XS} (f : Fr (Gr.SX gb) w w2) (hx : Gr.XG w2 gb x') (i : Nat) (s : ByteArray) (hi : Gr.XI x' (upd (RT T) i (readsP s).1)) :
    KM (w2.setCell ⟨rb, i, none⟩ (.string s)) xb V B gb rb sb x' (upd T i s) E ∧ Row w2 xb 4 (kC V.e gb rb sb) ∧ Row w2 rb 24 (fun i => .string (T i)) := by
  have g : Fr (fun k => k = rb) w2 (w2.setCell ⟨rb, i, none⟩ (.string s)) := (Fr.refl (fun k => k = rb) w2).setCell (p := ⟨rb, i, none⟩) (.inl rfl) _
  have ho := f.row h.obj h.n.x2
  have hr := f.row h.raw h.n.r2
  have hz : EZ w2 V B := h.ez.fr f (fun k hk hg => h.n.g k hg hk)
  exact ⟨⟨g.row ho h.n.d1, hz.fr g (fun k hk e => h.n.r1 (e ▸ hk)), hx.fr g (fun k hk hg => h.n.r2 (hk ▸ hg)), by rw [RT_upd]; exact hi, (hr.set i _).congr (fun j _ => by unfold upd; split <;> rfl), (h.sh.of f h.n.s2).of g (fun e => h.n.d3 e.symm), h.n⟩, ho, hr⟩
theorem KM.blighted {w w2 : World} (h : KM w xb V B gb rb sb x T E) {E' : Nat → Vl} (f : Fr (fun k => k = sb) w w2) (hE : EL w2 sb 24 E') : KM w2 xb V B gb rb sb x T E' :=
  ⟨f.row h.obj h.n.d2, h.ez.fr f (fun k hk e => h.n.s1 (e ▸ hk)), h.xg.fr f (fun k hk hg => h.n.s2 (hk ▸ hg)), h.xi, f.row h.raw h.n.d3, hE, h.n⟩
theorem KM.lt {w : World} (h : KM w xb V B gb rb sb x T E) : ∀ k, KS xb V B gb rb sb k → k < w.heap.size := by
  rintro k (rfl | e | e | rfl | rfl)
  · exact h.obj.lt
  · exact h.ez.lt e
  · have := h.xg.lt; have e2 : k < gb + 5 := e.2; omega
  · exact h.raw.lt
  · exact Row.lt h.sh
theorem ord_slice {lo : Nat} {w : World} {L : List Nat} {v : Value} {S : Nat → Prop} (h : Gr.OrdRes lo w L v) (hS : ∀ k, S k → k < lo) : ∃ ad cap, v = .slice ad L.length cap ∧ (L.length = 0 ∨ ∃ g, ad = some ⟨g, 0, none⟩ ∧ ¬ S g ∧ Row w g L.length (fun i => I (Gr.nth L i : Nat))) := by
  rcases h with ⟨rfl, rfl⟩ | ⟨g, rfl, -, h1, h2⟩
  · exact ⟨none, 0, rfl, .inl rfl⟩
  · exact ⟨_, _, rfl, .inr ⟨g, rfl, fun e => by have := hS g e; omega, h2⟩⟩
theorem KM.sws {w : World} (h : KM w xb V B gb rb sb x T E) : ∀ k, SwS V B sb k → k < w.heap.size := by
  rintro k (e | e)
  · exact h.ez.lt e
  · subst e; exact Row.lt h.sh
/-- What a Set leaves of the real sheet. -/
def KSet (w : World) (xb : Nat) (V : VB) (B : FB) (gb rb sb : Nat) (x : Gr.XS) (T : Nat → ByteArray) (E : Nat → Vl) (c : Int) (s : ByteArray) : Ending → World → Prop := fun e w' => e = .returned (I (setP c s)) ∧ Fr (KS xb V B gb rb sb) w w' ∧
  ((setP c s ≠ 0 ∧ KM w' xb V B gb rb sb x T E) ∨ (setP c s = 0 ∧ ∃ x' E', KM w' xb V B gb rb sb x' (upd T c.toNat s) E' ∧ Sheet (upd T c.toNat s) E'))
set_option maxHeartbeats 8000000 in
theorem kSet_any (c : Int) (s : ByteArray) (w : World) (h : KM w xb V B gb rb sb x T E) (hS : Sheet T E) : Calls Tryz.prog 99 #[pt xb, I c, .string s] w (KSet w xb V B gb rb sb x T E c s) := by
  have hK := Bx.mk h
  by_cases h40 : 40 < s.size
  · have hd : decide (40 < (s.size : Int)) = true := by simp; omega
    have hp : Bx (setP c s = 1) := ⟨by unfold setP; rw [if_pos h40]⟩
    clear h h40 hS
    go_enter Tryz.func99, Tryz.ntmps99
    go_wp2
    go_ret
    exact ⟨(by rw [hp.out]; rfl), Fr.refl _ _, .inl ⟨by rw [hp.out]; decide, hK.out⟩⟩
  · have hd : decide (40 < (s.size : Int)) = false := by simp; omega
    by_cases hc : 0 ≤ c ∧ c < 24
    · obtain ⟨i, rfl⟩ : ∃ i : Nat, c = (i : Int) := ⟨c.toNat, by omega⟩
      have hi : i < 24 := by omega
      have hp : Bx (setP (i : Int) s = 0) := ⟨by unfold setP; rw [if_neg h40, if_neg (by omega)]⟩
      have hti : Bx ((i : Int).toNat = i) := ⟨by omega⟩
      have d0 : decide ((i : Int) < 0) = false := by simp
      have d1 : decide (24 ≤ (i : Int)) = false := by simp; omega
      have hiI : (i : Int) < 24 := by omega
      have hin := Bx.mk (readsP_in s)
      have hRd : Bx (∀ w', EZ w' V B → Calls Tryz.prog 122 #[pt V.e, .string s] w' fun e w'' => e = .returned (.tuple #[U (readsP s).1, I (readsP s).2]) ∧ EZ w'' V B ∧ Fr (VF V B) w' w'') := ⟨fun w' hz => readsV_any V B s w' hz⟩
      have hchg := Bx.mk (hS.chg hi (s := s) (by omega))
      have hok := Bx.mk (hS.ok.upd i (s := s) (by omega))
      have hturn : Bx (∀ (w1 w2 : World) (x' : Gr.XS), KM w1 xb V B gb rb sb x T E → Fr (Gr.SX gb) w1 w2 → Gr.XG w2 gb x' → Gr.XI x' (upd (RT T) i (readsP s).1) → KM (w2.setCell ⟨rb, i, none⟩ (.string s)) xb V B gb rb sb x' (upd T i s) E ∧ Row w2 xb 4 (kC V.e gb rb sb) ∧ Row w2 rb 24 (fun i => .string (T i))) := ⟨fun w1 w2 x' h f hx hi => h.turn f hx i s hi⟩
      obtain ⟨c0, c1, c2, c3⟩ := h.obj.k4
      have hol := h.obj.lt
      have hxr : xb ≠ rb := h.n.d1
      generalize readsP s = r at hin hRd hturn
      obtain ⟨r1, r2⟩ := r
      clear h h40 hS hc
      go_enter Tryz.func99, Tryz.ntmps99
      go_wp2_with (first
        | (go_at_call 122; refine (hRd.out _ hK.out.ez).mono ?_; clear hRd; rintro e w1 ⟨rfl, hZ1, hf1⟩; have hK1 := Bx.mk (hK.out.stepV hZ1 hf1); have hf1 := Bx.mk (hf1.mono (S' := KS xb V B gb rb sb) (fun k hk => .inr (.inl hk))); clear c0 c1 c2 c3 hZ1; obtain ⟨c0, c1, c2, c3⟩ := hK1.out.obj.k4; have hol := hK1.out.obj.lt)
        | (go_at_call 123; refine (Gr.xSet_ok gb x (RT T) i r1 _ hK1.out.xg hK1.out.xi hi hin.out).mono ?_; rintro e w2 ⟨rfl, hf2, x', hX2, hI2, -⟩; obtain ⟨hK3, hO2, hR2⟩ := hturn.out _ _ x' hK1.out hf2 hX2 hI2; clear hturn; have hf2 := Bx.mk (hf1.out.trans (hf2.mono (S' := KS xb V B gb rb sb) (fun k hk => .inr (.inr (.inl hk))))); clear c0 c1 c2 c3 hX2 hI2; obtain ⟨c0, c1, c2, c3⟩ := hO2.k4; have hol := hO2.lt; have r0 := hR2.cell i hi; have rz := hR2.frozen i; have rl := hR2.lt; clear hO2 hR2; have hf3 := Bx.mk (hf2.out.setCell (p := ⟨rb, i, none⟩) (.inl (.inr (.inr (.inr (.inl rfl))))) (.string s)); have hK3 := Bx.mk hK3)
        | (go_at_call 124; refine (Gr.bit_any i _ hi).mono ?_; rintro e w4 ⟨rfl, rfl⟩)
        | (go_at_call 125; refine (Gr.xHang_any gb x' (Gr.bit i) _ hK3.out.xg hK3.out.xi.hrb).mono ?_; rintro e w5 ⟨hh, rfl, hinv, rfl⟩; have hhe := Bx.mk (Gr.hang_eq (RT (upd T i s)) (Gr.bit i) hh x'.readBy hK3.out.xi.hT hK3.out.xi.hR hK3.out.xi.hrb hinv); clear hinv)
        | (go_at_call 126; refine (Gr.xCyclic_any gb x' _ hK3.out.xg).mono ?_; rintro e w6 ⟨rfl, rfl⟩)
        | (go_at_call 127; refine (blight_any (E := E) _ _ hK3.out.obj hK3.out.sh hK3.out.n.d2).mono ?_; rintro e w7 ⟨rfl, hE7, hf7⟩; have hK7 := Bx.mk (hK3.out.blighted hf7 hE7); have hf7 := Bx.mk (hf3.out.trans (hf7.mono (S' := KS xb V B gb rb sb) (fun k hk => .inr (.inr (.inr (.inr hk)))))); clear c0 c1 c2 c3 hE7; obtain ⟨c0, c1, c2, c3⟩ := hK7.out.obj.k4; have hol := hK7.out.obj.lt)
        | (go_at_call 128; refine (Gr.xOrder_any gb x' (RT (upd T i s)) hh _ hK7.out.xg hK7.out.xi).mono ?_; rintro e w8 ⟨v, rfl, hOr, hf8⟩; obtain ⟨ad, cap, rfl, hL⟩ := ord_slice (S := SwS V B sb) hOr hK7.out.sws; clear hOr; have hL := Bx.mk hL; have hK8 := Bx.mk (hK7.out.fr0 hf8); have hf8 := Bx.mk (hf7.out.trans hf8.up))
        | (go_at_call 129; refine (sweep_any i hi ad cap _ (SwI (RT (upd T i s)) (FT (upd T i s)) E i) _ hK8.out hok.out (by rw [hhe.out]; exact hchg.out.swl) (hchg.out.begin (fun y hy => by rw [hhe.out, hK3.out.xi.cyc])) hL.out).mono ?_; rintro e w9 ⟨rfl, t, e', hinv, hK9, hf9⟩))
      go_ret
      rw [hhe.out] at hinv
      refine ⟨(by rw [hp.out]; rfl), hf8.out.trans (hf9.mono (fun k hk => by rcases hk with e | e; exact .inr (.inl e); exact .inr (.inr (.inr (.inr e))))), .inr ⟨hp.out, x', e', by rw [hti.out]; exact hK9, by rw [hti.out]; exact ⟨hok.out, hinv.lw, hinv.final hchg.out⟩⟩⟩
    · have hp : Bx (setP c s = 9) := ⟨by unfold setP; rw [if_neg h40, if_pos (by omega)]⟩
      cases d0 : decide (c < 0) <;> cases d1 : decide (24 ≤ c)
      all_goals first | (exfalso; simp at d0 d1; omega) | skip
      all_goals (
        clear h h40 hS hc
        go_enter Tryz.func99, Tryz.ntmps99
        go_wp2
        go_ret
        exact ⟨(by rw [hp.out]; rfl), Fr.refl _ _, .inl ⟨by rw [hp.out]; decide, hK.out⟩⟩)
theorem Sheet.plain (h : Sheet T E) {c : Nat} (hc : c < 24) (hp : isForm (T c) = false) : E c = plainP (T c) := by
  have hR : RT T c = 0#32 := by
    unfold RT readsP
    split
    · rfl
    · rw [if_neg (by rw [hp]; simp)]
  have hl : 0 ≤ Gr.lev (RT T) c := by
    rcases Int.lt_or_le (Gr.lev (RT T) c) 0 with e | e
    · exfalso
      obtain ⟨d, hd, -⟩ := Gr.cyc_reads (RT T) (sht_of h.ok).rd (c := c) (by rw [Gr.mem_cyc]; simp [hc, e])
      rw [hR] at hd; simp at hd
    · exact e
  rw [h.fix.wo c hc hl]
  exact (mf_mean (h.ok c hc)).plain hp E
end
/-! ### New -/
theorem km_mk {w1 w' : World} {xb : Nat} {V : VB} {B : FB} {gb rb sb : Nat} (hz : EZ w1 V B) (hx : Gr.XG w1 gb Gr.x0) (hg : ∀ k, Gr.SX gb k → ¬ VF V B k) (hf : Fr S0 w1 w') (h1 : Row w' xb 4 (kC V.e gb rb sb)) (h2 : Row w' rb 24 (fun _ => .string es)) (h3 : EL w' sb 24 (fun _ => v0))
    (g1 : w1.heap.size ≤ xb) (g2 : w1.heap.size ≤ rb) (g3 : w1.heap.size ≤ sb) (k1 : xb ≠ rb) (k2 : xb ≠ sb) (k3 : rb ≠ sb) : KM w' xb V B gb rb sb Gr.x0 (fun _ => es) (fun _ => v0) := by
  have a1 := hx.lt
  refine ⟨h1, hz.fr0 hf, hx.fr0 hf, by rw [RT_none]; exact Gr.x0_inv, h2, h3, ⟨hz.ne g1, ?_, hz.ne g2, ?_, hz.ne g3, ?_, k1, k2, k3, hg⟩⟩
  · rintro ⟨e1, e2⟩; omega
  · rintro ⟨e1, e2⟩; omega
  · rintro ⟨e1, e2⟩; omega
theorem km_obj (w : World) (ve gb rb sb : Nat) (T : TypeId) {H : Nat} (e : w.heap.size = H) : Row (w.alloc (.cells #[pt ve, pt gb, sl rb 24 24, sl sb 24 24] T)) H 4 (kC ve gb rb sb) := by
  subst e
  exact Row.new w _ T 4 _ rfl (by intro i hi; rcases i with _ | _ | _ | _ | i <;> first | rfl | omega)
set_option maxHeartbeats 2000000 in
theorem kNew_any (V : VB) (B : FB) (gb : Nat) (w : World) (hz : EZ w V B) (hx : Gr.XG w gb Gr.x0) (hg : ∀ k, Gr.SX gb k → ¬ VF V B k) : Calls Tryz.prog 50 #[pt V.e, pt gb] w fun e w' => ∃ xb rb sb, e = .returned (pt xb) ∧ KM w' xb V B gb rb sb Gr.x0 (fun _ => es) (fun _ => v0) ∧ Fr S0 w w' ∧ w.heap.size ≤ xb ∧ w.heap.size ≤ rb ∧ w.heap.size ≤ sb := by
  have k1 := mk38
  have k2 := mk39
  generalize hA : MS = A1 at k1
  generalize hB : M47 24 = A2 at k2
  have hA := Bx.mk hA
  have hB := Bx.mk hB
  have hz := Bx.mk hz
  have hx := Bx.mk hx
  have hg := Bx.mk hg
  go_enter Tryz.func50, Tryz.ntmps50
  go_wp2_with fail
  go_region
  all_goals go_wp2_with fail
  all_goals go_ret
  · have hC := km_mk (w' := ((w.alloc (.cells A1 9)).alloc (.cells A2 92)).alloc (.cells #[pt V.e, pt gb, sl w.heap.size 24 24, sl (w.heap.size + 1) 24 24] 125)) hz.out hx.out hg.out (((Fr.refl S0 w).alloc _).alloc _ |>.alloc _) (km_obj _ V.e gb w.heap.size (w.heap.size + 1) 125 (H := w.heap.size + 2) (by simp)) (((ms_row hA.out w rfl).alloc _).alloc _) ((mv_row hB.out _ (H := w.heap.size + 1) (by simp)).alloc _) (by omega) (by omega) (by omega) (by omega) (by omega) (by omega)
    exact ⟨_, _, _, rfl, hC.fr0 (Fr.refl S0 _).drew, (((Fr.refl S0 w).alloc _).alloc _ |>.alloc _).drew, by omega, by omega, by omega⟩
  · have hC := km_mk (w' := ((w.alloc (.cells A2 92)).alloc (.cells A1 9)).alloc (.cells #[pt V.e, pt gb, sl (w.heap.size + 1) 24 24, sl w.heap.size 24 24] 125)) hz.out hx.out hg.out (((Fr.refl S0 w).alloc _).alloc _ |>.alloc _) (km_obj _ V.e gb (w.heap.size + 1) w.heap.size 125 (H := w.heap.size + 2) (by simp)) ((ms_row hA.out _ (H := w.heap.size + 1) (by simp)).alloc _) (((mv_row hB.out w rfl).alloc _).alloc _) (by omega) (by omega) (by omega) (by omega) (by omega) (by omega)
    exact ⟨_, _, _, rfl, hC.fr0 (Fr.refl S0 _).drew, (((Fr.refl S0 w).alloc _).alloc _ |>.alloc _).drew, by omega, by omega, by omega⟩
end Go.Proofs.Qxb6500326aGreat
