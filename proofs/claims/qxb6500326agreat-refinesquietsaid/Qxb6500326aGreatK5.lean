import Derived.Test.Qxb6500326aGreatK4
namespace Go.Proofs.Qxb6500326aGreat
set_option maxRecDepth 100000
set_option linter.unusedVariables false
set_option linter.unusedSimpArgs false
open Go.RowKit Go.PlainAid
attribute [local go_sem] bv_and bv_or bv_eq_zero bv_ne_zero bv_bit

theorem CM.bump {w : World} {cb mb fb rb sb : Nat} {T : Nat → ByteArray} {E : Nat → Vl} (h : CM w cb mb fb rb sb T E) (v : Int) : CM (w.setCell ⟨cb, 3, none⟩ (I v)) cb mb fb rb sb T E := by
  obtain ⟨n, ho⟩ := h.obj
  have f : Fr (fun k => k = cb) w (w.setCell ⟨cb, 3, none⟩ (I v)) := (Fr.refl (fun k => k = cb) w).setCell (p := ⟨cb, 3, none⟩) (.inl rfl) _
  exact ⟨⟨v, (ho.set 3 _).congr (fun i hi => by
    match i, hi with
    | 0, _ => rfl
    | 1, _ => rfl
    | 2, _ => rfl
    | 3, _ => rfl)⟩, h.me.fr f (fun e => h.n1.1 e.symm) (fun e => h.n1.2.1 e.symm), f.row h.raw (fun e => h.n1.2.2.1 e.symm), h.sh.of f (fun e => h.n1.2.2.2 e.symm), h.n1, h.n2, h.n3⟩
theorem CM.text {w : World} {cb mb fb rb sb : Nat} {T : Nat → ByteArray} {E : Nat → Vl} (h : CM w cb mb fb rb sb T E) (i : Nat) (s : ByteArray) : CM (w.setCell ⟨rb, i, none⟩ (.string s)) cb mb fb rb sb (upd T i s) E := by
  obtain ⟨n, ho⟩ := h.obj
  have f : Fr (fun k => k = rb) w (w.setCell ⟨rb, i, none⟩ (.string s)) := (Fr.refl (fun k => k = rb) w).setCell (p := ⟨rb, i, none⟩) (.inl rfl) _
  exact ⟨⟨n, f.row ho h.n1.2.2.1⟩, h.me.fr f (fun e => h.n2.1 e.symm) (fun e => h.n2.2.1 e.symm), (h.raw.set i _).congr (fun j _ => by unfold upd; split <;> rfl), h.sh.of f (fun e => h.n2.2.2 e.symm), h.n1, h.n2, h.n3⟩
section
variable {cb mb fb rb sb : Nat} {T : Nat → ByteArray} {E : Nat → Vl}
/-- What a Set leaves of the model. -/
def CSet (w : World) (cb mb fb rb sb : Nat) (T : Nat → ByteArray) (E : Nat → Vl) (c : Int) (s : ByteArray) : Ending → World → Prop := fun e w' => e = .returned (I (setP c s)) ∧ Fr (fun k => k = cb ∨ MeS mb fb k ∨ k = rb) w w' ∧
  ((setP c s ≠ 0 ∧ CM w' cb mb fb rb sb T E) ∨ (setP c s = 0 ∧ ∃ sb' E', w.heap.size ≤ sb' ∧ CM w' cb mb fb rb sb' (upd T c.toNat s) E' ∧ Sheet (upd T c.toNat s) E'))
set_option maxHeartbeats 2000000 in
theorem cSet_any (c : Int) (s : ByteArray) (w : World) (h : CM w cb mb fb rb sb T E) (hS : Sheet T E) : Calls Tryz.prog 72 #[pt cb, I c, .string s] w (CSet w cb mb fb rb sb T E c s) := by
  obtain ⟨n, ho⟩ := h.obj
  obtain ⟨-, c1, -, c3, -, z3⟩ := ho.cm4
  have hlt := ho.lt
  have hlr := h.raw.lt
  have hcr : cb ≠ rb := h.n1.2.2.1
  have hbump : Bx (∀ v, CM (w.setCell ⟨cb, 3, none⟩ (I v)) cb mb fb rb sb T E) := ⟨fun v => h.bump v⟩
  have hfb : Bx (∀ v, Fr (fun k => k = cb ∨ MeS mb fb k ∨ k = rb) w (w.setCell ⟨cb, 3, none⟩ (I v))) := ⟨fun v => (Fr.refl _ w).setCell (p := ⟨cb, 3, none⟩) (.inl (.inl rfl)) _⟩
  by_cases h40 : 40 < s.size
  · have hd : decide (40 < (s.size : Int)) = true := by simp; omega
    have hp : Bx (setP c s = 1) := ⟨by unfold setP; rw [if_pos h40]⟩
    clear h ho h40 hS
    go_enter Tryz.func72, Tryz.ntmps72
    go_wp2
    go_ret
    exact ⟨(by rw [hp.out]; rfl), hfb.out _, .inl ⟨by rw [hp.out]; decide, hbump.out _⟩⟩
  · have hd : decide (40 < (s.size : Int)) = false := by simp; omega
    by_cases hc : 0 ≤ c ∧ c < 24
    · obtain ⟨i, rfl⟩ : ∃ i : Nat, c = (i : Int) := ⟨c.toNat, by omega⟩
      have hi : i < 24 := by omega
      have hp : Bx (setP (i : Int) s = 0) := ⟨by unfold setP; rw [if_neg h40, if_neg (by omega)]⟩
      have hti : Bx ((i : Int).toNat = i) := ⟨by omega⟩
      have d0 : decide ((i : Int) < 0) = false := by simp
      have d1 : decide (24 ≤ (i : Int)) = false := by simp; omega
      have hiI : (i : Int) < 24 := by omega
      have e0 := h.raw.cell i hi
      have z0 := h.raw.frozen i
      have hC : Bx (∀ v, CM ((w.setCell ⟨cb, 3, none⟩ (I v)).setCell ⟨rb, i, none⟩ (.string s)) cb mb fb rb sb (upd T i s) E) := ⟨fun v => (h.bump v).text i s⟩
      have hok := Bx.mk (hS.ok.upd i (s := s) (by omega))
      have hfr : Bx (∀ v, Fr (fun k => k = cb ∨ MeS mb fb k ∨ k = rb) w ((w.setCell ⟨cb, 3, none⟩ (I v)).setCell ⟨rb, i, none⟩ (.string s))) := ⟨fun v => (hfb.out v).setCell (p := ⟨rb, i, none⟩) (.inl (.inr (.inr rfl))) _⟩
      clear h ho h40 hS hbump hc hfb
      go_enter Tryz.func72, Tryz.ntmps72
      go_wp2_with (first | (go_at_call 108; refine (sheet_any _ (hC.out _) hok.out).mono ?_; rintro e w1 ⟨sb', E', rfl, hsb, hC1, hS1, hf1⟩))
      go_ret
      exact ⟨(by rw [hp.out]; rfl), (hfr.out _).trans (hf1.mono (fun k hk => by rcases hk with e | e; exact .inl e; exact .inr (.inl e))), .inr ⟨hp.out, sb', E', Nat.le_trans (hfr.out 0).size (by simpa using hsb), by rw [hti.out]; exact hC1, by rw [hti.out]; exact hS1⟩⟩
    · have hp : Bx (setP c s = 9) := ⟨by unfold setP; rw [if_neg h40, if_pos (by omega)]⟩
      cases d0 : decide (c < 0) <;> cases d1 : decide (24 ≤ c)
      all_goals first | (exfalso; simp at d0 d1; omega) | skip
      all_goals (
        clear h ho h40 hS hc
        go_enter Tryz.func72, Tryz.ntmps72
        go_wp2
        go_ret
        exact ⟨(by rw [hp.out]; rfl), hfb.out _, .inl ⟨by rw [hp.out]; decide, hbump.out _⟩⟩)
end

theorem EZ.lt {w : World} {V : VB} {B : FB} (h : EZ w V B) {k : Nat} (hk : VF V B k) : k < w.heap.size := by
  rcases Nat.lt_or_ge k w.heap.size with e | e
  · exact e
  · exact absurd hk (h.ne e)
/-! ### memory: the real sheet -/
def kC (ve gb rb sb : Nat) : Nat → Value
  | 0 => pt ve
  | 1 => pt gb
  | 2 => sl rb 24 24
  | _ => sl sb 24 24
structure KN (xb : Nat) (V : VB) (B : FB) (gb rb sb : Nat) : Prop where
  x1 : ¬ VF V B xb
  x2 : ¬ Gr.SX gb xb
  r1 : ¬ VF V B rb
  r2 : ¬ Gr.SX gb rb
  s1 : ¬ VF V B sb
  s2 : ¬ Gr.SX gb sb
  d1 : xb ≠ rb
  d2 : xb ≠ sb
  d3 : rb ≠ sb
  g : ∀ k, Gr.SX gb k → ¬ VF V B k
structure KM (w : World) (xb : Nat) (V : VB) (B : FB) (gb rb sb : Nat) (x : Gr.XS) (T : Nat → ByteArray) (E : Nat → Vl) : Prop where
  obj : Row w xb 4 (kC V.e gb rb sb)
  ez : EZ w V B
  xg : Gr.XG w gb x
  xi : Gr.XI x (RT T)
  raw : Row w rb 24 (fun i => .string (T i))
  sh : EL w sb 24 E
  n : KN xb V B gb rb sb
def KS (xb : Nat) (V : VB) (B : FB) (gb rb sb : Nat) : Nat → Prop := fun k => k = xb ∨ VF V B k ∨ Gr.SX gb k ∨ k = rb ∨ k = sb
theorem KM.fr {w w' : World} {xb : Nat} {V : VB} {B : FB} {gb rb sb : Nat} {x : Gr.XS} {T : Nat → ByteArray} {E : Nat → Vl} (h : KM w xb V B gb rb sb x T E) {S : Nat → Prop} (f : Fr S w w') (hS : ∀ k, KS xb V B gb rb sb k → ¬ S k) : KM w' xb V B gb rb sb x T E :=
  ⟨f.row h.obj (hS _ (.inl rfl)), h.ez.fr f (fun k hk => hS k (.inr (.inl hk))), h.xg.fr f (fun k hk hg => hS k (.inr (.inr (.inl hg))) hk), h.xi, f.row h.raw (hS _ (.inr (.inr (.inr (.inl rfl))))), h.sh.of f (hS _ (.inr (.inr (.inr (.inr rfl))))), h.n⟩
theorem KM.fr0 {w w' : World} {xb : Nat} {V : VB} {B : FB} {gb rb sb : Nat} {x : Gr.XS} {T : Nat → ByteArray} {E : Nat → Vl} (h : KM w xb V B gb rb sb x T E) (f : Fr S0 w w') : KM w' xb V B gb rb sb x T E := h.fr f (fun _ _ e => e)
theorem Row.k4 {w : World} {xb ve gb rb sb : Nat} (h : Row w xb 4 (kC ve gb rb sb)) :
    w.cell? ⟨xb, 0, none⟩ = some (pt ve) ∧ w.cell? ⟨xb, 1, none⟩ = some (pt gb) ∧ w.cell? ⟨xb, 2, none⟩ = some (sl rb 24 24) ∧ w.cell? ⟨xb, 3, none⟩ = some (sl sb 24 24) :=
  ⟨h.cell 0 (by omega), h.cell 1 (by omega), h.cell 2 (by omega), h.cell 3 (by omega)⟩
section
variable {xb gb rb sb : Nat} {V : VB} {B : FB} {x : Gr.XS} {T : Nat → ByteArray} {E : Nat → Vl}
set_option maxHeartbeats 400000 in
theorem kRaw_any (c : Int) (w : World) (h : KM w xb V B gb rb sb x T E) : Calls Tryz.prog 80 #[pt xb, I c] w fun e w' => e = .returned (.string (rawP T c)) ∧ w = w' := by
  obtain ⟨-, -, c2, -⟩ := h.obj.k4
  have hlt := h.obj.lt
  have hlr := h.raw.lt
  by_cases hc : 0 ≤ c ∧ c < 24
  · obtain ⟨i, rfl⟩ : ∃ i : Nat, c = (i : Int) := ⟨c.toNat, by omega⟩
    have hi : i < 24 := by omega
    have hr : Bx (rawP T (i : Int) = T i) := ⟨by unfold rawP; rw [if_pos hc]; rfl⟩
    have e0 := h.raw.cell i hi
    have d0 : decide ((i : Int) < 0) = false := by simp
    have d1 : decide (24 ≤ (i : Int)) = false := by simp; omega
    have hiI : (i : Int) < 24 := by omega
    rw [hr.out]
    clear h hc hr
    go_enter Tryz.func80, Tryz.ntmps80
    go_wp2
    go_ret
    exact ⟨rfl, rfl⟩
  · have hr : rawP T c = es := by unfold rawP; rw [if_neg hc]
    rw [hr]
    cases d0 : decide (c < 0) <;> cases d1 : decide (24 ≤ c)
    all_goals first | (exfalso; simp at d0 d1; omega) | skip
    all_goals (
      clear h hc hr
      go_enter Tryz.func80, Tryz.ntmps80
      go_wp2
      go_ret
      exact ⟨rfl, rfl⟩)
set_option maxHeartbeats 1000000 in
theorem kValue_any (c : Int) (w : World) (h : KM w xb V B gb rb sb x T E) : Calls Tryz.prog 97 #[pt xb, I c] w (VR w (valP E c)) := by
  have ha := h.fr0 ((Fr.refl S0 w).alloc (.cells #[I 0, I 0, .string es] 92))
  obtain ⟨-, -, -, c3⟩ := ha.obj.k4
  have hz := Bx.mk (v_zero w 92 rfl)
  obtain ⟨q0, q1, q2, y0, y1, y2⟩ := hz.out.v3
  have hf := Bx.mk (fr_zero w 92)
  by_cases hc : 0 ≤ c ∧ c < 24
  · obtain ⟨i, rfl⟩ : ∃ i : Nat, c = (i : Int) := ⟨c.toNat, by omega⟩
    have hi : i < 24 := by omega
    have hr : Bx (valP E (i : Int) = E i) := ⟨by unfold valP; rw [if_pos hc]; rfl⟩
    obtain ⟨e0, e1, e2, -, -, -⟩ := ha.sh.ev3 hi
    have d0 : decide ((i : Int) < 0) = false := by simp
    have d1 : decide (24 ≤ (i : Int)) = false := by simp; omega
    have hiI : (i : Int) < 24 := by omega
    rw [hr.out]
    clear h hc hr ha
    generalize E i = y at e0 e1 e2 ⊢
    go_enter Tryz.func97, Tryz.ntmps97
    go_wp2
    go_returns
    exact ⟨rfl, (Fr.refl _ _).alloc _⟩
  · have hr : valP E c = v0 := by unfold valP; rw [if_neg hc]
    rw [hr]
    cases d0 : decide (c < 0) <;> cases d1 : decide (24 ≤ c)
    all_goals first | (exfalso; simp at d0 d1; omega) | skip
    all_goals (
      clear h hc hr ha
      go_enter Tryz.func97, Tryz.ntmps97
      go_wp2
      go_returns
      exact ⟨rfl, (Fr.refl _ _).alloc _⟩)
end
/-! ### blight -/
section
variable {xb ve gb rb sb : Nat} {E : Nat → Vl}
set_option maxHeartbeats 2000000 in
theorem blight_any (s : BitVec 32) (w : World) (ho : Row w xb 4 (kC ve gb rb sb)) (hE : EL w sb 24 E) (hne : xb ≠ sb) : Calls Tryz.prog 127 #[pt xb, U s] w fun e w' => e = .returned (.tuple #[]) ∧ EL w' sb 24 (blighted s E) ∧ Fr (fun k => k = sb) w w' := by
  have HO : Bx (∀ w', Fr (fun k => k = sb) w w' → Row w' xb 4 (kC ve gb rb sb)) := ⟨fun w' f => f.row ho hne⟩
  have hE := Bx.mk hE
  clear ho
  go_enter Tryz.func127, Tryz.ntmps127
  go_wp2_with fail
  go_loopw [4] (fun c wr => ∃ k : Nat, k ≤ 24 ∧ c = I (k : Int) ∧ Bx (EL wr sb 24 (fun c => if c < k then blighted s E c else E c)) ∧ Bx (Fr (fun k => k = sb) w wr)) (fun c _ => 24 - (intOf c).toNat)
  case atStart => exact ⟨0, by omega, rfl, ⟨hE.out.eeq (fun c hc => by simp)⟩, ⟨Fr.refl _ _⟩⟩
  case round =>
    clear hE
    obtain ⟨k, hk, rfl, hE, hf⟩ := hrel
    cases hlt : decide ((k : Int) < 24)
    · have hk24 : k = 24 := by simp at hlt; omega
      go_wp2_with fail
      go_end0
      exact ⟨rfl, hE.out.eeq (fun c hc => by rw [if_pos (by omega)]), hf.out⟩
    · have hk24 : k < 24 := by simp at hlt; omega
      have hkI : (k : Int) < 24 := by omega
      cases hbit : s.getLsbD k
      · go_wp2_with fail
        go_roundw
        case rel =>
          refine ⟨k + 1, by omega, by go_num, ⟨hE.out.eeq (fun c hc => ?_)⟩, hf⟩
          show (if c < k then _ else _) = (if c < k + 1 then _ else _)
          by_cases e : c = k
          · subst e; rw [if_neg (by omega), if_pos (by omega)]; unfold blighted; rw [hbit]; rfl
          · by_cases e2 : c < k
            · rw [if_pos e2, if_pos (by omega)]
            · rw [if_neg e2, if_neg (by omega)]
        case measure => simp [intOf]; omega
      · have hO := Bx.mk (HO.out _ hf.out)
        obtain ⟨-, -, -, c3⟩ := hO.out.k4
        have hl := hO.out.lt
        go_wp2_with fail
        refine region_cut (fun w' => ∃ w0, Bx (Fr S0 wr w0) ∧ w' = sets w0 sb (k * 3) (vA (vErr 6)).toList) ?_
        apply Exists.intro
        apply And.intro
        · go_region_with (first | (go_at_call 139; refine (err_any 6 _).mono ?_; rintro e w0 ⟨rfl, hf0⟩; have hf0 : Fr S0 wr w0 := (Fr.refl S0 wr).thru hf0 rfl rfl rfl rfl; have hO0 := Bx.mk (hf0.row0 hO.out); obtain ⟨-, -, -, c3⟩ := hO0.out.k4; have hE0 := Bx.mk (hE.out.of hf0 (by simp)); obtain ⟨m0, m1, m2, z0, z1, z2⟩ := hE0.out.ev3 hk24; have hEl := Row.lt hE0.out; simp only [if_neg (Nat.lt_irrefl k)] at m0 m1 m2; have hf0 := Bx.mk hf0))
          all_goals exact ⟨rfl, _, hf0, rfl⟩
        rintro _ ⟨w0, hf0, rfl⟩
        have hE0 := Bx.mk (hE.out.of hf0.out (by simp))
        go_wp2_with fail
        go_roundw
        case rel =>
          refine ⟨k + 1, by omega, by go_num, ⟨(hE0.out.eput k (vErr 6)).eeq (fun c hc => ?_)⟩, ⟨fr_val (.inl rfl) (hf.out.trans hf0.out.up)⟩⟩
          show upd _ k (vErr 6) c = (if c < k + 1 then _ else _)
          by_cases e : c = k
          · subst e; rw [upd_same, if_pos (by omega)]; unfold blighted; rw [hbit]; rfl
          · rw [upd_other _ _ e]
            by_cases e2 : c < k
            · rw [if_pos e2, if_pos (by omega)]
            · rw [if_neg e2, if_neg (by omega)]
        case measure => simp [intOf]; omega
end
end Go.Proofs.Qxb6500326aGreat
