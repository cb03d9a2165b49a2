import Derived.Test.Qxb6500326aGreatO13
namespace Go.Proofs.Qxb6500326aGreat
set_option maxRecDepth 100000
set_option linter.unusedVariables false
set_option linter.unusedSimpArgs false
open Go.RowKit Go.PlainAid

/-! ### a copy -/
def cpDc (src dst : Int) : Int := dst % 4 - src % 4
def cpDr (src dst : Int) : Int := dst / 4 - src / 4
def cpS (T : Nat → ByteArray) (src dst : Int) : ByteArray := movS (copyN (cpDc src dst) (cpDr src dst)) (T src.toNat)
def cpP (T : Nat → ByteArray) (src dst : Int) : Int := if src < 0 ∨ 24 ≤ src ∨ dst < 0 ∨ 24 ≤ dst then 9 else if 40 < (cpS T src dst).size then 1 else 0
theorem cpP_in {T : Nat → ByteArray} {p q : Nat} (hp : p < 24) (hq : q < 24) : cpP T p q = if 40 < (cpS T p q).size then 1 else 0 := by unfold cpP; rw [if_neg (by omega)]
theorem cp_bd {p q : Nat} (hp : p < 24) (hq : q < 24) : (-100 ≤ cpDc p q ∧ cpDc p q ≤ 100) ∧ -100 ≤ cpDr p q ∧ cpDr p q ≤ 100 := by
  unfold cpDc cpDr; omega
section
variable {A : XA} {x : Gr.XS} {T : Nat → ByteArray} {E : Nat → Vl}
def XCp (w : World) (A : XA) (x : Gr.XS) (T : Nat → ByteArray) (E : Nat → Vl) (src dst : Int) : Ending → World → Prop := fun e w' => e = .returned (I (cpP T src dst)) ∧ Fr (SE A) w w' ∧
  ((cpP T src dst ≠ 0 ∧ EX w' A x T E (fun _ => es)) ∨ (cpP T src dst = 0 ∧ ∃ x' E', EX w' A x' (upd T dst.toNat (cpS T src dst)) E' (fun _ => es) ∧ Sheet (upd T dst.toNat (cpS T src dst)) E'))
set_option maxHeartbeats 4000000 in
theorem xCopy_out (src dst : Int) (w : World) (h : EX w A x T E (fun _ => es)) (hb : src < 0 ∨ 24 ≤ src ∨ dst < 0 ∨ 24 ≤ dst) : Calls Tryz.prog 69 #[pt A.xe, I src, I dst] w (XCp w A x T E src dst) := by
  have e9 : Bx (cpP T src dst = 9) := ⟨by unfold cpP; rw [if_pos hb]⟩
  have hX := Bx.mk h
  clear h
  cases d1 : decide (src < 0) <;> cases d2 : decide (24 ≤ src) <;> cases d3 : decide (dst < 0) <;> cases d4 : decide (24 ≤ dst)
  case false.false.false.false => simp at d1 d2 d3 d4; omega
  all_goals clear hb
  all_goals go_enter Tryz.func69, Tryz.ntmps69
  all_goals go_wp2_with fail
  all_goals go_ret
  all_goals exact ⟨by rw [e9.out] <;> rfl, Fr.refl _ _, .inl ⟨by rw [e9.out]; decide, hX.out⟩⟩
set_option maxHeartbeats 16000000 in
theorem xCopy_in (p q : Nat) (w : World) (h : EX w A x T E (fun _ => es)) (hS : Sheet T E) (hp : p < 24) (hq : q < 24) : Calls Tryz.prog 69 #[pt A.xe, I p, I q] w (XCp w A x T E p q) := by
  obtain ⟨⟨d1, d2⟩, d3, d4⟩ := cp_bd hp hq
  have hcp := cpP_in (T := T) hp hq
  have hRaw : Bx (Calls Tryz.prog 80 #[pt A.xb, I p] w fun e w' => e = .returned (.string (T p)) ∧ w = w') := ⟨by have := kRaw_any (p : Int) w h.km; rw [rawP_at hp] at this; exact this⟩
  have hTree0 : Bx (Calls Tryz.prog 102 #[pt A.xe, .string (T p)] w (TrP w (fun w => FZ w A.B2) (FmS A.B2) (T p))) := ⟨xTree_any (T p) w _ h⟩
  have hcs : cpS T p q = movS (copyN (cpDc p q) (cpDr p q)) (T p) := rfl
  have hLay : Bx (∀ (s : ByteArray) wx, EX wx A x T E (fun _ => es) → s.size ≤ 40 → Calls Tryz.prog 105 #[pt A.xe, I q, .string s] wx (LayP wx A T (fun _ => es) q s)) := ⟨fun s wx h hs => lay_any q s wx h hS hq hs⟩
  have hltA : Bx (∀ k, SE A k → k < w.heap.size) := ⟨h.lt⟩
  have hX := Bx.mk h
  obtain ⟨c0, c1, c2⟩ := h.obj.ex3
  have hlx := h.obj.lt
  have e1 : decide ((p : Int) < 0) = false := decide_eq_false (by omega)
  have e2 : decide (24 ≤ (p : Int)) = false := decide_eq_false (by omega)
  have e3 : decide ((q : Int) < 0) = false := decide_eq_false (by omega)
  have e4 : decide (24 ≤ (q : Int)) = false := decide_eq_false (by omega)
  have hqN : ((q : Int)).toNat = q := rfl
  clear h hS
  unfold XCp
  rw [hqN, hcp, hcs]
  clear hcp hcs hqN
  generalize T p = s at *
  cases hfrm : frm s
  · rw [movS_no hfrm]
    have hTree : Bx (Calls Tryz.prog 102 #[pt A.xe, .string s] w (TrN w (fun w => FZ w A.B2) (FmS A.B2))) := ⟨hTree0.out.mono (fun e w' h => h.no hfrm)⟩
    clear hTree0
    by_cases h40 : 40 < s.size
    · have hd : decide (40 < (s.size : Int)) = true := by simp; omega
      rw [if_pos h40]
      clear h40 hLay
      go_enter Tryz.func69, Tryz.ntmps69
      go_wp2_with (first
      | (go_at_call 80; refine hRaw.out.mono ?_; clear hRaw; rintro e _ ⟨rfl, rfl⟩)
      | (go_at_call 102; refine hTree.out.mono ?_; clear hTree; rintro e w3 ⟨sa, sn, sc, t', rfl, hz2, hf2⟩; have hX3 := Bx.mk ((hX.out.stepF hz2 hf2).fr0 ((Fr.refl S0 _).alloc (.cells (trA (.slice sa sn sc) t') 105))); have hf3 := Bx.mk ((hf2.mono (fun k hk => .inr (.inl hk)) : Fr (SE A) w w3).alloc (.cells (trA (.slice sa sn sc) t') 105)); have hlx := hX3.out.obj.lt; clear hf2 hz2 hX))
      go_ret
      exact ⟨rfl, hf3.out, .inl ⟨by decide, hX3.out⟩⟩
    · have hd : decide (40 < (s.size : Int)) = false := by simp; omega
      rw [if_neg h40]
      have hLay := Bx.mk (fun wx h => hLay.out s wx h (by omega))
      clear h40
      go_enter Tryz.func69, Tryz.ntmps69
      go_wp2_with (first
      | (go_at_call 80; refine hRaw.out.mono ?_; clear hRaw; rintro e _ ⟨rfl, rfl⟩)
      | (go_at_call 102; refine hTree.out.mono ?_; clear hTree; rintro e w3 ⟨sa, sn, sc, t', rfl, hz2, hf2⟩; have hX3 := Bx.mk ((hX.out.stepF hz2 hf2).fr0 ((Fr.refl S0 _).alloc (.cells (trA (.slice sa sn sc) t') 105))); have hf3 := Bx.mk ((hf2.mono (fun k hk => .inr (.inl hk)) : Fr (SE A) w w3).alloc (.cells (trA (.slice sa sn sc) t') 105)); have hlx := hX3.out.obj.lt; clear hf2 hz2 hX)
      | (go_at_call 105; refine (hLay.out _ hX3.out).mono ?_; clear hLay; rintro e w6 ⟨rfl, hr, hf6⟩; have hr := Bx.mk hr; have hf6 := Bx.mk (hf3.out.trans (hf6.mono (fun k hk => .inl hk)))))
      go_ret
      exact ⟨rfl, hf6.out, .inr ⟨trivial, hr.out⟩⟩
  · have hto := (frm_tree hfrm).1
    have hlen := hto.max
    have ht2 := (copyN_lm (dc := cpDc p q) (dr := cpDr p q)).tree hto
    rw [movS_yes hfrm]
    obtain ⟨n, hn⟩ : ∃ n, (tlT s).nodes.length = n := ⟨_, rfl⟩
    have hrb := hto.rb
    have hCar : Bx (∀ (g : Nat) wx, AG wx g n (nd (tlT s).nodes) → Calls Tryz.prog 106 #[sl g n n, I ((q : Int) % 4 - (p : Int) % 4), I ((q : Int) / 4 - (p : Int) / 4)] wx fun e w' => e = .returned (.tuple #[]) ∧ AG w' g n (fun j => copyN (cpDc p q) (cpDr p q) (nd (tlT s).nodes j)) ∧ Fr (fun k => k = g) wx w') := ⟨fun g wx hA => carryAll_any (cpDc p q) (cpDr p q) g n _ wx (fun j hj => hrb j (by omega)) ⟨d1, d2⟩ ⟨d3, d4⟩ hA (by omega)⟩
    have hText : Bx (∀ (g : Nat) wx Bf, EX wx A x T E Bf → AG wx g n (fun j => copyN (cpDc p q) (cpDr p q) (nd (tlT s).nodes j)) → ¬ FmS A.B2 g → Calls Tryz.prog 104 #[pt A.xe, treeV (sl g n n) (tlT s)] wx fun e w' => e = .returned (.string (eqS (printOf (mapT (copyN (cpDc p q) (cpDr p q)) (tlT s))))) ∧ FZ w' A.B2 ∧ Fr (FmS A.B2) wx w') := ⟨fun g wx Bf h hA hg => by
      rw [treeV_map hto (copyN (cpDc p q) (cpDr p q))]
      exact xText_ok ht2 (by show ((tlT s).nodes.map _).length = n; rw [List.length_map, hn]) wx Bf h (AG.turned hA hn hto.ne) hg hA.lt⟩
    have hTree : Bx (Calls Tryz.prog 102 #[pt A.xe, .string s] w (TrY w (fun w => FZ w A.B2) (FmS A.B2) (tlT s) n)) := ⟨hTree0.out.mono (fun e w' h => h.yes hfrm hn hto.ne)⟩
    clear hTree0
    have hagn : Bx (∀ wx g, XL wx g (sl g n n) (tlT s).nodes → AG wx g n (nd (tlT s).nodes)) := ⟨fun wx g hX => hX.agn hn hto.ne⟩
    have hS1 : Bx ((eqS (printOf (mapT (copyN (cpDc p q) (cpDr p q)) (tlT s)))).size ≤ 2000) := ⟨by rw [eqS_size]; have := print_len' ht2; omega⟩
    clear hto hlen ht2 hrb hn d1 d2 d3 d4
    generalize hcp2 : copyN (cpDc p q) (cpDr p q) = F at *
    clear hcp2
    generalize eqS (printOf (mapT F (tlT s))) = S1 at *
    generalize tlT s = t at *
    by_cases h40 : 40 < S1.size
    · have hd : decide (40 < (S1.size : Int)) = true := by simp; omega
      rw [if_pos h40]
      clear h40 hLay
      go_enter Tryz.func69, Tryz.ntmps69
      go_wp2_with (first
      | (go_at_call 80; refine hRaw.out.mono ?_; clear hRaw; rintro e _ ⟨rfl, rfl⟩)
      | (go_at_call 102; refine hTree.out.mono ?_; clear hTree; rintro e w3 ⟨g, hgw, hgl3, rfl, hXL, hz2, hf2⟩; have hgA : Bx (¬ SE A g) := ⟨fun e => by have := hltA.out g e; omega⟩; have hX3 := Bx.mk ((hX.out.stepF hz2 hf2).fr0 ((Fr.refl S0 _).alloc (.cells (trA (sl g n n) t) 105))); have hf3 := Bx.mk ((hf2.mono (fun k hk => .inr (.inl hk)) : Fr (SE A) w w3).alloc (.cells (trA (sl g n n) t) 105)); have hAG3 := Bx.mk (hagn.out _ _ (hXL.fr ((Fr.refl S0 _).alloc (.cells (trA (sl g n n) t) 105)) (fun _ _ _ e => e))); have hT3 := Bx.mk (tv_new w3 (sl g n n) t 105 rfl); obtain ⟨x0, x1, x2, x3⟩ := hT3.out.tr4; clear hf2 hz2 hX hXL)
      | (go_at_call 106; refine (hCar.out g _ hAG3.out).mono ?_; clear hCar; rintro e w4 ⟨rfl, hA4, hf4⟩; have hA4 := Bx.mk hA4; have hX4 := Bx.mk (hX3.out.fr hf4 (fun k hk e => hgA.out (e ▸ hk))); have hT4 := Bx.mk (hf4.row hT3.out (by show ¬ w3.heap.size = g; omega)); have hf4 := Bx.mk (hf3.out.step hf4 (fun k hk => .inr (by rw [show k = g from hk]; exact hgw))); obtain ⟨x0, x1, x2, x3⟩ := hT4.out.tr4; have hlT := hT4.out.lt; clear hX3 hT3 hf3 hAG3)
      | (go_at_call 104; refine (hText.out g _ _ hX4.out hA4.out (fun e => hgA.out (.inr (.inl e)))).mono ?_; clear hText; rintro e w5 ⟨rfl, hz5, hf5⟩; have hX3 := Bx.mk (hX4.out.stepF hz5 hf5); have hf3 := Bx.mk (hf4.out.trans (hf5.mono (fun k hk => .inr (.inl hk)))); clear hX4 hT4 hf4 hA4))
      go_ret
      exact ⟨rfl, hf3.out, .inl ⟨by decide, hX3.out⟩⟩
    · have hd : decide (40 < (S1.size : Int)) = false := by simp; omega
      rw [if_neg h40]
      have hLay := Bx.mk (fun wx h => hLay.out S1 wx h (by omega))
      clear h40
      go_enter Tryz.func69, Tryz.ntmps69
      go_wp2_with (first
      | (go_at_call 80; refine hRaw.out.mono ?_; clear hRaw; rintro e _ ⟨rfl, rfl⟩)
      | (go_at_call 102; refine hTree.out.mono ?_; clear hTree; rintro e w3 ⟨g, hgw, hgl3, rfl, hXL, hz2, hf2⟩; have hgA : Bx (¬ SE A g) := ⟨fun e => by have := hltA.out g e; omega⟩; have hX3 := Bx.mk ((hX.out.stepF hz2 hf2).fr0 ((Fr.refl S0 _).alloc (.cells (trA (sl g n n) t) 105))); have hf3 := Bx.mk ((hf2.mono (fun k hk => .inr (.inl hk)) : Fr (SE A) w w3).alloc (.cells (trA (sl g n n) t) 105)); have hAG3 := Bx.mk (hagn.out _ _ (hXL.fr ((Fr.refl S0 _).alloc (.cells (trA (sl g n n) t) 105)) (fun _ _ _ e => e))); have hT3 := Bx.mk (tv_new w3 (sl g n n) t 105 rfl); obtain ⟨x0, x1, x2, x3⟩ := hT3.out.tr4; clear hf2 hz2 hX hXL)
      | (go_at_call 106; refine (hCar.out g _ hAG3.out).mono ?_; clear hCar; rintro e w4 ⟨rfl, hA4, hf4⟩; have hA4 := Bx.mk hA4; have hX4 := Bx.mk (hX3.out.fr hf4 (fun k hk e => hgA.out (e ▸ hk))); have hT4 := Bx.mk (hf4.row hT3.out (by show ¬ w3.heap.size = g; omega)); have hf4 := Bx.mk (hf3.out.step hf4 (fun k hk => .inr (by rw [show k = g from hk]; exact hgw))); obtain ⟨x0, x1, x2, x3⟩ := hT4.out.tr4; have hlT := hT4.out.lt; clear hX3 hT3 hf3 hAG3)
      | (go_at_call 104; refine (hText.out g _ _ hX4.out hA4.out (fun e => hgA.out (.inr (.inl e)))).mono ?_; clear hText; rintro e w5 ⟨rfl, hz5, hf5⟩; have hX3 := Bx.mk (hX4.out.stepF hz5 hf5); have hf3 := Bx.mk (hf4.out.trans (hf5.mono (fun k hk => .inr (.inl hk)))); clear hX4 hT4 hf4 hA4)
      | (go_at_call 105; refine (hLay.out _ hX3.out).mono ?_; clear hLay; rintro e w6 ⟨rfl, hr, hf6⟩; have hr := Bx.mk hr; have hf6 := Bx.mk (hf3.out.trans (hf6.mono (fun k hk => .inl hk)))))
      go_ret
      exact ⟨rfl, hf6.out, .inr ⟨trivial, hr.out⟩⟩

theorem xCopy_any (src dst : Int) (w : World) (h : EX w A x T E (fun _ => es)) (hS : Sheet T E) : Calls Tryz.prog 69 #[pt A.xe, I src, I dst] w (XCp w A x T E src dst) := by
  by_cases hb : src < 0 ∨ 24 ≤ src ∨ dst < 0 ∨ 24 ≤ dst
  · exact xCopy_out src dst w h hb
  · obtain ⟨p, rfl⟩ : ∃ p : Nat, src = (p : Int) := ⟨src.toNat, by omega⟩
    obtain ⟨q, rfl⟩ : ∃ q : Nat, dst = (q : Int) := ⟨dst.toNat, by omega⟩
    exact xCopy_in p q w h hS (by omega) (by omega)
/-- What Edit leaves. -/
def XEd (w : World) (A : XA) (x : Gr.XS) (T : Nat → ByteArray) (E : Nat → Vl) (k at_ : Int) : Ending → World → Prop := fun e w' => e = .returned (I (if edOK k at_ = true then 0 else 9)) ∧ Fr (SE A) w w' ∧
  ((edOK k at_ = false ∧ EX w' A x T E (fun _ => es)) ∨ (∃ rows ins, k = kd rows ins ∧ 0 ≤ at_ ∧ at_ < nAx rows ∧ ∃ x' E', EX w' A x' (edT rows ins at_ T) E' (fun _ => es) ∧ Sheet (edT rows ins at_ T) E'))
set_option maxHeartbeats 4000000 in
theorem xEdit_any (k at_ : Int) (w : World) (h : EX w A x T E (fun _ => es)) (hS : Sheet T E) : Calls Tryz.prog 68 #[pt A.xe, I k, I at_] w (XEd w A x T E k at_) := by
  cases ho : edOK k at_
  · have hOK : Bx (∀ wx, Calls Tryz.prog 73 #[I k, I at_] wx fun e w' => e = .returned (.bool false) ∧ wx = w') := ⟨fun wx => by have := editOK_any k at_ wx; rw [ho] at this; exact this⟩
    have hX := Bx.mk h
    have ho := Bx.mk ho
    clear h
    go_enter Tryz.func68, Tryz.ntmps68
    go_wp2_with (first
      | (go_at_call 73; refine (hOK.out _).mono ?_; clear hOK; rintro e _ ⟨rfl, rfl⟩))
    go_ret
    exact ⟨by rw [ho.out] <;> rfl, Fr.refl _ _, .inl ⟨ho.out, hX.out⟩⟩
  · obtain ⟨rows, ins, rfl, h0, h1⟩ := edOK_kd ho
    refine (xEdit_ok rows ins at_ w h hS h0 h1).mono ?_
    rintro e w' ⟨rfl, hr, hf⟩
    exact ⟨by rw [ho] <;> rfl, hf, .inr ⟨rows, ins, rfl, h0, h1, hr⟩⟩
end
end Go.Proofs.Qxb6500326aGreat
