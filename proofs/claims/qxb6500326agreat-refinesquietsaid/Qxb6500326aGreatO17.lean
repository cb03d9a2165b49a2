import Derived.Test.Qxb6500326aGreatO16
namespace Go.Proofs.Qxb6500326aGreat
set_option maxRecDepth 100000
set_option linter.unusedVariables false
set_option linter.unusedSimpArgs false
open Go.RowKit Go.PlainAid
section
variable {M : YA} {sb : Nat} {T : Nat → ByteArray} {E : Nat → Vl}
def YCp (w : World) (M : YA) (sb : Nat) (T : Nat → ByteArray) (E : Nat → Vl) (src dst : Int) : Ending → World → Prop := fun e w' => e = .returned (I (cpP T src dst)) ∧ Fr (SY M) w w' ∧
  ((cpP T src dst ≠ 0 ∧ EY w' M sb T E) ∨ (cpP T src dst = 0 ∧ ∃ sb' E', w.heap.size ≤ sb' ∧ EY w' M sb' (upd T dst.toNat (cpS T src dst)) E' ∧ Sheet (upd T dst.toNat (cpS T src dst)) E'))
set_option maxHeartbeats 4000000 in
theorem yCopy_out (src dst : Int) (w : World) (h : EY w M sb T E) (hb : src < 0 ∨ 24 ≤ src ∨ dst < 0 ∨ 24 ≤ dst) : Calls Tryz.prog 40 #[pt M.me, I src, I dst] w (YCp w M sb T E src dst) := by
  have e9 : Bx (cpP T src dst = 9) := ⟨by unfold cpP; rw [if_pos hb]⟩
  have hX := Bx.mk h
  clear h
  cases d1 : decide (src < 0) <;> cases d2 : decide (24 ≤ src) <;> cases d3 : decide (dst < 0) <;> cases d4 : decide (24 ≤ dst)
  case false.false.false.false => simp at d1 d2 d3 d4; omega
  all_goals clear hb
  all_goals go_enter Tryz.func40, Tryz.ntmps40
  all_goals go_wp2_with fail
  all_goals go_ret
  all_goals exact ⟨by rw [e9.out] <;> rfl, Fr.refl _ _, .inl ⟨by rw [e9.out]; decide, hX.out⟩⟩
theorem setP_cp {T : Nat → ByteArray} {p q : Nat} (hp : p < 24) (hq : q < 24) : setP (q : Int) (cpS T p q) = cpP T p q := by
  rw [cpP_in hp hq]; unfold setP; split
  · rfl
  · rw [if_neg (by omega)]
set_option maxHeartbeats 16000000 in
theorem yCopy_in (p q : Nat) (w : World) (h : EY w M sb T E) (hS : Sheet T E) (hp : p < 24) (hq : q < 24) : Calls Tryz.prog 40 #[pt M.me, I p, I q] w (YCp w M sb T E p q) := by
  obtain ⟨⟨d1, d2⟩, d3, d4⟩ := cp_bd hp hq
  have hcp := setP_cp (T := T) hp hq
  have hRaw : Bx (Calls Tryz.prog 75 #[pt M.cb, I p] w fun e w' => e = .returned (.string (T p)) ∧ w = w') := ⟨by have := cRaw_any (p : Int) w h.cm; rw [rawP_at hp] at this; exact this⟩
  have hTree0 : Bx (Calls Tryz.prog 76 #[pt M.me, .string (T p)] w (TrP w (fun w => MF w M.fm) (fun k => k = M.fm) (T p))) := ⟨mTree_any (T p) w h⟩
  have hcs : cpS T p q = movS (copyN (cpDc p q) (cpDr p q)) (T p) := rfl
  have hSet : Bx (∀ (s : ByteArray) wx, EY wx M sb T E → Fr (SY M) w wx → Calls Tryz.prog 72 #[pt M.cb, I q, .string s] wx fun e w' => e = .returned (I (setP q s)) ∧ Fr (SY M) w w' ∧
    ((setP q s ≠ 0 ∧ EY w' M sb T E) ∨ (setP q s = 0 ∧ ∃ sb' E', w.heap.size ≤ sb' ∧ EY w' M sb' (upd T q s) E' ∧ Sheet (upd T q s) E'))) := ⟨fun s wx h hf => (cSet_any (q : Int) s wx h.cm hS).mono (fun e w' hr => by
      obtain ⟨a1, a2, a3⟩ := yk_set h hS (q : Int) s hf e hr
      refine ⟨a1, a2, ?_⟩
      rcases a3 with a3 | ⟨b1, sb', E', b2, b3⟩
      · exact .inl a3
      · exact .inr ⟨b1, sb', E', by have := hf.size; omega, b3⟩)⟩
  have hX := Bx.mk h
  obtain ⟨c0, c1, hlx⟩ := h.em2
  have e1 : decide ((p : Int) < 0) = false := decide_eq_false (by omega)
  have e2 : decide (24 ≤ (p : Int)) = false := decide_eq_false (by omega)
  have e3 : decide ((q : Int) < 0) = false := decide_eq_false (by omega)
  have e4 : decide (24 ≤ (q : Int)) = false := decide_eq_false (by omega)
  have hqN : ((q : Int)).toNat = q := rfl
  clear h hS
  unfold YCp
  rw [hqN, ← hcp, hcs]
  clear hcp hcs hqN
  generalize T p = s at *
  cases hfrm : frm s
  · rw [movS_no hfrm]
    have hTree : Bx (Calls Tryz.prog 76 #[pt M.me, .string s] w (TrN w (fun w => MF w M.fm) (fun k => k = M.fm))) := ⟨hTree0.out.mono (fun e w' h => h.no hfrm)⟩
    clear hTree0
    have hSet := Bx.mk (fun wx h hf => hSet.out s wx h hf)
    go_enter Tryz.func40, Tryz.ntmps40
    go_wp2_with (first
      | (go_at_call 75; refine hRaw.out.mono ?_; clear hRaw; rintro e _ ⟨rfl, rfl⟩)
      | (go_at_call 76; refine hTree.out.mono ?_; clear hTree; rintro e w3 ⟨sa, sn, sc, t', rfl, hz2, hf2⟩; have hX3 := Bx.mk ((hX.out.stepF hz2 hf2).fr0 ((Fr.refl S0 _).alloc (.cells (trA (.slice sa sn sc) t') 105))); have hf3 := Bx.mk ((hf2.mono (fun k hk => .inr (.inl hk)) : Fr (SY M) w w3).alloc (.cells (trA (.slice sa sn sc) t') 105)); obtain ⟨c0, c1, hlx⟩ := hX3.out.em2; clear hf2 hz2 hX)
      | (go_at_call 72; refine (hSet.out _ hX3.out hf3.out).mono ?_; clear hSet; rintro e w6 ⟨rfl, hr⟩; have hr := Bx.mk hr))
    go_ret
    exact ⟨rfl, hr.out⟩
  · have hto := (frm_tree hfrm).1
    have hlen := hto.max
    have ht2 := (copyN_lm (dc := cpDc p q) (dr := cpDr p q)).tree hto
    rw [movS_yes hfrm]
    obtain ⟨n, hn⟩ : ∃ n, (tlT s).nodes.length = n := ⟨_, rfl⟩
    have hn2 : (mapT (copyN (cpDc p q) (cpDr p q)) (tlT s)).nodes.length = n := by show ((tlT s).nodes.map _).length = n; rw [List.length_map, hn]
    have hrb := hto.rb
    have hMov : Bx (∀ (g : Nat) wx, XL wx g (sl g n n) (tlT s).nodes → Calls Tryz.prog 79 #[treeV (sl g n n) (tlT s), I ((q : Int) % 4 - (p : Int) % 4), I ((q : Int) / 4 - (p : Int) / 4)] wx fun e w' => ∃ g2, wx.heap.size ≤ g2 ∧ e = .returned (treeV (sl g2 n n) (mapT (copyN (cpDc p q) (cpDr p q)) (tlT s))) ∧ XL w' g2 (sl g2 n n) (mapT (copyN (cpDc p q) (cpDr p q)) (tlT s)).nodes ∧ Fr S0 wx w') := ⟨fun g wx hXL => (copied_any (cpDc p q) (cpDr p q) (sl g n n) (tlT s) wx (hXL.nl (by omega)) hto.ne hlen hrb ⟨d1, d2⟩ ⟨d3, d4⟩).mono (by
      rintro e w' ⟨g2, a1, a2, a3, a4⟩
      rw [hn2] at a2 a3
      exact ⟨g2, a1, a2, a3, a4⟩)⟩
    have hText : Bx (∀ (g : Nat) wx, EY wx M sb T E → XL wx g (sl g n n) (mapT (copyN (cpDc p q) (cpDr p q)) (tlT s)).nodes → g ≠ M.fm → Calls Tryz.prog 78 #[pt M.me, treeV (sl g n n) (mapT (copyN (cpDc p q) (cpDr p q)) (tlT s))] wx fun e w' => e = .returned (.string (eqS (printOf (mapT (copyN (cpDc p q) (cpDr p q)) (tlT s))))) ∧ MF w' M.fm ∧ Fr (fun k => k = M.fm) wx w') := ⟨fun g wx h hXL hg => mText_ok ht2 hn2 wx h hXL hg (hXL.agn hn2 ht2.ne).lt⟩
    have hTree : Bx (Calls Tryz.prog 76 #[pt M.me, .string s] w (TrY w (fun w => MF w M.fm) (fun k => k = M.fm) (tlT s) n)) := ⟨hTree0.out.mono (fun e w' h => h.yes hfrm hn hto.ne)⟩
    clear hTree0
    clear hto hlen ht2 hn hn2 hrb d1 d2 d3 d4
    generalize hcp2 : copyN (cpDc p q) (cpDr p q) = F at *
    clear hcp2
    generalize eqS (printOf (mapT F (tlT s))) = S1 at *
    generalize mapT F (tlT s) = t2 at *
    generalize tlT s = t at *
    have hSet := Bx.mk (fun wx h hf => hSet.out S1 wx h hf)
    go_enter Tryz.func40, Tryz.ntmps40
    go_wp2_with (first
      | (go_at_call 75; refine hRaw.out.mono ?_; clear hRaw; rintro e _ ⟨rfl, rfl⟩)
      | (go_at_call 76; refine hTree.out.mono ?_; clear hTree; rintro e w3 ⟨g, hgw, hgl3, rfl, hXL, hz2, hf2⟩; have hX3 := Bx.mk ((hX.out.stepF hz2 hf2).fr0 ((Fr.refl S0 _).alloc (.cells (trA (sl g n n) t) 105))); have hf3 := Bx.mk ((hf2.mono (fun k hk => .inr (.inl hk)) : Fr (SY M) w w3).alloc (.cells (trA (sl g n n) t) 105)); have hXL3 := Bx.mk (hXL.fr ((Fr.refl S0 _).alloc (.cells (trA (sl g n n) t) 105)) (fun _ _ _ e => e)); have hT3 := Bx.mk (tv_new w3 (sl g n n) t 105 rfl); obtain ⟨x0, x1, x2, x3⟩ := hT3.out.tr4; clear hf2 hz2 hX hXL)
      | (go_at_call 79; refine (hMov.out g _ hXL3.out).mono ?_; clear hMov; rintro e w4 ⟨g2, hg2, rfl, hXL4, hf4⟩; have hX4 := Bx.mk (hX3.out.fr0 (hf4.alloc (.cells (trA (sl g2 n n) t2) 105))); have hg2f : g2 ≠ M.fm := (by have := hX3.out.lt M.fm (.inl (.inr (.inl rfl))); omega); have hXL4 := Bx.mk (hXL4.fr ((Fr.refl S0 _).alloc (.cells (trA (sl g2 n n) t2) 105)) (fun _ _ _ e => e)); have hf4 := Bx.mk ((hf3.out.trans hf4.up).alloc (.cells (trA (sl g2 n n) t2) 105)); have hT4 := Bx.mk (tv_new w4 (sl g2 n n) t2 105 rfl); obtain ⟨x0, x1, x2, x3⟩ := hT4.out.tr4; clear hX3 hT3 hf3 hXL3)
      | (go_at_call 78; refine (hText.out g2 _ hX4.out hXL4.out hg2f).mono ?_; clear hText; rintro e w5 ⟨rfl, hz5, hf5⟩; have hX3 := Bx.mk (hX4.out.stepF hz5 hf5); have hf3 := Bx.mk (hf4.out.trans (hf5.mono (fun k hk => .inr (.inl hk)))); obtain ⟨c0, c1, hlx⟩ := hX3.out.em2; clear hX4 hT4 hf4 hXL4)
      | (go_at_call 72; refine (hSet.out _ hX3.out hf3.out).mono ?_; clear hSet; rintro e w6 ⟨rfl, hr⟩; have hr := Bx.mk hr))
    go_ret
    exact ⟨rfl, hr.out⟩
theorem yCopy_any (src dst : Int) (w : World) (h : EY w M sb T E) (hS : Sheet T E) : Calls Tryz.prog 40 #[pt M.me, I src, I dst] w (YCp w M sb T E src dst) := by
  by_cases hb : src < 0 ∨ 24 ≤ src ∨ dst < 0 ∨ 24 ≤ dst
  · exact yCopy_out src dst w h hb
  · obtain ⟨p, rfl⟩ : ∃ p : Nat, src = (p : Int) := ⟨src.toNat, by omega⟩
    obtain ⟨q, rfl⟩ : ∃ q : Nat, dst = (q : Int) := ⟨dst.toNat, by omega⟩
    exact yCopy_in p q w h hS (by omega) (by omega)
def YEd (w : World) (M : YA) (sb : Nat) (T : Nat → ByteArray) (E : Nat → Vl) (k at_ : Int) : Ending → World → Prop := fun e w' => e = .returned (I (if edOK k at_ = true then 0 else 9)) ∧ Fr (SY M) w w' ∧
  ((edOK k at_ = false ∧ EY w' M sb T E) ∨ (∃ rows ins, k = kd rows ins ∧ 0 ≤ at_ ∧ at_ < nAx rows ∧ ∃ sb' E', (sb' = sb ∨ w.heap.size ≤ sb') ∧ EY w' M sb' (edT rows ins at_ T) E' ∧ Sheet (edT rows ins at_ T) E'))
set_option maxHeartbeats 4000000 in
theorem yEdit_any (k at_ : Int) (w : World) (h : EY w M sb T E) (hS : Sheet T E) : Calls Tryz.prog 39 #[pt M.me, I k, I at_] w (YEd w M sb T E k at_) := by
  cases ho : edOK k at_
  · have hOK : Bx (∀ wx, Calls Tryz.prog 73 #[I k, I at_] wx fun e w' => e = .returned (.bool false) ∧ wx = w') := ⟨fun wx => by have := editOK_any k at_ wx; rw [ho] at this; exact this⟩
    have hX := Bx.mk h
    have ho := Bx.mk ho
    clear h
    go_enter Tryz.func39, Tryz.ntmps39
    go_wp2_with (first
      | (go_at_call 73; refine (hOK.out _).mono ?_; clear hOK; rintro e _ ⟨rfl, rfl⟩))
    go_ret
    exact ⟨by rw [ho.out] <;> rfl, Fr.refl _ _, .inl ⟨ho.out, hX.out⟩⟩
  · obtain ⟨rows, ins, rfl, h0, h1⟩ := edOK_kd ho
    refine (yEdit_ok rows ins at_ w h hS h0 h1).mono ?_
    rintro e w' ⟨rfl, hr, hf⟩
    exact ⟨by rw [ho] <;> rfl, hf, .inr ⟨rows, ins, rfl, h0, h1, hr⟩⟩
end
end Go.Proofs.Qxb6500326aGreat
