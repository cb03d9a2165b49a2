import Derived.Test.Qxb6500331aGreatE4
namespace Go.Proofs.Qxb6500331aGreat
set_option maxRecDepth 100000
set_option linter.unusedVariables false
set_option linter.unusedSimpArgs false
open Go.RowKit Go.PlainAid

theorem results_cell_slot2 {P : Program} {fn : Func} {p q r : Tmp} {ty : TypeId} (h : fn.results = #[.cell p ty, .tmp q, .tmp r]) (tmps : Array Value) (w : World) (g : Nat) (t : TypeId) (cs : Array Value) (fr : Nat × Nat) (d : TypeDesc)
    (hp : tmps.getD p undef = .pointer (some ⟨g, 0, none⟩)) (hg : w.heap[g]? = some (.cells cs t fr))
    (hu : P.underlying ty = some d) (hd : (match d with | .struct _ | .array _ _ => true | _ => false) = true) (hi : (P.info? ty).map (·.size) = some cs.size) :
    (results fn tmps).run P w = .ok (.tuple #[.agg cs, tmps.getD q undef, tmps.getD r undef]) w := by
  have hp' : tmps[p]?.getD undef = .pointer (some ⟨g, 0, none⟩) := by simpa using hp
  simp [results, h, hp', asAddr, run_loadVar_row w g t ty cs fr d hg hu hd hi]
theorem ret_vee {fn : Func} {R : Ending → World → Prop} {a : Act} {w : World} {p q r : Tmp} {g : Nat} {x : Vl} {u v : Value} (hr : fn.results = #[.cell p 47, .tmp q, .tmp r]) (hp : a.tmps.getD p undef = pt g) (hq : a.tmps.getD q undef = u) (hv : a.tmps.getD r undef = v) (hrow : Row w g 3 (vC x)) (hd : a.defers = [])
    (hR : R (.returned (.tuple #[vV x, u, v])) w) : bodyPost Tryz.prog fn R .ret a w := by
  obtain ⟨T, hh⟩ := v_heap hrow
  refine bodyPost_ret (results_cell_slot2 hr a.tmps w g T _ (0, 0) _ hp hh Tryz.underlying47 rfl (by rw [Tryz.size47]; rfl)) hd ?_
  rw [hq, hv]
  exact hR
theorem WS.more {w : World} {V : VB} {B : FB} {mb fb d : Nat} {Z : Nat → Prop} (h : WS w V B mb fb d Z) (g n N : Nat) (old : Nat → Option (Nat × Nat)) (hrow : Row w d 9 (dkC old N)) (hN : N < 8)
    (hold : ∀ i, i < 8 → ∀ g n, old i = some (g, n) → Z g ∧ g < w.heap.size ∧ n ≤ 100 ∧ EL w g n (fun _ => scr)) (hE : EL w g n (fun _ => scr)) (hn : n ≤ 100) (hg : ¬ UD V B mb fb d g) :
    WS ((w.setCell ⟨d, N, none⟩ (sl g n n)).setCell ⟨d, 8, none⟩ (I (((N : Int) + 1) % 8))) V B mb fb d (fun k => Z k ∨ k = g) := by
  have hf : Fr (fun k => k = d) w ((w.setCell ⟨d, N, none⟩ (sl g n n)).setCell ⟨d, 8, none⟩ (I (((N : Int) + 1) % 8))) := ((Fr.refl (fun k => k = d) w).setCell (p := ⟨d, N, none⟩) (.inl rfl) _).setCell (p := ⟨d, 8, none⟩) (.inl rfl) _
  have hgd : g ≠ d := fun e => hg (.inr (.inr e))
  refine ⟨h.ez.fr hf (fun k hk e => (h.vm k hk).2 e), h.me.fr hf (fun e => h.md _ (.inl rfl) e) (fun e => h.md _ (.inr rfl) e), ⟨upd old N (some (g, n)), (N + 1) % 8, ?_, Nat.mod_lt _ (by omega), ?_⟩, h.vm, h.md, ?_, ?_⟩
  · refine ((hrow.set N _).set 8 _).congr ?_
    intro i hi
    unfold dkC
    by_cases e8 : i = 8
    · subst e8
      rw [upd_same, if_neg (by omega)]
      congr 1
    · rw [upd_other _ _ e8, if_pos (by omega)]
      by_cases eN : i = N
      · subst eN; rw [upd_same, upd_same]; rfl
      · rw [upd_other _ _ eN, if_pos (by omega), upd_other _ _ eN]
  · intro i hi g' n' e
    by_cases eN : i = N
    · subst eN
      rw [upd_same] at e
      injection e with e
      injection e with e1 e2
      subst e1; subst e2
      exact ⟨.inr rfl, Nat.lt_of_lt_of_le (Row.lt hE) hf.size, hn, hE.of hf hgd⟩
    · rw [upd_other _ _ eN] at e
      obtain ⟨a, b, c, k⟩ := hold i hi g' n' e
      exact ⟨.inl a, Nat.lt_of_lt_of_le b hf.size, c, k.of hf (fun e2 => h.zu _ a (.inr (.inr e2)))⟩
  · rintro k (hk | rfl)
    · exact h.zu k hk
    · exact hg
  · rintro k (hk | rfl)
    · exact Nat.lt_of_lt_of_le (h.zl k hk) hf.size
    · exact Nat.lt_of_lt_of_le (Row.lt hE) hf.size
/-- What SameCell leaves. -/
def SC (w : World) (V : VB) (B : FB) (mb fb d : Nat) (Z : Nat → Prop) (x : Vl) (e : Int) : Ending → World → Prop := fun en w' => en = .returned (.tuple #[vV x, I e, .bool true]) ∧ (∃ Z' : Nat → Prop, WS w' V B mb fb d Z' ∧ ∀ k, Z' k → Z k ∨ w.heap.size ≤ k) ∧ Fr (UD V B mb fb d) w w'
set_option maxHeartbeats 16000000 in
theorem sameCell_pos (V : VB) (B : FB) (mb fb d : Nat) (Z : Nat → Prop) (s : ByteArray) (rb n : Nat) (env : Nat → Vl) (w : World) (h : WS w V B mb fb d Z) (hE : EL w rb n env) (hrb : ¬ UD V B mb fb d rb) (hn : 0 < n) (hn2 : n ≤ 100) :
    Calls Tryz.prog 30 #[pt V.e, pt mb, blV B.f, pt d, .string s, sl rb n n] w (SC w V B mb fb d Z (cellP s n env).1 (cellP s n env).2) := by
  have hb := Bx.mk ((bl_new w B.f).alloc (.cells #[I 0, I 0, .string es] 47))
  have hz := Bx.mk (v_zero (w.alloc (.cells #[pt B.f] 29)) 47 (H := w.heap.size + 1) (by simp))
  have hfr : Bx (Fr (UD V B mb fb d) w ((w.alloc (.cells #[pt B.f] 29)).alloc (.cells #[I 0, I 0, .string es] 47))) := ⟨((Fr.refl _ _).alloc _).alloc _⟩
  have hne : Bx (∀ k, w.heap.size ≤ k → ¬ UD V B mb fb d k) := ⟨fun k hk => h.ne hk⟩
  have hzl := Bx.mk h.zl
  have hW := Bx.mk (h.fr0 (((Fr.refl S0 w).alloc (.cells #[pt B.f] 29)).alloc (.cells #[I 0, I 0, .string es] 47)))
  obtain ⟨r, hr⟩ : ∃ r, Bx (cellP s n env = r) := ⟨_, ⟨rfl⟩⟩
  have hCp : Bx (∀ w', Fr (UD V B mb fb d) w w' → Calls Tryz.prog 40 #[sl rb n n] w' fun e w'' => ∃ g, e = .returned (sl g n n) ∧ w'.heap.size ≤ g ∧ EL w'' g n env ∧ Fr S0 w' w'') := ⟨fun w' f => (copyVals_any rb n n env w' (hE.of f hrb) hn hn2).mono (fun e w'' hh => ⟨_, hh.1, Nat.le_refl _, hh.2.1, hh.2.2⟩)⟩
  have hCp2 := hCp
  have hV : Bx (∀ w' g, EZ w' V B → EL w' g n env → ¬ VF V B g → Calls Tryz.prog 41 #[pt V.e, .string s, sl g n n] w' fun e w'' => e = .returned (.tuple #[vV r.1, I r.2]) ∧ EZ w'' V B ∧ Fr (VF V B) w' w'') := ⟨fun w' g h hg hb => by
    have := cellV_any V B s n g env w' h (fun _ => ⟨hg, hb⟩)
    rw [hr.out] at this
    unfold cpV at this
    rw [if_neg (by omega)] at this
    exact this⟩
  have hM : Bx (∀ w' g, MEv w' mb fb → EL w' g n env → ¬ MeS mb fb g → Calls Tryz.prog 23 #[pt mb, .string s, sl g n n] w' fun e w'' => e = .returned (.tuple #[vV r.1, I r.2]) ∧ MEv w'' mb fb ∧ Fr (MeS mb fb) w' w'') := ⟨fun w' g h hg hb => by
    have := cellM_any mb fb s n g env w' h (fun _ => ⟨hg, hb⟩)
    rw [hr.out] at this
    unfold cpV at this
    rw [if_neg (by omega)] at this
    exact this⟩
  have hEr : Bx (∀ w', Fr (UD V B mb fb d) w w' → EL w' rb n env) := ⟨fun w' f => hE.of f hrb⟩
  have hrl : rb < w.heap.size := Row.lt hE
  rw [hr.out]
  obtain ⟨x, er⟩ := r
  clear h hE hrb hr
  have hnd : decide ((0 : Int) < n) = true := by simp; omega
  go_enter Tryz.func30, Tryz.ntmps30
  go_wp2_with (first
    | (go_at_call 40; refine (hCp.out _ hfr.out).mono ?_; clear hCp; rintro e w1 ⟨g1, rfl, hg1, hL1, hf⟩; have hL1 := Bx.mk hL1; have hb := Bx.mk (hf.row0 hb.out); have b0 := hb.out.cell 0 (by omega); have hz := Bx.mk (hf.row0 hz.out); have hg1w : w.heap.size + 2 ≤ g1 := (by simpa using hg1); have hfr := Bx.mk (hfr.out.trans hf.up); have hW := Bx.mk (hW.out.fr0 hf); clear hf hg1)
    | (go_at_call 40; refine (hCp2.out _ hfr.out).mono ?_; clear hCp2; rintro e w2 ⟨g2, rfl, hg2, hL2, hf⟩; have hg12 : g1 < g2 := (Nat.lt_of_lt_of_le (Row.lt hL1.out) hg2); have hL1 := Bx.mk (hL1.out.of hf (by simp)); have hL2 := Bx.mk hL2; have hb := Bx.mk (hf.row0 hb.out); have b0 := hb.out.cell 0 (by omega); have hz := Bx.mk (hf.row0 hz.out); have hfr := Bx.mk (hfr.out.trans hf.up); have hW := Bx.mk (hW.out.fr0 hf); clear hf hg2)
    | (go_at_call 27; refine (mark_any B.f _).mono ?_; rintro e w3 ⟨rfl, hf⟩; have hL1 := Bx.mk (hL1.out.of hf (by simp)); have hL2 := Bx.mk (hL2.out.of hf (by simp)); have hb := Bx.mk (hf.row0 hb.out); have b0 := hb.out.cell 0 (by omega); have hz := Bx.mk (hf.row0 hz.out); have hfr := Bx.mk (hfr.out.trans hf.up); have hW := Bx.mk (hW.out.fr0 hf); clear hf)
    | (go_at_call 41; refine (hV.out _ g1 hW.out.ez hL1.out (fun e => hne.out g1 (by omega) (.inl e))).mono ?_; clear hV; rintro e w4 ⟨rfl, hzz, hf⟩; have hg1lt : Bx (g1 < w4.heap.size) := ⟨Nat.lt_of_lt_of_le (Row.lt hL1.out) hf.size⟩; have hL1 := Bx.mk ((hL1.out.of hf (fun e => hne.out g1 (by omega) (.inl e))).of (S := S0) ((Fr.refl S0 _).alloc (.cells (vA x) 47)) (by simp)); have hL2 := Bx.mk ((hL2.out.of hf (fun e => hne.out g2 (by omega) (.inl e))).of (S := S0) ((Fr.refl S0 _).alloc (.cells (vA x) 47)) (by simp)); have hb := Bx.mk ((hf.row hb.out (fun e => hne.out _ (Nat.le_refl _) (.inl e))).alloc (.cells (vA x) 47)); have b0 := hb.out.cell 0 (by omega); have hz := Bx.mk ((hf.row hz.out (fun e => hne.out _ (by omega) (.inl e))).alloc (.cells (vA x) 47)); have hW := Bx.mk ((hW.out.stepV hzz hf).fr0 ((Fr.refl S0 _).alloc (.cells (vA x) 47))); have hv := Bx.mk (v_new w4 x 47 rfl); have hfr := Bx.mk ((hfr.out.trans hf.ud).alloc (.cells (vA x) 47)); have hw4 := hfr.out.size; have hsz4 : w.heap.size ≤ w4.heap.size := (by have := Row.lt hb.out; have q := hz.out.lt; simp at q; omega); have hvg : Bx (¬ w4.heap.size = g1) := ⟨fun e => by have q := Row.lt hL1.out; have q3 := hg1lt.out; omega⟩; obtain ⟨vv0, vv1, vv2, -, -, -⟩ := hv.out.v3; clear hf hzz)
    | (go_at_call 29; refine (scribbled_any d Z _ hW.out.dk).mono ?_; rintro e w5 ⟨rfl, rfl⟩)
    | (go_at_call 34; refine (due_any _ _ _).mono ?_; rintro e w6 ⟨⟨dv, rfl⟩, rfl⟩)
    | (go_at_call 12; refine (asks_any B.f _ _ _).mono ?_; rintro e w7 ⟨rfl, hf⟩; have hL1 := Bx.mk (hL1.out.of hf (by simp)); have hL2 := Bx.mk (hL2.out.of hf (by simp)); have hz := Bx.mk (hf.row0 hz.out); have hv := Bx.mk (hf.row0 hv.out); obtain ⟨vv0, vv1, vv2, -, -, -⟩ := hv.out.v3; have hfr := Bx.mk (hfr.out.trans hf.up); have hW := Bx.mk (hW.out.fr0 hf); clear hf)
    | (go_at_call 23; refine (hM.out _ g2 hW.out.me hL2.out (fun e => hne.out g2 (by omega) (.inr (.inl e)))).mono ?_; clear hM; rintro e w8 ⟨rfl, hzz, hf⟩; have hL1 := Bx.mk ((hL1.out.of hf (fun e => hne.out g1 (by omega) (.inr (.inl e)))).of (S := S0) ((Fr.refl S0 _).alloc (.cells (vA x) 47)) (by simp)); have hz := Bx.mk ((hf.row hz.out (fun e => hne.out _ (by omega) (.inr (.inl e)))).alloc (.cells (vA x) 47)); have hvr := hf.row hv.out (fun e => hne.out _ hsz4 (.inr (.inl e))); obtain ⟨vv0, vv1, vv2, -, -, -⟩ := hvr.v3; have hlv := hvr.lt; have hv := Bx.mk (hvr.alloc (.cells (vA x) 47)); have hW := Bx.mk ((hW.out.stepM hzz hf).fr0 ((Fr.refl S0 _).alloc (.cells (vA x) 47))); have hfr := Bx.mk ((hfr.out.trans hf.ud2).alloc (.cells (vA x) 47)); clear hf hzz hvr)
    | (go_at_call 24; refine (sameValue_refl x _).mono ?_; rintro e w9 ⟨rfl, hf⟩; have hL1 := Bx.mk (hL1.out.of hf (by simp)); have hz := Bx.mk (hf.row0 hz.out); have hv := Bx.mk (hf.row0 hv.out); obtain ⟨vv0, vv1, vv2, -, -, -⟩ := hv.out.v3; have hfr := Bx.mk (hfr.out.trans hf.up); have hW := Bx.mk (hW.out.fr0 hf); clear hf))
  have hg1u : Bx (¬ UD V B mb fb d g1) := ⟨hne.out g1 (by omega)⟩
  have hg1z : Bx (∀ k, Z k → ¬ k = g1) := ⟨fun k hk e => by have := hzl.out k hk; omega⟩
  have hvb : Bx (¬ w4.heap.size = g1) := ⟨by
    have q1 := Row.lt hL1.out
    have q2 := hv.out
    intro e
    exact hvg.out e⟩
  go_loopw [22] (fun i wr => ∃ k : Nat, k ≤ n ∧ i = I (k : Int) ∧ Bx (EL wr g1 n (fun c => if c < k then scr else env c)) ∧ Bx (WS wr V B mb fb d Z) ∧ Bx (Row wr (w.heap.size + 1) 3 (vC v0)) ∧ Bx (Row wr w4.heap.size 3 (vC x)) ∧ Bx (Fr (UD V B mb fb d) w wr)) (fun i _ => n - (intOf i).toNat)
  case atStart => exact ⟨0, by omega, rfl, ⟨Row.congr hL1.out (by intro j hj; simp)⟩, hW, hz, hv, hfr⟩
  case round =>
    clear hL1 hL2 hz hW hfr hb vv0 vv1 vv2
    obtain ⟨k, hk, rfl, hL, hW, hz, hv, hfr⟩ := hrel
    obtain ⟨vv0, vv1, vv2, -, -, -⟩ := hv.out.v3
    obtain ⟨q0, q1, q2, qq0, qq1, qq2⟩ := hz.out.v3
    by_cases hkn : k < n
    · have hkd : decide ((k : Int) < n) = true := by simp; omega
      have hEk := hEr.out wr hfr.out
      have e0 := hEk.cell0 k hkn (by omega)
      have e1 := hEk.cell k 1 hkn (by omega)
      have e2 := hEk.cell k 2 hkn (by omega)
      have l0 := hL.out.cell0 k hkn (by omega)
      have l1 := hL.out.cell k 1 hkn (by omega)
      have l2 := hL.out.cell k 2 hkn (by omega)
      simp only [vC, if_neg (Nat.lt_irrefl k)] at e0 e1 e2 l0 l1 l2
      clear hEk
      go_wp2_with fail
      refine region_cut (fun w' => Bx (Fr S0 wr w')) ?_
      apply Exists.intro
      apply And.intro
      · go_region_with (first | (go_at_call 24; refine (sameValue_refl (env k) _).mono ?_; rintro e w9 ⟨rfl, hf⟩))
        all_goals exact ⟨rfl, ⟨(Fr.refl S0 wr).thru hf rfl rfl rfl rfl⟩⟩
      rintro w0 hf
      have hL0 := Bx.mk (hL.out.of hf.out (by simp))
      have hW0 := Bx.mk (hW.out.fr0 hf.out)
      have hz0 := Bx.mk (hf.out.row0 hz.out)
      have hv0 := Bx.mk (hf.out.row0 hv.out)
      have hfr0 := Bx.mk (hfr.out.trans hf.out.up)
      have m0 := hL0.out.cell0 k hkn (by omega)
      have m1 := hL0.out.cell k 1 hkn (by omega)
      have m2 := hL0.out.cell k 2 hkn (by omega)
      have z0 := hL0.out.frozen (k * 3)
      have z1 := hL0.out.frozen (k * 3 + 1)
      have z2 := hL0.out.frozen (k * 3 + 2)
      simp only [vC, if_neg (Nat.lt_irrefl k)] at m0 m1 m2
      have hS : Bx (Fr (fun j => j = g1) w0 (sets w0 g1 (k * 3) (vA scr).toList)) := ⟨sets_fr (S := fun j => j = g1) (.inl rfl) _ _ _ (Fr.refl _ _)⟩
      have hL9 : Bx (EL (sets w0 g1 (k * 3) (vA scr).toList) g1 n (fun c => if c < k + 1 then scr else env c)) := ⟨by
        refine Row.congr (hL0.out.put k (by omega) (vA scr).toList rfl (vC scr) (by intro i hi; rcases i with _ | _ | _ | i <;> first | rfl | omega)) ?_
        intro j hj
        simp only [upd]
        by_cases e : j / 3 = k
        · rw [if_pos e, if_pos (by omega)]
        · rw [if_neg e]
          by_cases e2 : j / 3 < k
          · rw [if_pos e2, if_pos (by omega)]
          · rw [if_neg e2, if_neg (by omega)]⟩
      have hW9 := Bx.mk (hW0.out.fr hS.out (fun j hj e => hg1u.out (e ▸ hj)) hg1z.out)
      have hz9 := Bx.mk (hS.out.row hz0.out (by show ¬ w.heap.size + 1 = g1; omega))
      have hv9 := Bx.mk (hS.out.row hv0.out hvb.out)
      have hfr9 : Bx (Fr (UD V B mb fb d) w (sets w0 g1 (k * 3) (vA scr).toList)) := ⟨sets_fr (S := UD V B mb fb d) (a := w) (b := g1) (.inr (by omega)) (vA scr).toList w0 (k * 3) hfr0.out⟩
      clear hL hW hz hv hfr hL0 hW0 hz0 hv0 hfr0 hS vv0 vv1 vv2 q0 q1 q2 qq0 qq1 qq2 hf
      go_wp2_with fail
      go_roundw
      case rel => exact ⟨k + 1, by omega, rfl, hL9, hW9, hz9, hv9, hfr9⟩
      case measure => simp [intOf]; omega
    · have hkd : decide ((k : Int) < n) = false := by simp; omega
      have hLs : Bx (EL wr g1 n (fun _ => scr)) := ⟨Row.congr hL.out (by intro j hj; simp only []; rw [if_pos (by omega)])⟩
      clear hL
      obtain ⟨old, N, hrow, hN8, hold⟩ := hW.out.dk.ex
      have cN := hrow.cell N (by omega)
      simp only [dkC, if_pos hN8] at cN
      have c8 : wr.cell? ⟨d, 8, none⟩ = some (I N) := hrow.cell 8 (by omega)
      have fN := hrow.frozen N
      have f8 := hrow.frozen 8
      have hdl := hrow.lt
      have hone : ∃ a b c, oldV (old N) = .slice a b c := by
        rcases old N with _ | ⟨g, m⟩
        · exact ⟨none, 0, 0, rfl⟩
        · exact ⟨_, _, _, rfl⟩
      obtain ⟨oa, ob, oc, hone⟩ := hone
      rw [hone] at cN
      have hmod : Bx (((N : Int) + 1) % 8 = ((N + 1) % 8 : Nat)) := ⟨by simp⟩
      have hm1 : 0 ≤ ((N : Int) + 1) := by omega
      have hWm := Bx.mk (hW.out.more g1 n N old hrow hN8 hold hLs.out hn2 hg1u.out)
      have hdf : Bx (Fr (fun k => k = d) wr ((wr.setCell ⟨d, N, none⟩ (sl g1 n n)).setCell ⟨d, 8, none⟩ (I (((N : Int) + 1) % 8)))) := ⟨((Fr.refl (fun k => k = d) wr).setCell (p := ⟨d, N, none⟩) (.inl rfl) _).setCell (p := ⟨d, 8, none⟩) (.inl rfl) _⟩
      have hzd := Bx.mk (hdf.out.row hz.out (fun e => hne.out (w.heap.size + 1) (by omega) (.inr (.inr e))))
      have hvd := Bx.mk (hdf.out.row hv.out (fun e => hne.out w4.heap.size hsz4 (.inr (.inr e))))
      have hdw := Bx.mk (hdf.out.mono (S' := UD V B mb fb d) (fun k hk => .inr (.inr hk)))
      have hnrd : w.heap.size + 1 ≠ d := fun e => hne.out (w.heap.size + 1) (by omega) (.inr (.inr e))
      have hnvd : w4.heap.size ≠ d := fun e => hne.out w4.heap.size hsz4 (.inr (.inr e))
      clear hold hone hrow
      go_wp2_with fail
      go_region
      go_wp2
      have hSx : Fr (fun j => j = w.heap.size + 1) ((wr.setCell ⟨d, N, none⟩ (sl g1 n n)).setCell ⟨d, 8, none⟩ (I (((N : Int) + 1) % 8))) (sets ((wr.setCell ⟨d, N, none⟩ (sl g1 n n)).setCell ⟨d, 8, none⟩ (I (((N : Int) + 1) % 8))) (w.heap.size + 1) 0 (vA x).toList) := sets_fr (S := fun j => j = w.heap.size + 1) (.inl rfl) _ _ _ (Fr.refl _ _)
      refine ret_vee (p := 12) (q := 13) (r := 14) (g := w.heap.size + 1) (x := x) rfl rfl rfl rfl ((v_sets hzd.out x).drew) rfl ⟨rfl, ⟨fun k => Z k ∨ k = g1, (hWm.out.fr hSx (fun j hj e => by subst e; exact hne.out _ (by omega) hj) ?_).fr0 ((Fr.refl _ _).drew), ?_⟩, ?_⟩
      · rintro j (hj | rfl) e
        · have e : j = w.heap.size + 1 := e
          have := hzl.out j hj; omega
        · have e : j = w.heap.size + 1 := e
          omega
      · rintro j (hj | rfl)
        · exact .inl hj
        · exact .inr (by omega)
      · exact (sets_fr (S := UD V B mb fb d) (a := w) (b := w.heap.size + 1) (.inr (by omega)) (vA x).toList _ 0 (hfr.out.trans hdw.out)).drew
end Go.Proofs.Qxb6500331aGreat
