import Derived.Test.Qxb6500328aGreatL6
namespace Go.Proofs.Qxb6500328aGreat
set_option maxRecDepth 100000
set_option linter.unusedVariables false
set_option linter.unusedSimpArgs false
open Go.RowKit Go.PlainAid
attribute [local go_sem] bv_and bv_or bv_eq_zero bv_ne_zero bv_ne bv_eq bv_andNot
section
variable {D : DA} {sb : Nat} {x : Gr.XS} {T : Nat → ByteArray} {E : Nat → Vl} {reg : ByteArray} {Wt : Nat → ByteArray} {We : Nat → Vl}
theorem str_nil2 : (es.toList == []) = true := by simp [empty_es.2 rfl]
theorem free_back {rows : Bool} {Wt : Nat → ByteArray} (h : FreeL rows Wt) : ∀ i, i < 24 → ((accB (lastB rows) 24).getLsbD i = true → Wt i = es) ∧ (readsP (Wt i)).1 &&& accB (lastB rows) 24 = 0#32 := fun i hi => by
  have key : ∀ d, (accB (lastB rows) 24).getLsbD d = true → d < 24 ∧ lineOf rows (d : Int) = nAx rows - 1 := fun d hd => by
    rw [mem_accB _ 24 (by omega)] at hd; simpa [lastB] using hd
  refine ⟨fun hb => h.emp i hi (key i hb).2, ?_⟩
  apply BitVec.eq_of_getLsbD_eq
  intro d hd
  rw [BitVec.getLsbD_and]
  cases hb : (accB (lastB rows) 24).getLsbD d
  · simp
  · have := h.rd i hi d (key d hb).1 (key d hb).2
    unfold RT at this
    rw [this]; simp
theorem str_nil {s : ByteArray} (h : (s.toList == []) = true) : s = es := empty_es.1 (by have h2 : s.toList = [] := (by simpa using h); rw [h2]; rfl)
set_option maxHeartbeats 2000000 in
theorem free_any (rows : Bool) (w : World) (h : WS w D sb x T E reg Wt We) : Calls Tryz.prog 70 #[pt D.d, U (accB (lastB rows) 24)] w fun e w' => ∃ b : Bool, e = .returned (.bool b) ∧ (b = true ↔ FreeL rows Wt) ∧ Fr S0 w w' := by
  have hW : Bx (∀ w', Fr S0 w w' → WS w' D sb x T E reg Wt We) := ⟨fun w' f => h.fr0 f⟩
  have hBit : Bx (∀ (k : Nat) wx, k < 24 → Calls Tryz.prog 80 #[I k] wx fun e w' => e = .returned (U (bit k)) ∧ wx = w') := ⟨fun k wx hk => bit_any k wx hk⟩
  have hfin : Bx ((∀ i, i < 24 → ((accB (lastB rows) 24).getLsbD i = true → Wt i = es) ∧ (readsP (Wt i)).1 &&& accB (lastB rows) 24 = 0#32) → FreeL rows Wt) := ⟨free_law⟩
  have hcnv : Bx (FreeL rows Wt → ∀ i, i < 24 → ((accB (lastB rows) 24).getLsbD i = true → Wt i = es) ∧ (readsP (Wt i)).1 &&& accB (lastB rows) 24 = 0#32) := ⟨free_back⟩
  clear h
  generalize accB (lastB rows) 24 = S at *
  go_enter Tryz.func70, Tryz.ntmps70
  go_wp2_with fail
  go_loopw [5] (fun c wr => ∃ k : Nat, k ≤ 24 ∧ c = I (k : Int) ∧ Bx (∀ i, i < k → (S.getLsbD i = true → Wt i = es) ∧ (readsP (Wt i)).1 &&& S = 0#32) ∧ Bx (Fr S0 w wr)) (fun c _ => 24 - (intOf c).toNat)
  case atStart => exact ⟨0, by omega, rfl, ⟨fun i hi => absurd hi (by omega)⟩, ⟨Fr.refl _ _⟩⟩
  case round =>
    obtain ⟨k, hk, rfl, hI, hf⟩ := hrel
    cases hlt : decide ((k : Int) < 24)
    · have hk24 : Bx (k = 24) := ⟨by simp at hlt; omega⟩
      go_wp2_with fail
      go_ret
      exact ⟨true, rfl, ⟨fun _ => hfin.out (by rw [← hk24.out]; exact hI.out), fun _ => rfl⟩, hf.out⟩
    · have hk24 : k < 24 := by simp at hlt; omega
      have hkI : (k : Int) < 24 := by omega
      have hWr := hW.out wr hf.out
      obtain ⟨c0, c1, c2, c3, c4, c5, c6, hl⟩ := hWr.de7
      have m0 := hWr.ws.cell k hk24
      have hlw := hWr.ws.lt
      have a2 := Bx.mk (readsL_any (Wt k) wr)
      have hab := and_bit S (p := k) (by omega)
      have hBk := Bx.mk (fun wx => hBit.out k wx hk24)
      have hst : Bx ((S.getLsbD k = true → Wt k = es) → (readsP (Wt k)).1 &&& S = 0#32 → ∀ i, i < k + 1 → (S.getLsbD i = true → Wt i = es) ∧ (readsP (Wt i)).1 &&& S = 0#32) := ⟨fun h1 h2 i hi => by
        by_cases e : i = k
        · subst e; exact ⟨h1, h2⟩
        · exact hI.out i (by omega)⟩
      have hck : Bx (FreeL rows Wt → (S.getLsbD k = true → Wt k = es) ∧ (readsP (Wt k)).1 &&& S = 0#32) := ⟨fun hF => hcnv.out hF k hk24⟩
      clear hWr hI
      generalize (readsP (Wt k)).1 = r at *
      generalize Wt k = s at *
      cases hr : (r &&& S != 0#32)
      · have hr0 : Bx (r &&& S = 0#32) := ⟨by simpa using hr⟩
        cases hb : S.getLsbD k
        · rw [hb] at hab
          have hgo := Bx.mk (hst.out (fun h => by rw [hb] at h; cases h) hr0.out)
          go_wp2_with (first
            | (go_at_call 80; refine (hBk.out _).mono ?_; clear hBk; rintro e _ ⟨rfl, rfl⟩)
            | (go_at_call 72; refine a2.out.mono ?_; clear a2; rintro e w2 ⟨rfl, hf2⟩; have hf2 := Bx.mk (hf.out.trans hf2)))
          go_roundw
          case rel => exact ⟨k + 1, by omega, by go_num, hgo, hf2⟩
          case measure => simp [intOf]; omega
        · rw [hb] at hab
          cases he : (s.toList == [])
          · have hno : Bx (¬ FreeL rows Wt) := ⟨fun hF => by
              have := (hck.out hF).1 hb
              rw [this, str_nil2] at he; cases he⟩
            go_wp2_with (first
              | (go_at_call 80; refine (hBk.out _).mono ?_; clear hBk; rintro e _ ⟨rfl, rfl⟩))
            go_ret
            exact ⟨false, rfl, ⟨fun h => by (cases h), fun h => absurd h hno.out⟩, hf.out⟩
          · have hgo := Bx.mk (hst.out (fun _ => str_nil he) hr0.out)
            go_wp2_with (first
              | (go_at_call 80; refine (hBk.out _).mono ?_; clear hBk; rintro e _ ⟨rfl, rfl⟩)
              | (go_at_call 72; refine a2.out.mono ?_; clear a2; rintro e w2 ⟨rfl, hf2⟩; have hf2 := Bx.mk (hf.out.trans hf2)))
            go_roundw
            case rel => exact ⟨k + 1, by omega, by go_num, hgo, hf2⟩
            case measure => simp [intOf]; omega
      · have hno2 : Bx (¬ FreeL rows Wt) := ⟨fun hF => by
          have := (hck.out hF).2
          rw [this] at hr; simp at hr⟩
        cases hb : S.getLsbD k
        · rw [hb] at hab
          go_wp2_with (first
            | (go_at_call 80; refine (hBk.out _).mono ?_; clear hBk; rintro e _ ⟨rfl, rfl⟩)
            | (go_at_call 72; refine a2.out.mono ?_; clear a2; rintro e w2 ⟨rfl, hf2⟩; have hf2 := Bx.mk (hf.out.trans hf2)))
          go_ret
          exact ⟨false, rfl, ⟨fun h => by (cases h), fun h => absurd h hno2.out⟩, hf2.out⟩
        · rw [hb] at hab
          cases he : (s.toList == [])
          · have hno : Bx (¬ FreeL rows Wt) := ⟨fun hF => by
              have := (hck.out hF).1 hb
              rw [this, str_nil2] at he; cases he⟩
            go_wp2_with (first
              | (go_at_call 80; refine (hBk.out _).mono ?_; clear hBk; rintro e _ ⟨rfl, rfl⟩))
            go_ret
            exact ⟨false, rfl, ⟨fun h => by (cases h), fun h => absurd h hno.out⟩, hf.out⟩
          · go_wp2_with (first
              | (go_at_call 80; refine (hBk.out _).mono ?_; clear hBk; rintro e _ ⟨rfl, rfl⟩)
              | (go_at_call 72; refine a2.out.mono ?_; clear a2; rintro e w2 ⟨rfl, hf2⟩; have hf2 := Bx.mk (hf.out.trans hf2)))
            go_ret
            exact ⟨false, rfl, ⟨fun h => by (cases h), fun h => absurd h hno2.out⟩, hf2.out⟩
set_option maxHeartbeats 8000000 in
theorem meaning_del (rows : Bool) (at_ : Int) (w : World) : Calls Tryz.prog 40 #[pt D.d, I (kd rows false), I at_] w fun e w' => e = .returned (.bool true) ∧ Fr S0 w w' := by
  cases rows <;> simp only [kd, if_true, if_false, Bool.false_eq_true]
  all_goals go_enter Tryz.func40, Tryz.ntmps40
  all_goals go_wp2_with fail
  all_goals go_ret
  all_goals exact ⟨rfl, Fr.refl _ _⟩
set_option maxHeartbeats 2000000 in
theorem meaning_ins (rows : Bool) (at_ : Int) (w : World) (h : WS w D sb x T E reg Wt We) (h0 : 0 ≤ at_) (h1 : at_ < nAx rows) (hS : Sheet Wt We) (hS' : Sheet (edT rows true at_ Wt) E) : Calls Tryz.prog 40 #[pt D.d, I (kd rows true), I at_] w fun e w' => e = .returned (.bool true) ∧ Fr S0 w w' := by
  have hW : Bx (∀ w', Fr S0 w w' → WS w' D sb x T E reg Wt We) := ⟨fun w' f => h.fr0 f⟩
  have hFrom : Bx (∀ (k : Nat) wx, k < 24 → Calls Tryz.prog 61 #[I k, I (kd rows true), I at_] wx fun e w' => e = .returned (I (fromP rows true at_ k)) ∧ wx = w') := ⟨fun k wx hk => from_any rows true at_ k wx hk h0 h1⟩
  have hLast := Bx.mk (last_any rows w)
  have hFree0 := free_any rows w h
  have hbd : Bx (∀ k : Nat, k < 24 → 0 ≤ fromP rows true at_ k → (fromP rows true at_ k).toNat < 24) := ⟨fun k hk h => ((from_lines (ins := true) h0 h1 hk).2 h).1⟩
  have hmean : Bx (FreeL rows Wt → ∀ c : Nat, c < 24 → E c = if fromP rows true at_ c < 0 then v0 else We (fromP rows true at_ c).toNat) := ⟨fun hF c hc => by
    rw [meaning h0 h1 hS hS' hF c hc]
    unfold envI
    have := from_new h0 h1 hc
    by_cases e : lineOf rows (c : Int) = at_
    · rw [if_pos e, if_pos (this.2 e)]
    · rw [if_neg e, if_neg (fun h => e (this.1 h))]⟩
  clear h h0 h1 hS hS'
  have hn1 : (kd rows true != 1) = !rows := by cases rows <;> rfl
  have hn3 : (kd rows true != 3) = rows := by cases rows <;> rfl
  generalize accB (lastB rows) 24 = S at *
  generalize kd rows true = K at *
  by_cases hF : FreeL rows Wt
  · have hFree : Bx (Calls Tryz.prog 70 #[pt D.d, U S] w fun e w' => e = .returned (.bool true) ∧ Fr S0 w w') := ⟨hFree0.mono (fun e w' h => by obtain ⟨b, he, hb, hf⟩ := h; rw [hb.2 hF] at he; exact ⟨he, hf⟩)⟩
    have hmean2 := Bx.mk (hmean.out hF)
    clear hFree0 hmean hF
    cases hb0 : rows <;> simp only [hb0, Bool.not_false, Bool.not_true] at hn1 hn3
    · go_enter Tryz.func40, Tryz.ntmps40
      go_wp2_with (first
        | (go_at_call 69; refine hLast.out.mono ?_; clear hLast; rintro e _ ⟨rfl, rfl⟩)
        | (go_at_call 70; refine hFree.out.mono ?_; clear hFree; rintro e w1 ⟨rfl, hf1⟩; have hf1 := Bx.mk hf1))
      go_loopw [8] (fun c wr => ∃ k : Nat, k ≤ 24 ∧ c = I (k : Int) ∧ Bx (Fr S0 w wr)) (fun c _ => 24 - (intOf c).toNat)
      case atStart => exact ⟨0, by omega, rfl, hf1⟩
      case round =>
        obtain ⟨k, hk, rfl, hf⟩ := hrel
        cases hlt : decide ((k : Int) < 24)
        · go_wp2_with fail
          go_ret
          exact ⟨rfl, hf.out⟩
        · have hk24 : k < 24 := by simp at hlt; omega
          have hkI : (k : Int) < 24 := by omega
          have hFk := Bx.mk (fun wx => hFrom.out k wx hk24)
          have hEk := hmean2.out k hk24
          have hbk := Bx.mk (hbd.out k hk24)
          have hWr := hW.out wr hf.out
          obtain ⟨c0, c1, c2, c3, c4, c5, c6, hl⟩ := hWr.de7
          have hv : Bx (∀ wx, Fr S0 wr wx → Calls Tryz.prog 28 #[pt D.M.me, I (k : Int)] wx (VR wx (E k))) := ⟨fun wx f => by
            have := yValue_any (k : Int) wx (hWr.fr0 f).ey
            unfold valP at this
            rw [if_pos ⟨by omega, hkI⟩] at this
            exact this⟩
          have hsh : Bx (∀ p : Nat, p < 24 → _) := ⟨fun p (hp : p < 24) => hWr.sh.ev3 hp⟩
          have hlsh := Row.lt hWr.sh
          clear hWr
          rw [hEk] at hv
          clear hEk
          generalize fromP rows true at_ k = q at *
          cases hq : decide (0 ≤ q)
          · have hq0 : q < 0 := by simpa using hq
            rw [if_pos hq0] at hv
            have hrun : ∀ u : World, (binOp .neq 71 (vV v0) (.agg #[I 0, I 0, .string es])).run Tryz.prog u = .ok (.bool false) u := fun u => (neq_v v0 v0 u).trans (by rw [vEq_self]; rfl)
            have hgd : ∀ u : World, (eqGuard .neq 71 (.tmp 46) (.tmp 47) (vV v0) (.agg #[I 0, I 0, .string es])).run Tryz.prog u = .ok () u := fun u => guard_v _ _ v0 v0 u
            have hz := Bx.mk (v_zero wr 71 rfl)
            have hfz := Bx.mk (fr_zero wr 71)
            have hv2 := Bx.mk (hv.out _ hfz.out.drew)
            generalize hv0 : v0 = z0 at hrun hgd hv2
            go_wp2_with (first | (go_at_call 61; refine (hFk.out _).mono ?_; rintro e _ ⟨rfl, rfl⟩))
            refine region_cut (fun w' => Bx (Fr S0 wr w')) ?_
            apply Exists.intro
            apply And.intro
            · go_region_with (first | (go_at_call 28; refine hv2.out.mono ?_; rintro e w0 ⟨rfl, hf0⟩; have hf0 : Fr S0 (wr.alloc (.cells #[I 0, I 0, .string es] 71)) w0 := ⟨hf0.os, hf0.tape, hf0.output, hf0.size, hf0.block⟩; have hz1 := Bx.mk (hf0.row0 hz.out); obtain ⟨q0, q1, q2, -, -, -⟩ := hz1.out.v3; simp only [v0] at q0 q1 q2; have hlq := hz1.out.lt; have hf0 := Bx.mk (hfz.out.trans hf0)))
              all_goals exact ⟨rfl, hf0⟩
            rintro w0 hf0
            have hf0 := Bx.mk (hf.out.trans hf0.out)
            go_wp2_with fail
            go_roundw
            case rel => exact ⟨k + 1, by omega, by go_num, hf0⟩
            case measure => simp [intOf]; omega
          · obtain ⟨p, hp⟩ : ∃ p : Nat, q = (p : Int) := ⟨q.toNat, by have : 0 ≤ q := (by simpa using hq); omega⟩
            subst hp
            have hp24 : p < 24 := hbk.out (by omega)
            have hpI : (p : Int) < 24 := by omega
            rw [if_neg (by omega)] at hv
            have hpN : ((p : Int)).toNat = p := rfl
            rw [hpN] at hv
            obtain ⟨m0, m1, m2, -, -, -⟩ := hsh.out p hp24
            generalize We p = y at *
            have hrun : ∀ u : World, (binOp .neq 71 (vV y) (vV y)).run Tryz.prog u = .ok (.bool false) u := fun u => (neq_v y y u).trans (by rw [vEq_self]; rfl)
            have hgd : ∀ u : World, (eqGuard .neq 71 (.tmp 46) (.tmp 47) (vV y) (vV y)).run Tryz.prog u = .ok () u := fun u => guard_v _ _ y y u
            have hz := Bx.mk (v_new wr y 71 rfl)
            have hfz : Bx (Fr S0 wr (wr.alloc (.cells (vA y) 71))) := ⟨(Fr.refl _ _).alloc _⟩
            have hv2 := Bx.mk (hv.out _ hfz.out.drew)
            go_wp2_with (first | (go_at_call 61; refine (hFk.out _).mono ?_; rintro e _ ⟨rfl, rfl⟩))
            refine region_cut (fun w' => Bx (Fr S0 wr w')) ?_
            apply Exists.intro
            apply And.intro
            · go_region_with (first | (go_at_call 28; refine hv2.out.mono ?_; rintro e w0 ⟨rfl, hf0⟩; have hf0 : Fr S0 (wr.alloc (.cells (vA y) 71)) w0 := ⟨hf0.os, hf0.tape, hf0.output, hf0.size, hf0.block⟩; have hz1 := Bx.mk (hf0.row0 hz.out); obtain ⟨q0, q1, q2, -, -, -⟩ := hz1.out.v3; have hlq := hz1.out.lt; have hf0 := Bx.mk (hfz.out.trans hf0)))
              all_goals exact ⟨rfl, hf0⟩
            rintro w0 hf0
            have hf0 := Bx.mk (hf.out.trans hf0.out)
            go_wp2_with fail
            go_roundw
            case rel => exact ⟨k + 1, by omega, by go_num, hf0⟩
            case measure => simp [intOf]; omega
    · go_enter Tryz.func40, Tryz.ntmps40
      go_wp2_with (first
        | (go_at_call 69; refine hLast.out.mono ?_; clear hLast; rintro e _ ⟨rfl, rfl⟩)
        | (go_at_call 70; refine hFree.out.mono ?_; clear hFree; rintro e w1 ⟨rfl, hf1⟩; have hf1 := Bx.mk hf1))
      go_loopw [8] (fun c wr => ∃ k : Nat, k ≤ 24 ∧ c = I (k : Int) ∧ Bx (Fr S0 w wr)) (fun c _ => 24 - (intOf c).toNat)
      case atStart => exact ⟨0, by omega, rfl, hf1⟩
      case round =>
        obtain ⟨k, hk, rfl, hf⟩ := hrel
        cases hlt : decide ((k : Int) < 24)
        · go_wp2_with fail
          go_ret
          exact ⟨rfl, hf.out⟩
        · have hk24 : k < 24 := by simp at hlt; omega
          have hkI : (k : Int) < 24 := by omega
          have hFk := Bx.mk (fun wx => hFrom.out k wx hk24)
          have hEk := hmean2.out k hk24
          have hbk := Bx.mk (hbd.out k hk24)
          have hWr := hW.out wr hf.out
          obtain ⟨c0, c1, c2, c3, c4, c5, c6, hl⟩ := hWr.de7
          have hv : Bx (∀ wx, Fr S0 wr wx → Calls Tryz.prog 28 #[pt D.M.me, I (k : Int)] wx (VR wx (E k))) := ⟨fun wx f => by
            have := yValue_any (k : Int) wx (hWr.fr0 f).ey
            unfold valP at this
            rw [if_pos ⟨by omega, hkI⟩] at this
            exact this⟩
          have hsh : Bx (∀ p : Nat, p < 24 → _) := ⟨fun p (hp : p < 24) => hWr.sh.ev3 hp⟩
          have hlsh := Row.lt hWr.sh
          clear hWr
          rw [hEk] at hv
          clear hEk
          generalize fromP rows true at_ k = q at *
          cases hq : decide (0 ≤ q)
          · have hq0 : q < 0 := by simpa using hq
            rw [if_pos hq0] at hv
            have hrun : ∀ u : World, (binOp .neq 71 (vV v0) (.agg #[I 0, I 0, .string es])).run Tryz.prog u = .ok (.bool false) u := fun u => (neq_v v0 v0 u).trans (by rw [vEq_self]; rfl)
            have hgd : ∀ u : World, (eqGuard .neq 71 (.tmp 46) (.tmp 47) (vV v0) (.agg #[I 0, I 0, .string es])).run Tryz.prog u = .ok () u := fun u => guard_v _ _ v0 v0 u
            have hz := Bx.mk (v_zero wr 71 rfl)
            have hfz := Bx.mk (fr_zero wr 71)
            have hv2 := Bx.mk (hv.out _ hfz.out.drew)
            generalize hv0 : v0 = z0 at hrun hgd hv2
            go_wp2_with (first | (go_at_call 61; refine (hFk.out _).mono ?_; rintro e _ ⟨rfl, rfl⟩))
            refine region_cut (fun w' => Bx (Fr S0 wr w')) ?_
            apply Exists.intro
            apply And.intro
            · go_region_with (first | (go_at_call 28; refine hv2.out.mono ?_; rintro e w0 ⟨rfl, hf0⟩; have hf0 : Fr S0 (wr.alloc (.cells #[I 0, I 0, .string es] 71)) w0 := ⟨hf0.os, hf0.tape, hf0.output, hf0.size, hf0.block⟩; have hz1 := Bx.mk (hf0.row0 hz.out); obtain ⟨q0, q1, q2, -, -, -⟩ := hz1.out.v3; simp only [v0] at q0 q1 q2; have hlq := hz1.out.lt; have hf0 := Bx.mk (hfz.out.trans hf0)))
              all_goals exact ⟨rfl, hf0⟩
            rintro w0 hf0
            have hf0 := Bx.mk (hf.out.trans hf0.out)
            go_wp2_with fail
            go_roundw
            case rel => exact ⟨k + 1, by omega, by go_num, hf0⟩
            case measure => simp [intOf]; omega
          · obtain ⟨p, hp⟩ : ∃ p : Nat, q = (p : Int) := ⟨q.toNat, by have : 0 ≤ q := (by simpa using hq); omega⟩
            subst hp
            have hp24 : p < 24 := hbk.out (by omega)
            have hpI : (p : Int) < 24 := by omega
            rw [if_neg (by omega)] at hv
            have hpN : ((p : Int)).toNat = p := rfl
            rw [hpN] at hv
            obtain ⟨m0, m1, m2, -, -, -⟩ := hsh.out p hp24
            generalize We p = y at *
            have hrun : ∀ u : World, (binOp .neq 71 (vV y) (vV y)).run Tryz.prog u = .ok (.bool false) u := fun u => (neq_v y y u).trans (by rw [vEq_self]; rfl)
            have hgd : ∀ u : World, (eqGuard .neq 71 (.tmp 46) (.tmp 47) (vV y) (vV y)).run Tryz.prog u = .ok () u := fun u => guard_v _ _ y y u
            have hz := Bx.mk (v_new wr y 71 rfl)
            have hfz : Bx (Fr S0 wr (wr.alloc (.cells (vA y) 71))) := ⟨(Fr.refl _ _).alloc _⟩
            have hv2 := Bx.mk (hv.out _ hfz.out.drew)
            go_wp2_with (first | (go_at_call 61; refine (hFk.out _).mono ?_; rintro e _ ⟨rfl, rfl⟩))
            refine region_cut (fun w' => Bx (Fr S0 wr w')) ?_
            apply Exists.intro
            apply And.intro
            · go_region_with (first | (go_at_call 28; refine hv2.out.mono ?_; rintro e w0 ⟨rfl, hf0⟩; have hf0 : Fr S0 (wr.alloc (.cells (vA y) 71)) w0 := ⟨hf0.os, hf0.tape, hf0.output, hf0.size, hf0.block⟩; have hz1 := Bx.mk (hf0.row0 hz.out); obtain ⟨q0, q1, q2, -, -, -⟩ := hz1.out.v3; have hlq := hz1.out.lt; have hf0 := Bx.mk (hfz.out.trans hf0)))
              all_goals exact ⟨rfl, hf0⟩
            rintro w0 hf0
            have hf0 := Bx.mk (hf.out.trans hf0.out)
            go_wp2_with fail
            go_roundw
            case rel => exact ⟨k + 1, by omega, by go_num, hf0⟩
            case measure => simp [intOf]; omega
  · have hFree : Bx (Calls Tryz.prog 70 #[pt D.d, U S] w fun e w' => e = .returned (.bool false) ∧ Fr S0 w w') := ⟨hFree0.mono (fun e w' h => by
      obtain ⟨b, he, hb, hf⟩ := h
      cases b
      · exact ⟨he, hf⟩
      · exact absurd (hb.1 rfl) hF)⟩
    clear hFree0 hmean hF
    cases hb0 : rows <;> simp only [hb0, Bool.not_false, Bool.not_true] at hn1 hn3
    all_goals go_enter Tryz.func40, Tryz.ntmps40
    all_goals go_wp2_with (first
      | (go_at_call 69; refine hLast.out.mono ?_; clear hLast; rintro e _ ⟨rfl, rfl⟩)
      | (go_at_call 70; refine hFree.out.mono ?_; clear hFree; rintro e w1 ⟨rfl, hf1⟩; have hf1 := Bx.mk hf1))
    all_goals go_ret
    all_goals exact ⟨rfl, hf1.out⟩
end
end Go.Proofs.Qxb6500328aGreat
