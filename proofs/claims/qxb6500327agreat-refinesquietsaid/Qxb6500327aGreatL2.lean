import Derived.Test.Qxb6500327aGreatL1
namespace Go.Proofs.Qxb6500327aGreat
set_option maxRecDepth 100000
set_option linter.unusedVariables false
set_option linter.unusedSimpArgs false
open Go.RowKit Go.PlainAid
attribute [local go_sem] bv_and bv_or bv_eq_zero bv_ne_zero bv_bit bv_ne

section
variable {A : AD} {msb : Nat} {x : Gr.XS} {T : Nat → ByteArray} {E : Nat → Vl} {D : DS}
set_option maxHeartbeats 1000000 in
theorem work_any (kd a b c : Int) (S1 T1 : ByteArray) (w : World) (h : Row w A.d 9 (dkC A D)) (hc : D.c < 0) : Calls Tryz.prog 23 #[blV A, pt A.cb, pt A.d, opV kd a b c S1 T1] w fun e w' => e = .returned (.bool true) ∧ Fr S0 w w' := by
  obtain ⟨-, -, -, -, -, c5, -, -, -⟩ := ((h.alloc (.cells (blA A) 31)).alloc (.cells (opA kd a b c S1 T1) 45)).dk9
  have hl := ((h.alloc (.cells (blA A) 31)).alloc (.cells (opA kd a b c S1 T1) 45)).lt
  have hd : decide (D.c < 0) = true := by simp; omega
  clear h
  go_enter Tryz.func23, Tryz.ntmps23
  go_wp2
  go_ret
  exact ⟨rfl, ((Fr.refl _ _).alloc _).alloc _⟩
set_option maxHeartbeats 4000000 in
theorem handed_any (w : World) (h : WS w A msb x T E D) : Calls Tryz.prog 24 #[blV A, pt A.cb] w fun e w' => e = .returned (.bool true) ∧ WS w' A msb x T E D ∧ Fr (SL A) w w' := by
  have f0 : Fr S0 w (w.alloc (.cells (blA A) 31)) := (Fr.refl _ _).alloc _
  have hW := Bx.mk (h.fr0 f0)
  have hb := Bx.mk (bl_new w A rfl)
  have f0 := Bx.mk (f0.up (S := SL A))
  have hnl : Bx (¬ SL A w.heap.size) := ⟨fun e => h.ne (Nat.le_refl _) (.inr (.inr (.inl e)))⟩
  clear h
  go_enter Tryz.func24, Tryz.ntmps24
  go_wp2_with fail
  go_loopw [5] (fun c wr => ∃ k : Nat, k ≤ 24 ∧ c = I (k : Int) ∧ Bx (WS wr A msb x T E D) ∧ Bx (Row wr w.heap.size 3 (blC A)) ∧ Bx (Fr (SL A) w wr)) (fun c _ => 24 - (intOf c).toNat)
  case atStart => exact ⟨0, by omega, rfl, hW, hb, f0⟩
  case round =>
    clear hW hb f0
    obtain ⟨k, hk, rfl, hW, hb, hf⟩ := hrel
    cases hlt : decide ((k : Int) < 24)
    · go_wp2_with fail
      go_ret
      exact ⟨rfl, hW.out, hf.out⟩
    · have hk24 : k < 24 := by simp at hlt; omega
      have hkI : (k : Int) < 24 := by omega
      obtain ⟨b0, b1, b2⟩ := hb.out.bl3
      have hbl := hb.out.lt
      have hv : Bx (Calls Tryz.prog 29 #[pt A.cb, I (k : Int)] wr fun e w' => e = .returned (.string (T k)) ∧ wr = w') := ⟨by
        have := cRaw_any (k : Int) wr hW.out.cm
        unfold rawP at this
        rw [if_pos ⟨by omega, hkI⟩] at this
        exact this⟩
      have hR := Bx.mk (readsOf_any A (T k) wr hW.out.me)
      have hX : Bx (∀ w', WS w' A msb x T E D → Calls Tryz.prog 40 #[pt A.gb, .int .i64 (k : Int)] w' fun e w'' => e = .returned (U (readsP (T k)).1) ∧ w' = w'') := ⟨fun w' h => by
        have := Gr.xReads_in A.gb x k w' h.km.xg hk24
        rw [h.km.xi.reads] at this
        exact this⟩
      generalize (readsP (T k)).1 = r at hR hX
      generalize T k = s at hv hR
      go_wp2_with (first
        | (go_at_call 29; refine hv.out.mono ?_; clear hv; rintro e w1 ⟨rfl, rfl⟩)
        | (go_at_call 39; refine hR.out.mono ?_; clear hR; rintro e w2 ⟨rfl, hm2, hf2⟩; have hW2 := Bx.mk (hW.out.stepL hm2 hf2); have hb2 := Bx.mk (hf2.row hb.out hnl.out); have hf2 := Bx.mk (hf.out.trans hf2); clear b0 b1 b2 hbl hm2; obtain ⟨b0, b1, b2⟩ := hb2.out.bl3; have hbl := hb2.out.lt)
        | (go_at_call 40; refine (hX.out _ hW2.out).mono ?_; clear hX; rintro e w3 ⟨rfl, rfl⟩))
      go_roundw
      case rel => exact ⟨k + 1, by omega, by go_num, hW2, hb2, hf2⟩
      case measure => simp [intOf]; omega
set_option maxHeartbeats 8000000 in
theorem fixpoint_any (w : World) (h : WS w A msb x T E D) (hS : Sheet T E) (hno : D.no = E) : Calls Tryz.prog 25 #[blV A, pt A.cb, pt A.d] w fun e w' => e = .returned (.bool true) ∧ WS w' A msb x T E D ∧ Fr (SL A) w w' := by
  have f0 : Fr S0 w (w.alloc (.cells (blA A) 31)) := (Fr.refl _ _).alloc _
  have hW := Bx.mk (h.fr0 f0)
  have hb := Bx.mk (bl_new w A rfl)
  have f0 := Bx.mk f0
  have hnl : Bx (∀ k, w.heap.size ≤ k → ¬ SL A k) := ⟨fun k hk e => h.ne hk (.inr (.inr (.inl e)))⟩
  have hnb : Bx (¬ SL A A.nb) := ⟨fun e => h.ap.l1 _ e (.inr (.inr (.inr rfl)))⟩
  have hX : Bx (∀ w', WS w' A msb x T E D → Calls Tryz.prog 41 #[pt A.gb] w' fun e w'' => e = .returned (U (Gr.cyc (RT T))) ∧ w' = w'') := ⟨fun w' h => by
    have := Gr.xCyclic_any A.gb x w' h.km.xg
    rw [h.km.xi.cyc] at this
    exact this⟩
  have hcy : Bx (∀ k, k < 24 → (Gr.cyc (RT T)).getLsbD k = true → E k = vErr 6) := ⟨fun k hk e => hS.fix.cy k hk (by rw [Gr.mem_cyc] at e; simp [hk] at e; exact e)⟩
  have hwo : Bx (∀ k, k < 24 → (Gr.cyc (RT T)).getLsbD k = false → E k = mf (T k) E) := ⟨fun k hk e => hS.fix.wo k hk (by rw [Gr.mem_cyc] at e; simp [hk] at e; exact e)⟩
  have hS := Bx.mk hS
  have hno := Bx.mk hno
  obtain ⟨b0, b1, b2⟩ := hb.out.bl3
  generalize Gr.cyc (RT T) = cyc at hX hcy hwo
  clear h
  go_enter Tryz.func25, Tryz.ntmps25
  go_wp2_with (first
    | (go_at_call 41; refine (hX.out _ hW.out).mono ?_; clear hX; rintro e w1 ⟨rfl, rfl⟩)
    | (go_at_call 42; refine (err_any 6 _).mono ?_; generalize hy : vErr 6 = y at *; have hy := Bx.mk hy; rintro e w2 ⟨rfl, hf2⟩; have hW := Bx.mk (hW.out.fr0 (hf2.alloc (.cells (vA y) 66))); have hb := Bx.mk (Row.alloc (hf2.row0 hb.out) (.cells (vA y) 66)); have hg := Bx.mk (v_new w2 y 66 rfl); have hff := Bx.mk ((f0.out.trans hf2).alloc (.cells (vA y) 66)); have hws : Bx (w.heap.size ≤ w2.heap.size) := ⟨(f0.out.trans hf2).size⟩; clear hf2))
  clear b0 b1 b2
  go_loopw [9] (fun c wr => ∃ k : Nat, k ≤ 24 ∧ c = I (k : Int) ∧ Bx (WS wr A msb x T E D) ∧ Bx (Row wr w.heap.size 3 (blC A)) ∧ Bx (Row wr w2.heap.size 3 (vC y)) ∧ Bx (Fr (SL A) w wr)) (fun c _ => 24 - (intOf c).toNat)
  case atStart => exact ⟨0, by omega, rfl, hW, hb, hg, ⟨hff.out.up⟩⟩
  case round =>
    clear hW hb hg hff f0
    obtain ⟨k, hk, rfl, hW, hb, hg, hf⟩ := hrel
    cases hlt : decide ((k : Int) < 24)
    · go_wp2_with fail
      go_ret
      exact ⟨rfl, hW.out, hf.out⟩
    · have hk24 : k < 24 := by simp at hlt; omega
      have hkI : (k : Int) < 24 := by omega
      have hE := Bx.mk hW.out.nb
      rw [hno.out] at hE
      cases hbit : cyc.getLsbD k
      · have hv : Bx (Calls Tryz.prog 29 #[pt A.cb, I (k : Int)] wr fun e w' => e = .returned (.string (T k)) ∧ wr = w') := ⟨by
          have := cRaw_any (k : Int) wr hW.out.cm
          unfold rawP at this
          rw [if_pos ⟨by omega, hkI⟩] at this
          exact this⟩
        have hC0 : Bx (∀ w', MEv w' A.mb2 A.fb2 → EL w' A.nb 24 E → Calls Tryz.prog 43 #[blV A, .string (T k), sl A.nb 24 24] w' fun e w'' => e = .returned (vV (mf (T k) E)) ∧ MEv w'' A.mb2 A.fb2 ∧ Fr (SL A) w' w'') := ⟨fun w' h1 h2 => worthOf_any A (T k) A.nb E w' h1 (hS.out.ok k hk24) h2 hnb.out hS.out.lw⟩
        have hxx := Bx.mk (hwo.out k hk24 hbit)
        generalize mf (T k) E = xx at hC0 hxx
        generalize T k = s at hv hC0
        obtain ⟨b0, b1, b2⟩ := hb.out.bl3
        have hbl := hb.out.lt
        obtain ⟨-, -, -, c3, -, -, -, -, -⟩ := hW.out.dk.dk9
        have hdl := hW.out.dk.lt
        have hC1 := Bx.mk (hC0.out wr.drew (hW.out.me.fr0 (Fr.refl S0 wr).drew) hE.out)
        have hC2 : Bx (∀ o, Calls Tryz.prog 43 #[blV A, .string s, sl A.nb 24 24] (wr.alloc o).drew fun e w'' => e = .returned (vV xx) ∧ MEv w'' A.mb2 A.fb2 ∧ Fr (SL A) (wr.alloc o).drew w'') := ⟨fun o => hC0.out _ (hW.out.me.fr (S := S0) ((Fr.refl S0 _).alloc o).drew (by simp) (by simp)) (hE.out.of (S := S0) ((Fr.refl S0 _).alloc o).drew (by simp))⟩
        have hz : Bx (Row (wr.alloc (.cells #[I 0, I 0, .string es] 66)).drew wr.heap.size 3 (vC v0)) := ⟨(v_zero wr 66 rfl).drew⟩
        have hnq : Bx (¬ SL A wr.heap.size) := ⟨hnl.out _ hf.out.size⟩
        have hcells : Bx (∀ w', Fr (SL A) wr w' → w'.cell? ⟨w.heap.size, 0, none⟩ = some (pt A.V.e) ∧ w'.cell? ⟨w.heap.size, 1, none⟩ = some (pt A.gb) ∧ w'.cell? ⟨w.heap.size, 2, none⟩ = some (pt A.mb2) ∧ w'.cell? ⟨A.d, 3, none⟩ = some (sl A.nb 24 24) ∧ w.heap.size < w'.heap.size ∧ A.d < w'.heap.size) := ⟨fun w' f => by
          have q1 := f.row hb.out (hnl.out _ (Nat.le_refl _))
          have q2 := f.row hW.out.dk (fun e => hW.out.ap.l1 _ e (.inl rfl))
          exact ⟨q1.bl3.1, q1.bl3.2.1, q1.bl3.2.2, q2.dk9.2.2.2.1, q1.lt, q2.lt⟩⟩
        have nq1 : ¬ w.heap.size = wr.heap.size := by omega
        have nq2 : ¬ A.d = wr.heap.size := by omega
        clear hC0
        go_upto_region 10 with (first | (go_at_call 29; refine hv.out.mono ?_; clear hv; rintro e w1 ⟨rfl, rfl⟩))
        go_cut [11] from 16 to 53 (fun p wy => ∃ H : Nat, p = pt H ∧ Bx (Row wy H 3 (vC xx)) ∧ Bx (MEv wy A.mb2 A.fb2) ∧ Bx (Fr (SL A) wr wy) ∧ Bx (wr.heap.size ≤ H))
        case first =>
          go_region_held3 (fun w' => w'.cell? ⟨w.heap.size, 0, none⟩ = some (pt A.V.e) ∧ w'.cell? ⟨w.heap.size, 1, none⟩ = some (pt A.gb) ∧ w'.cell? ⟨w.heap.size, 2, none⟩ = some (pt A.mb2) ∧ w'.cell? ⟨A.d, 3, none⟩ = some (sl A.nb 24 24)) (first | go_keep | exact ⟨(cell_sets3 nq1).trans (by assumption), (cell_sets3 nq1).trans (by assumption), (cell_sets3 nq1).trans (by assumption), (cell_sets3 nq2).trans (by assumption)⟩)
            (first
            | (go_at_call 43; refine hC1.out.mono ?_; rintro e w5 ⟨rfl, hm5, hf5⟩; obtain ⟨k0, k1, k2, k3, k4, k5⟩ := hcells.out w5 (((Fr.refl _ wr).drew).trans hf5); have hm5 := Bx.mk hm5; have hf5A := Bx.mk hf5)
            | (go_at_call 43; refine (hC2.out _).mono ?_; rintro e w5 ⟨rfl, hm5, hf5⟩; obtain ⟨k0, k1, k2, k3, k4, k5⟩ := hcells.out w5 ((((Fr.refl _ wr).alloc _).drew).trans hf5); have hT5 := Bx.mk (hf5.row hz.out hnq.out); obtain ⟨x0, x1, x2, y0, y1, y2⟩ := hT5.out.v3; have hm5 := Bx.mk hm5; have hf5B := Bx.mk hf5))
          all_goals (first | go_wp2_with fail | skip)
          all_goals go_meet
          all_goals first
            | (obtain ⟨a1, a2, a3, a4⟩ := cut_B xx hf5B.out hT5.out
               exact ⟨wr.heap.size, rfl, ⟨a1⟩, ⟨hm5.out.fr a4 (fun e => hnq.out (.inl e.symm)) (fun e => hnq.out (.inr e.symm))⟩, ⟨a2⟩, ⟨a3⟩⟩)
            | (obtain ⟨a1, a2, a3, a4⟩ := cut_A xx hf5A.out
               exact ⟨w5.heap.size, rfl, ⟨a1⟩, ⟨hm5.out.fr a4 (by simp) (by simp)⟩, ⟨a2⟩, ⟨a3⟩⟩)
        case rest =>
        obtain ⟨H, rfl, hXr, hM5, hf5, hH⟩ := hcut
        have hW5 := Bx.mk (hW.out.stepL hM5.out hf5.out)
        have hb5 := Bx.mk (hf5.out.row hb.out (hnl.out _ (Nat.le_refl _)))
        have hg5 := Bx.mk (hf5.out.row hg.out (hnl.out _ hws.out))
        have hf5w := Bx.mk (hf.out.trans hf5.out)
        have hE5 := Bx.mk (hE.out.of hf5.out hnb.out)
        clear hC1 hC2 hz b0 b1 b2 c3 hdl hbl hE hW hb hg hf
        obtain ⟨-, -, -, c3, -, -, -, -, -⟩ := hW5.out.dk.dk9
        have hdl := hW5.out.dk.lt
        obtain ⟨x0, x1, x2, -, -, -⟩ := hXr.out.v3
        have hXl := hXr.out.lt
        obtain ⟨m0, m1, m2, -, -, -⟩ := hE5.out.ev3 hk24
        have hEl := Row.lt hE5.out
        rw [hxx.out] at m0 m1 m2
        have hgd : ∀ u : World, (eqGuard .neq 66 (.tmp 51) (.tmp 52) (vV xx) (vV xx)).run Tryz.prog u = .ok () u := fun u => guard_v _ _ _ _ u
        have hrun : ∀ u : World, (binOp .neq 66 (vV xx) (vV xx)).run Tryz.prog u = .ok (.bool false) u := fun u => by rw [neq_v, vEq_self]; rfl
        go_wp2_with fail
        go_quiet (fail)
        go_wp2_with fail
        go_roundw
        case rel => exact ⟨k + 1, by omega, by go_num, ⟨hW5.out.fr0 ⟨rfl, rfl, rfl, Nat.le_refl _, fun _ _ _ => rfl⟩⟩, ⟨hb5.out⟩, ⟨hg5.out⟩, ⟨hf5w.out.trans ⟨rfl, rfl, rfl, Nat.le_refl _, fun _ _ _ => rfl⟩⟩⟩
        case measure => simp [intOf]; omega
      · have hxx := Bx.mk (hcy.out k hk24 hbit)
        obtain ⟨-, -, -, c3, -, -, -, -, -⟩ := hW.out.dk.dk9
        have hdl := hW.out.dk.lt
        obtain ⟨x0, x1, x2, -, -, -⟩ := hg.out.v3
        have hXl := hg.out.lt
        obtain ⟨m0, m1, m2, -, -, -⟩ := hE.out.ev3 hk24
        have hEl := Row.lt hE.out
        rw [hxx.out] at m0 m1 m2
        have hgd : ∀ u : World, (eqGuard .neq 66 (.tmp 32) (.tmp 33) (vV y) (vV y)).run Tryz.prog u = .ok () u := fun u => guard_v _ _ _ _ u
        have hrun : ∀ u : World, (binOp .neq 66 (vV y) (vV y)).run Tryz.prog u = .ok (.bool false) u := fun u => by rw [neq_v, vEq_self]; rfl
        go_wp2_with fail
        go_quiet (fail)
        go_wp2_with fail
        go_roundw
        case rel => exact ⟨k + 1, by omega, by go_num, ⟨hW.out.fr0 ⟨rfl, rfl, rfl, Nat.le_refl _, fun _ _ _ => rfl⟩⟩, ⟨hb.out⟩, ⟨hg.out⟩, ⟨hf.out.trans ⟨rfl, rfl, rfl, Nat.le_refl _, fun _ _ _ => rfl⟩⟩⟩
        case measure => simp [intOf]; omega
/-- The desk's block is written. -/
theorem WS.desk {w w' : World} (h : WS w A msb x T E D) (f : Fr (fun k => k = A.d) w w') {D' : DS} (hd : Row w' A.d 9 (dkC A D')) (h1 : D'.tt = D.tt) (h2 : D'.wa = D.wa) (h3 : D'.no = D.no) : WS w' A msb x T E D' := by
  have ap := h.ap
  exact ⟨h.km.fr f (fun k hk e => ap.r3 k hk (.inl e)), h.cm.fr f (fun k hk e => ap.m2 k hk (.inl e)), h.me.fr f (fun e => ap.l1 _ (.inl rfl) (.inl e)) (fun e => ap.l1 _ (.inr rfl) (.inl e)), hd, by rw [h1]; exact f.row h.tb (fun e => ap.d1.1 e.symm), by rw [h2]; exact h.wb.of f (fun e => ap.d1.2.1 e.symm), by rw [h3]; exact h.nb.of f (fun e => ap.d1.2.2.1 e.symm), ap⟩
theorem WS.noted {w w' : World} (h : WS w A msb x T E D) (f : Fr (fun k => k = A.nb) w w') {v : Nat → Vl} (hd : EL w' A.nb 24 v) : WS w' A msb x T E { D with no := v } := by
  have ap := h.ap
  exact ⟨h.km.fr f (fun k hk e => ap.r3 k hk (.inr (.inr (.inr e)))), h.cm.fr f (fun k hk e => ap.m2 k hk (.inr (.inr (.inr e)))), h.me.fr f (fun e => ap.l1 _ (.inl rfl) (.inr (.inr (.inr e)))) (fun e => ap.l1 _ (.inr rfl) (.inr (.inr (.inr e)))), f.row h.dk ap.d1.2.2.1, f.row h.tb ap.d1.2.2.2.2.1, h.wb.of f ap.d1.2.2.2.2.2, hd, ap⟩
theorem WS.wased {w w' : World} (h : WS w A msb x T E D) (f : Fr (fun k => k = A.wb) w w') {v : Nat → Vl} (hd : EL w' A.wb 24 v) : WS w' A msb x T E { D with wa := v } := by
  have ap := h.ap
  exact ⟨h.km.fr f (fun k hk e => ap.r3 k hk (.inr (.inr (.inl e)))), h.cm.fr f (fun k hk e => ap.m2 k hk (.inr (.inr (.inl e)))), h.me.fr f (fun e => ap.l1 _ (.inl rfl) (.inr (.inr (.inl e)))) (fun e => ap.l1 _ (.inr rfl) (.inr (.inr (.inl e)))), f.row h.dk ap.d1.2.1, f.row h.tb ap.d1.2.2.2.1, hd, h.nb.of f (fun e => ap.d1.2.2.2.2.2 e.symm), ap⟩
theorem WS.texted {w w' : World} (h : WS w A msb x T E D) (f : Fr (fun k => k = A.tb) w w') {v : Nat → ByteArray} (hd : Row w' A.tb 24 (fun i => .string (v i))) : WS w' A msb x T E { D with tt := v } := by
  have ap := h.ap
  exact ⟨h.km.fr f (fun k hk e => ap.r3 k hk (.inr (.inl e))), h.cm.fr f (fun k hk e => ap.m2 k hk (.inr (.inl e))), h.me.fr f (fun e => ap.l1 _ (.inl rfl) (.inr (.inl e))) (fun e => ap.l1 _ (.inr rfl) (.inr (.inl e))), f.row h.dk ap.d1.1, hd, h.wb.of f (fun e => ap.d1.2.2.2.1 e.symm), h.nb.of f (fun e => ap.d1.2.2.2.2.1 e.symm), ap⟩
set_option maxHeartbeats 4000000 in
theorem behind_any (kd a b c : Int) (S1 T1 : ByteArray) (w : World) (h : WS w A msb x T E D) (hS : Sheet T E) : Calls Tryz.prog 11 #[blV A, pt A.cb, pt A.d, opV kd a b c S1 T1] w fun e w' => e = .returned (.bool true) ∧ (∃ D', WS w' A msb x T E D' ∧ D'.reg = D.reg) ∧ Fr (SU A msb) w w' := by
  have f0 : Fr S0 w ((w.alloc (.cells (blA A) 31)).alloc (.cells (opA kd a b c S1 T1) 45)) := ((Fr.refl _ _).alloc _).alloc _
  have hW := Bx.mk (h.fr0 f0)
  have hb := Bx.mk ((bl_new w A rfl).alloc (.cells (opA kd a b c S1 T1) 45))
  have ho := Bx.mk (op_new (w.alloc (.cells (blA A) 31)) kd a b c S1 T1 (H := w.heap.size + 1) (by simp))
  have hne : Bx (∀ k, w.heap.size ≤ k → ¬ SU A msb k) := ⟨fun k hk => h.ne hk⟩
  have hnbc : Bx (¬ SM A msb A.nb) := ⟨fun e => h.ap.m2 _ e (.inr (.inr (.inr rfl)))⟩
  have hff := Bx.mk (f0.up (S := SU A msb))
  have hS := Bx.mk hS
  have hdne : A.d < w.heap.size := h.lt A.d (.inr (.inr (.inr (.inl rfl))))
  clear h f0
  go_enter Tryz.func11, Tryz.ntmps11
  obtain ⟨b0, b1, b2⟩ := hb.out.bl3
  go_wp2_with (first
    | (go_at_call 22; refine (asked_any A _).mono ?_; rintro e w1 ⟨rfl, hf1⟩; have hW1 := Bx.mk (hW.out.fr0 hf1); have hb1 := Bx.mk (hf1.row0 hb.out); have ho1 := Bx.mk (hf1.row0 ho.out); have hff1 := Bx.mk (hff.out.trans hf1.up); clear hf1 hW hb ho hff b0 b1 b2; obtain ⟨b0, b1, b2⟩ := hb1.out.bl3; obtain ⟨c0, c1, c2, c3, c4, c5, c6, c7, c8⟩ := hW1.out.dk.dk9; have z5 := hW1.out.dk.frozen 5; have z6 := hW1.out.dk.frozen 6; have z7 := hW1.out.dk.frozen 7; have z8 := hW1.out.dk.frozen 8; have hdl := hW1.out.dk.lt; have hbl := hb1.out.lt
       have f2 : Fr (fun k => k = A.d) w1 ((((w1.setCell ⟨A.d, 5, none⟩ (I (-1))).setCell ⟨A.d, 6, none⟩ (I (-1))).setCell ⟨A.d, 7, none⟩ (I (-1))).setCell ⟨A.d, 8, none⟩ (I (-1))) := ((((Fr.refl (fun k => k = A.d) w1).setCell (p := ⟨A.d, 5, none⟩) (.inl rfl) _).setCell (p := ⟨A.d, 6, none⟩) (.inl rfl) _).setCell (p := ⟨A.d, 7, none⟩) (.inl rfl) _).setCell (p := ⟨A.d, 8, none⟩) (.inl rfl) _
       have hW2 := Bx.mk (hW1.out.desk f2 (D' := { D with c := -1, r := -1, s := -1, q := -1 }) (((((hW1.out.dk.set 5 _).set 6 _).set 7 _).set 8 _).congr (fun i hi => by
         match i, hi with
         | 0, _ => rfl
         | 1, _ => rfl
         | 2, _ => rfl
         | 3, _ => rfl
         | 4, _ => rfl
         | 5, _ => rfl
         | 6, _ => rfl
         | 7, _ => rfl
         | 8, _ => rfl)) rfl rfl rfl)
       have hb2 := Bx.mk (f2.row hb1.out (by show ¬ w.heap.size = A.d; omega)); have ho2 := Bx.mk (f2.row ho1.out (by show ¬ w.heap.size + 1 = A.d; omega)); have hff2 := Bx.mk (hff1.out.trans ((f2.mono (S' := SD A) (fun k hk => .inl hk)).su_d (msb := msb))); clear f2 hW1)
    | (go_at_call 15; refine (note_any A.nb D.no _ hW2.out.cm hW2.out.nb hnbc.out).mono ?_; rintro e w3 ⟨rfl, hE3, hf3⟩; have hW3 := Bx.mk (hW2.out.noted hf3 hE3); have hb3 := Bx.mk (hf3.row hb2.out (fun e => hne.out _ (Nat.le_refl _) (.inr (.inr (.inr (.inr (.inr (.inr e)))))))); have ho3 := Bx.mk (hf3.row ho2.out (fun e => hne.out _ (Nat.le_succ _) (.inr (.inr (.inr (.inr (.inr (.inr e)))))))); have hff3 := Bx.mk (hff2.out.trans ((hf3.mono (S' := SD A) (fun k hk => .inr (.inr (.inr hk)))).su_d (msb := msb))); clear hf3 hE3 b0 b1 b2 hbl; obtain ⟨b0, b1, b2⟩ := hb3.out.bl3; have hbl := hb3.out.lt; obtain ⟨o0, o1, o2, o3, o4, o5⟩ := ho3.out.op6; have hol := ho3.out.lt)
    | (go_at_call 23; refine (work_any kd a b c S1 T1 _ hW3.out.dk (by show (-1 : Int) < 0; omega)).mono ?_; rintro e w4 ⟨rfl, hf4⟩; have hW4 := Bx.mk (hW3.out.fr0 hf4); have hb4 := Bx.mk (hf4.row0 hb3.out); have hff4 := Bx.mk (hff3.out.trans hf4.up); clear hf4 b0 b1 b2 hbl; obtain ⟨b0, b1, b2⟩ := hb4.out.bl3; have hbl := hb4.out.lt)
    | (go_at_call 24; refine (handed_any _ hW4.out).mono ?_; rintro e w5 ⟨rfl, hW5, hf5⟩; have hW5 := Bx.mk hW5; have hb5 := Bx.mk (hf5.row hb4.out (fun e => hne.out _ (Nat.le_refl _) (.inr (.inr (.inl e))))); have hff5 := Bx.mk (hff4.out.trans (hf5.su_l (msb := msb))); clear hf5 b0 b1 b2 hbl; obtain ⟨b0, b1, b2⟩ := hb5.out.bl3; have hbl := hb5.out.lt)
    | (go_at_call 25; refine (fixpoint_any _ hW5.out hS.out rfl).mono ?_; rintro e w6 ⟨rfl, hW6, hf6⟩))
  go_ret
  exact ⟨rfl, ⟨_, hW6, rfl⟩, hff5.out.trans (hf6.su_l (msb := msb))⟩
end
end Go.Proofs.Qxb6500327aGreat
