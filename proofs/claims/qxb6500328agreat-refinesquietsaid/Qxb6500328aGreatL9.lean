import Derived.Test.Qxb6500328aGreatL5
import Derived.Test.Qxb6500328aGreatN1
namespace Go.Proofs.Qxb6500328aGreat
set_option maxRecDepth 100000
set_option linter.unusedVariables false
set_option linter.unusedSimpArgs false
open Go.RowKit Go.PlainAid

/-! ### a step on both sides -/
def opC (kd a b c : Int) (S1 T1 : ByteArray) : Nat → Value
  | 0 => I kd
  | 1 => I a
  | 2 => I b
  | 3 => I c
  | 4 => .string S1
  | _ => .string T1
theorem op_new (w : World) (kd a b c : Int) (S1 T1 : ByteArray) {H : Nat} (e : w.heap.size = H) : Row (w.alloc (.cells (opA kd a b c S1 T1) 44)) H 6 (opC kd a b c S1 T1) := by
  subst e
  exact Row.new w _ 44 6 _ rfl (by intro i hi; rcases i with _ | _ | _ | _ | _ | _ | i <;> first | rfl | omega)
theorem Row.op6 {w : World} {kd a b c : Int} {S1 T1 : ByteArray} {g : Nat} (h : Row w g 6 (opC kd a b c S1 T1)) :
    w.cell? ⟨g, 0, none⟩ = some (I kd) ∧ w.cell? ⟨g, 1, none⟩ = some (I a) ∧ w.cell? ⟨g, 2, none⟩ = some (I b) ∧ w.cell? ⟨g, 3, none⟩ = some (I c) ∧ w.cell? ⟨g, 4, none⟩ = some (.string S1) ∧ w.cell? ⟨g, 5, none⟩ = some (.string T1) ∧ g < w.heap.size :=
  ⟨h.cell 0 (by omega), h.cell 1 (by omega), h.cell 2 (by omega), h.cell 3 (by omega), h.cell 4 (by omega), h.cell 5 (by omega), h.lt⟩
structure DKs (w : World) (D : DA) (reg : ByteArray) (Wt : Nat → ByteArray) (We : Nat → Vl) : Prop where
  dk : Row w D.d 7 (deC D reg)
  ws : Row w D.wsb 24 (fun i => .string (Wt i))
  sh : EL w D.shb 24 We
section
variable {w w1 w2 : World} {D : DA} {sb : Nat} {x : Gr.XS} {T : Nat → ByteArray} {E : Nat → Vl} {reg : ByteArray} {Wt : Nat → ByteArray} {We : Nat → Vl}
theorem DKs.fr (h : DKs w D reg Wt We) {S : Nat → Prop} (f : Fr S w w1) (hS : ∀ k, SDk D k → ¬ S k) : DKs w1 D reg Wt We :=
  ⟨f.row h.dk (hS _ (.inl rfl)), f.row h.ws (hS _ (.inr (.inl rfl))), h.sh.of f (hS _ (.inr (.inr rfl)))⟩
theorem DKs.de7 (h : DKs w D reg Wt We) : w.cell? ⟨D.d, 0, none⟩ = some (pt D.A.B2.f) ∧ w.cell? ⟨D.d, 1, none⟩ = some (pt D.A.xb) ∧ w.cell? ⟨D.d, 2, none⟩ = some (pt D.A.xe) ∧ w.cell? ⟨D.d, 3, none⟩ = some (pt D.M.me) ∧ w.cell? ⟨D.d, 4, none⟩ = some (.string reg) ∧ w.cell? ⟨D.d, 5, none⟩ = some (sl D.wsb 24 24) ∧ w.cell? ⟨D.d, 6, none⟩ = some (sl D.shb 24 24) ∧ D.d < w.heap.size :=
  ⟨h.dk.cell 0 (by omega), h.dk.cell 1 (by omega), h.dk.cell 2 (by omega), h.dk.cell 3 (by omega), h.dk.cell 4 (by omega), h.dk.cell 5 (by omega), h.dk.cell 6 (by omega), h.dk.lt⟩
theorem WS.dks (h : WS w D sb x T E reg Wt We) : DKs w D reg Wt We := ⟨h.dk, h.ws, h.sh⟩
theorem WS.joinX (h : WS w D sb x T E reg Wt We) (f : Fr (SE D.A) w w1) : EY w1 D.M sb T E ∧ DKs w1 D reg Wt We :=
  ⟨h.ey.fr f (fun k hk e => h.ap.r1 k e hk), h.dks.fr f (fun k hk e => h.ap.r2 k e hk)⟩
theorem EY.eEq {M : YA} {E' : Nat → Vl} (h : EY w M sb T E) (e : ∀ c, c < 24 → E c = E' c) : EY w M sb T E' :=
  ⟨h.obj, ⟨h.cm.obj, h.cm.me, h.cm.raw, h.cm.sh.eeq e, h.cm.n1, h.cm.n2, h.cm.n3⟩, h.mf, h.n1, h.n2, h.n3⟩
theorem Ap.next (h : Ap D sb) {sb' : Nat} (hlt : ∀ k, SU D sb k → k < w.heap.size) (hs : sb' = sb ∨ w.heap.size ≤ sb') : Ap D sb' := by
  have key : ∀ k, SYa D.M sb' k → SYa D.M sb k ∨ w.heap.size ≤ k := by
    rintro k (e | e)
    · exact .inl (.inl e)
    · rcases hs with hs | hs
      · exact .inl (.inr (hs ▸ e))
      · exact .inr (by rw [e]; exact hs)
  refine ⟨fun k hk e => ?_, h.r2, fun k hk e => ?_, h.d1, h.d2, h.d3⟩
  · rcases key k e with e | e
    · exact h.r1 k hk e
    · have := hlt k (.inl hk); omega
  · rcases key k hk with e2 | e2
    · exact h.m1 k e2 e
    · have := hlt k (.inr (.inr e)); omega
theorem joinY (hlt : ∀ k, SU D sb k → k < w.heap.size) (hap : Ap D sb) {x' : Gr.XS} {T' : Nat → ByteArray} {E1 E2 : Nat → Vl} {sb' : Nat} (hx : EX w1 D.A x' T' E1 (fun _ => es)) (hd : DKs w1 D reg Wt We) (hS1 : Sheet T' E1) (f : Fr (SY D.M) w1 w2) (hy : EY w2 D.M sb' T' E2) (hS2 : Sheet T' E2) (hs : sb' = sb ∨ w.heap.size ≤ sb') : WS w2 D sb' x' T' E1 reg Wt We :=
  have hd2 := hd.fr f (fun k hk e => hap.m1 k (.inl e) hk)
  ⟨hx.fr f (fun k hk e => hap.r1 k hk (.inl e)), hy.eEq (fun c hc => hS2.same hS1 c hc), hd2.dk, hd2.ws, hd2.sh, hap.next hlt hs⟩
end
def OutX (w : World) (A : XA) (T' : Nat → ByteArray) (w' : World) : Prop := Fr (SE A) w w' ∧ ∃ x' E', EX w' A x' T' E' (fun _ => es) ∧ Sheet T' E'
def OutY (w : World) (M : YA) (sb : Nat) (T' : Nat → ByteArray) (w' : World) : Prop := Fr (SY M) w w' ∧ ∃ sb' E', (sb' = sb ∨ w.heap.size ≤ sb') ∧ EY w' M sb' T' E' ∧ Sheet T' E'
section
variable {A : XA} {M : YA} {sb : Nat} {x : Gr.XS} {T : Nat → ByteArray} {E : Nat → Vl}
theorem xSet_out (c : Int) (s : ByteArray) (w : World) (h : EX w A x T E (fun _ => es)) (hS : Sheet T E) : Calls Tryz.prog 31 #[pt A.xe, I c, .string s] w fun e w' => e = .returned (I (setP c s)) ∧ OutX w A (if setP c s = 0 then upd T c.toNat s else T) w' :=
  (xSet_any c s w h hS).mono (fun e w' hr => by
    obtain ⟨he, hf, hr⟩ := hr
    refine ⟨he, hf.mono (fun k hk => .inl hk), ?_⟩
    rcases hr with ⟨a, hx⟩ | ⟨a, x', E', hx, hS'⟩
    · rw [if_neg a]; exact ⟨x, E, hx, hS⟩
    · rw [if_pos a]; exact ⟨x', E', hx, hS'⟩)
theorem ySet_out (c : Int) (s : ByteArray) (w : World) (h : EY w M sb T E) (hS : Sheet T E) : Calls Tryz.prog 32 #[pt M.me, I c, .string s] w fun e w' => e = .returned (I (setP c s)) ∧ OutY w M sb (if setP c s = 0 then upd T c.toNat s else T) w' :=
  (ySet_any c s w h hS).mono (fun e w' hr => by
    obtain ⟨he, hf, hr⟩ := hr
    refine ⟨he, hf, ?_⟩
    rcases hr with ⟨a, hx⟩ | ⟨a, sb', E', hs, hx, hS'⟩
    · rw [if_neg a]; exact ⟨sb, E, .inl rfl, hx, hS⟩
    · rw [if_pos a]; exact ⟨sb', E', .inr hs, hx, hS'⟩)
theorem xCopy_out2 (a b : Int) (w : World) (h : EX w A x T E (fun _ => es)) (hS : Sheet T E) : Calls Tryz.prog 35 #[pt A.xe, I a, I b] w fun e w' => e = .returned (I (cpP T a b)) ∧ OutX w A (if cpP T a b = 0 then upd T b.toNat (cpS T a b) else T) w' :=
  (xCopy_any a b w h hS).mono (fun e w' hr => by
    obtain ⟨he, hf, hr⟩ := hr
    refine ⟨he, hf, ?_⟩
    rcases hr with ⟨a, hx⟩ | ⟨a, x', E', hx, hS'⟩
    · rw [if_neg a]; exact ⟨x, E, hx, hS⟩
    · rw [if_pos a]; exact ⟨x', E', hx, hS'⟩)
theorem yCopy_out2 (a b : Int) (w : World) (h : EY w M sb T E) (hS : Sheet T E) : Calls Tryz.prog 36 #[pt M.me, I a, I b] w fun e w' => e = .returned (I (cpP T a b)) ∧ OutY w M sb (if cpP T a b = 0 then upd T b.toNat (cpS T a b) else T) w' :=
  (yCopy_any a b w h hS).mono (fun e w' hr => by
    obtain ⟨he, hf, hr⟩ := hr
    refine ⟨he, hf, ?_⟩
    rcases hr with ⟨a, hx⟩ | ⟨a, sb', E', hs, hx, hS'⟩
    · rw [if_neg a]; exact ⟨sb, E, .inl rfl, hx, hS⟩
    · rw [if_pos a]; exact ⟨sb', E', .inr hs, hx, hS'⟩)
/-- The two editors answer alike. -/
theorem edit_out (a b : Int) (hS : Sheet T E) : ∃ (v : Int) (T' : Nat → ByteArray), (v = 0 → ∃ rows ins, a = kd rows ins ∧ 0 ≤ b ∧ b < nAx rows ∧ T' = edT rows ins b T) ∧
    (∀ w x, EX w A x T E (fun _ => es) → Calls Tryz.prog 33 #[pt A.xe, I a, I b] w fun e w' => e = .returned (I v) ∧ OutX w A T' w') ∧
    (∀ w sb, EY w M sb T E → Calls Tryz.prog 34 #[pt M.me, I a, I b] w fun e w' => e = .returned (I v) ∧ OutY w M sb T' w') := by
  cases ho : edOK a b
  · refine ⟨9, T, fun h => (by cases h), fun w x h => (xEdit_any a b w h hS).mono (fun e w' hr => ?_), fun w sb h => (yEdit_any a b w h hS).mono (fun e w' hr => ?_)⟩
    · obtain ⟨he, hf, hr⟩ := hr
      rw [ho] at he
      refine ⟨he, hf, ?_⟩
      rcases hr with ⟨-, hx⟩ | ⟨rows, ins, e, h0, h1, -⟩
      · exact ⟨x, E, hx, hS⟩
      · rw [e, edOK_of h0 h1] at ho; cases ho
    · obtain ⟨he, hf, hr⟩ := hr
      rw [ho] at he
      refine ⟨he, hf, ?_⟩
      rcases hr with ⟨-, hx⟩ | ⟨rows, ins, e, h0, h1, -⟩
      · exact ⟨sb, E, .inl rfl, hx, hS⟩
      · rw [e, edOK_of h0 h1] at ho; cases ho
  · obtain ⟨rows, ins, rfl, h0, h1⟩ := edOK_kd ho
    refine ⟨0, edT rows ins b T, fun _ => ⟨rows, ins, rfl, h0, h1, rfl⟩, fun w x h => (xEdit_ok rows ins b w h hS h0 h1).mono (fun e w' hr => ?_), fun w sb h => (yEdit_ok rows ins b w h hS h0 h1).mono (fun e w' hr => ?_)⟩
    · obtain ⟨he, hr, hf⟩ := hr
      exact ⟨he, hf, hr⟩
    · obtain ⟨he, ⟨sb', E', h1, h2, h3⟩, hf⟩ := hr
      exact ⟨he, hf, sb', E', h1, h2, h3⟩
end
/-- What a step leaves. -/
def Hd (kd0 a b er : Int) (T T' : Nat → ByteArray) : Prop :=
  (kd0 = 3 → er = 0 → ∃ rows ins, a = kd rows ins ∧ 0 ≤ b ∧ b < nAx rows ∧ T' = edT rows ins b T) ∧
  (kd0 = 4 → er = 0 → ∃ p q : Nat, a = (p : Int) ∧ b = (q : Int) ∧ p < 24 ∧ q < 24 ∧ (cpS T p q).size ≤ 40 ∧ T' q = cpS T p q)
def PlP (w : World) (D : DA) (sb : Nat) (T : Nat → ByteArray) (E : Nat → Vl) (kd a b : Int) : Ending → World → Prop := fun e w' => ∃ er, e = .returned (.tuple #[.bool true, I er]) ∧ Fr (SU D sb) w w' ∧
  ∃ sb' x' T' E' reg', WS w' D sb' x' T' E' reg' T E ∧ Sheet T' E' ∧ reg'.size ≤ 41 ∧ (sb' = sb ∨ w.heap.size ≤ sb') ∧ Hd kd a b er T T'
theorem hd_other {kd a b er : Int} {T T' : Nat → ByteArray} (h3 : kd ≠ 3) (h4 : kd ≠ 4) : Hd kd a b er T T' := ⟨fun h => absurd h h3, fun h => absurd h h4⟩
theorem hd_copy {a b : Int} {T : Nat → ByteArray} : Hd 4 a b (cpP T a b) T (if cpP T a b = 0 then upd T b.toNat (cpS T a b) else T) := by
  refine ⟨fun h => (by cases h), fun _ h => ?_⟩
  have hb : ¬ (a < 0 ∨ 24 ≤ a ∨ b < 0 ∨ 24 ≤ b) := fun hb => by unfold cpP at h; rw [if_pos hb] at h; cases h
  obtain ⟨p, rfl⟩ : ∃ p : Nat, a = (p : Int) := ⟨a.toNat, by omega⟩
  obtain ⟨q, rfl⟩ : ∃ q : Nat, b = (q : Int) := ⟨b.toNat, by omega⟩
  refine ⟨p, q, rfl, rfl, by omega, by omega, ?_, ?_⟩
  · rw [cpP_in (by omega) (by omega)] at h
    apply Classical.byContradiction
    intro hn
    rw [if_pos (by omega)] at h; cases h
  · rw [if_pos h]; exact upd_same _ _ _
theorem SU.x {D : DA} {sb : Nat} : ∀ k, SE D.A k → SU D sb k := fun k h => .inl h
theorem SU.y {D : DA} {sb : Nat} : ∀ k, SY D.M k → SU D sb k := fun k h => .inr (.inl (.inl h))
section
variable {D : DA} {sb : Nat} {x : Gr.XS} {T : Nat → ByteArray} {E : Nat → Vl} {reg : ByteArray}
set_option maxHeartbeats 4000000 in
theorem play_text (a b c : Int) (S1 T1 : ByteArray) (w : World) (h : WS w D sb x T E reg T E) (hS : Sheet T E) (hrg : reg.size ≤ 41) : Calls Tryz.prog 15 #[pt D.d, opV 1 a b c S1 T1] w (PlP w D sb T E 1 a b) := by
  have f0 : Fr S0 w (w.alloc (.cells (opA 1 a b c S1 T1) 44)) := (Fr.refl _ _).alloc _
  have hW := Bx.mk (h.fr0 f0)
  have ho := Bx.mk (op_new w 1 a b c S1 T1 rfl)
  have f0 := Bx.mk f0
  have hS := Bx.mk hS
  obtain ⟨c0, c1, c2, c3, c4, c5, c6, hl⟩ := hW.out.de7
  have z4 := hW.out.dk.frozen 4
  have hdw : ¬ w.heap.size = D.d := fun e => by have := h.lt D.d (.inr (.inr (.inl rfl))); omega
  obtain ⟨o0, o1, o2, o3, o4, o5, hol⟩ := ho.out.op6
  have hL : Bx (∀ w', Calls Tryz.prog 29 #[.string reg, .string S1, I 40] w' fun e w'' => e = .returned (.string (lenQ reg S1)) ∧ w' = w'') := ⟨fun w' => lengthen_any reg S1 w' hrg⟩
  have hsz := Bx.mk (lenQ_size (p := S1) hrg)
  generalize lenQ reg S1 = q at hL hsz
  clear hrg h
  go_enter Tryz.func15, Tryz.ntmps15
  go_upto_region 3 with fail
  refine region_cut (fun w' => Bx (Fr S0 ((w.alloc (.cells (opA 1 a b c S1 T1) 44)).setCell ⟨D.d, 4, none⟩ (.string q)) w')) ?_
  apply Exists.intro
  apply And.intro
  · go_region_with (first | (go_at_call 29; refine (hL.out _).mono ?_; rintro e w2 ⟨rfl, rfl⟩))
    all_goals exact ⟨rfl, ⟨⟨rfl, rfl, rfl, Nat.le_refl _, fun _ _ _ => rfl⟩⟩⟩
  rintro w3 hf3
  go_wp2_with fail
  go_ret2
  exact ⟨0, rfl, ((f0.out.up (S := SU D sb)).setCell (p := ⟨D.d, 4, none⟩) (.inl (.inr (.inr (.inl rfl)))) _).trans hf3.out.up, sb, x, T, E, q, (hW.out.setReg q).fr0 hf3.out, hS.out, hsz.out, .inl rfl, hd_other (by decide) (by decide)⟩

set_option maxHeartbeats 8000000 in
theorem play_edit (a b c : Int) (S1 T1 : ByteArray) (w : World) (h : WS w D sb x T E reg T E) (hS : Sheet T E) (hrg : reg.size ≤ 41) : Calls Tryz.prog 15 #[pt D.d, opV 3 a b c S1 T1] w (PlP w D sb T E 3 a b) := by
  obtain ⟨v, T2, hv, hEX, hEY⟩ := edit_out (A := D.A) (M := D.M) a b hS
  have hhd : Bx (Hd 3 a b v T T2) := ⟨⟨fun _ h => hv h, fun h => by cases h⟩⟩
  have hEX := Bx.mk hEX
  have hEY := Bx.mk hEY
  clear hv hS
  have f0 : Fr S0 w (w.alloc (.cells (opA 3 a b c S1 T1) 44)) := (Fr.refl _ _).alloc _
  have hW0 := Bx.mk (h.fr0 f0)
  have ho0 := Bx.mk (op_new w 3 a b c S1 T1 rfl)
  have hltw : Bx (∀ k, SU D sb k → k < w.heap.size) := ⟨h.lt⟩
  have hap := Bx.mk h.ap
  have f0 := Bx.mk f0
  have hdw : ¬ w.heap.size = D.d := fun e => by have := h.lt D.d (.inr (.inr (.inl rfl))); omega
  have hrgB := Bx.mk hrg
  clear h
  go_enter Tryz.func15, Tryz.ntmps15
  go_upto_region 11 with fail
  have hW := hW0
  have ho := ho0
  have hfA : Bx (Fr (SU D sb) w (w.alloc (.cells (opA 3 a b c S1 T1) 44))) := ⟨f0.out.up⟩
  have hoA : Bx (¬ SU D sb w.heap.size) := ⟨fun e => by have := hltw.out _ e; omega⟩
  have hszA : (w.alloc (.cells (opA 3 a b c S1 T1) 44)).heap.size = w.heap.size + 1 := by simp
  generalize w.alloc (.cells (opA 3 a b c S1 T1) 44) = wA at *
  obtain ⟨c0, c1, c2, c3, c4, c5, c6, hl⟩ := hW.out.de7
  obtain ⟨o0, o1, o2, o3, o4, o5, hol⟩ := ho.out.op6
  have hCX := Bx.mk (hEX.out wA.drew x (hW.out.ex.fr0 ((Fr.refl S0 wA).drew)))
  refine region_cut (fun w' => Bx (OutX wA D.A T2 w')) ?_
  apply Exists.intro
  apply And.intro
  · go_region_with (first | (go_at_call 33; refine hCX.out.mono ?_; rintro e w2 ⟨rfl, hr⟩; have hr : OutX wA D.A T2 w2 := ⟨⟨hr.1.os, hr.1.tape, hr.1.output, hr.1.size, hr.1.block⟩, hr.2⟩; have hr := Bx.mk hr))
    all_goals exact ⟨rfl, hr⟩
  rintro w5 hr5
  obtain ⟨hf5, x5, E5, hx5, hS5⟩ := hr5.out
  obtain ⟨hy5, hd5⟩ := hW.out.joinX hf5
  have ho5 := Bx.mk (hf5.row ho.out (fun e => hoA.out (.inl e)))
  have hf5w := Bx.mk (hfA.out.trans (hf5.mono SU.x))
  have hsz5 : w.heap.size ≤ w5.heap.size := hf5w.out.size
  have hx5 := Bx.mk hx5
  have hS5 := Bx.mk hS5
  have hy5 := Bx.mk hy5
  have hd5 := Bx.mk hd5
  clear hr5 hCX c0 c1 c2 c3 c4 c5 c6 hl o0 o1 o2 o3 o4 o5 hol
  obtain ⟨c0, c1, c2, c3, c4, c5, c6, hl⟩ := hd5.out.de7
  obtain ⟨o0, o1, o2, o3, o4, o5, hol⟩ := ho5.out.op6
  have hCY := Bx.mk (hEY.out w5.drew sb (hy5.out.fr0 ((Fr.refl S0 w5).drew)))
  go_wp2_with fail
  refine region_cut (fun w' => Bx (OutY w5 D.M sb T2 w')) ?_
  apply Exists.intro
  apply And.intro
  · go_region_with (first | (go_at_call 34; refine hCY.out.mono ?_; rintro e w2 ⟨rfl, hr⟩; have hr : OutY w5 D.M sb T2 w2 := ⟨⟨hr.1.os, hr.1.tape, hr.1.output, hr.1.size, hr.1.block⟩, hr.2⟩; have hr := Bx.mk hr))
    all_goals exact ⟨rfl, hr⟩
  rintro w6 hr6
  go_wp2_with fail
  go_ret2
  obtain ⟨hf6, sb6, E6, hsb6, hy6, hS6⟩ := hr6.out
  have hsb : sb6 = sb ∨ w.heap.size ≤ sb6 := by rcases hsb6 with e | e; exact .inl e; exact .inr (by omega)
  exact ⟨v, by simp, hf5w.out.trans (hf6.mono SU.y), sb6, x5, T2, E5, reg, joinY hltw.out hap.out hx5.out hd5.out hS5.out hf6 hy6 hS6 hsb, hS5.out, hrgB.out, hsb, hhd.out⟩

set_option maxHeartbeats 8000000 in
theorem play_copy (a b c : Int) (S1 T1 : ByteArray) (w : World) (h : WS w D sb x T E reg T E) (hS : Sheet T E) (hrg : reg.size ≤ 41) : Calls Tryz.prog 15 #[pt D.d, opV 4 a b c S1 T1] w (PlP w D sb T E 4 a b) := by
  have hEX : Bx (∀ w x, EX w D.A x T E (fun _ => es) → Calls Tryz.prog 35 #[pt D.A.xe, I a, I b] w fun e w' => e = .returned (I (cpP T a b)) ∧ OutX w D.A (if cpP T a b = 0 then upd T b.toNat (cpS T a b) else T) w') := ⟨fun w x h => xCopy_out2 a b w h hS⟩
  have hEY : Bx (∀ w sb, EY w D.M sb T E → Calls Tryz.prog 36 #[pt D.M.me, I a, I b] w fun e w' => e = .returned (I (cpP T a b)) ∧ OutY w D.M sb (if cpP T a b = 0 then upd T b.toNat (cpS T a b) else T) w') := ⟨fun w sb h => yCopy_out2 a b w h hS⟩
  have hhd : Bx (Hd 4 a b (cpP T a b) T (if cpP T a b = 0 then upd T b.toNat (cpS T a b) else T)) := ⟨hd_copy⟩
  generalize (if cpP T a b = 0 then upd T b.toNat (cpS T a b) else T) = T2 at *
  generalize cpP T a b = v at *
  clear hS
  have f0 : Fr S0 w (w.alloc (.cells (opA 4 a b c S1 T1) 44)) := (Fr.refl _ _).alloc _
  have hW0 := Bx.mk (h.fr0 f0)
  have ho0 := Bx.mk (op_new w 4 a b c S1 T1 rfl)
  have hltw : Bx (∀ k, SU D sb k → k < w.heap.size) := ⟨h.lt⟩
  have hap := Bx.mk h.ap
  have f0 := Bx.mk f0
  have hdw : ¬ w.heap.size = D.d := fun e => by have := h.lt D.d (.inr (.inr (.inl rfl))); omega
  have hrgB := Bx.mk hrg
  clear h
  go_enter Tryz.func15, Tryz.ntmps15
  go_upto_region 15 with fail
  have hW := hW0
  have ho := ho0
  have hfA : Bx (Fr (SU D sb) w (w.alloc (.cells (opA 4 a b c S1 T1) 44))) := ⟨f0.out.up⟩
  have hoA : Bx (¬ SU D sb w.heap.size) := ⟨fun e => by have := hltw.out _ e; omega⟩
  have hszA : (w.alloc (.cells (opA 4 a b c S1 T1) 44)).heap.size = w.heap.size + 1 := by simp
  generalize w.alloc (.cells (opA 4 a b c S1 T1) 44) = wA at *
  obtain ⟨c0, c1, c2, c3, c4, c5, c6, hl⟩ := hW.out.de7
  obtain ⟨o0, o1, o2, o3, o4, o5, hol⟩ := ho.out.op6
  have hCX := Bx.mk (hEX.out wA.drew x (hW.out.ex.fr0 ((Fr.refl S0 wA).drew)))
  refine region_cut (fun w' => Bx (OutX wA D.A T2 w')) ?_
  apply Exists.intro
  apply And.intro
  · go_region_with (first | (go_at_call 35; refine hCX.out.mono ?_; rintro e w2 ⟨rfl, hr⟩; have hr : OutX wA D.A T2 w2 := ⟨⟨hr.1.os, hr.1.tape, hr.1.output, hr.1.size, hr.1.block⟩, hr.2⟩; have hr := Bx.mk hr))
    all_goals exact ⟨rfl, hr⟩
  rintro w5 hr5
  obtain ⟨hf5, x5, E5, hx5, hS5⟩ := hr5.out
  obtain ⟨hy5, hd5⟩ := hW.out.joinX hf5
  have ho5 := Bx.mk (hf5.row ho.out (fun e => hoA.out (.inl e)))
  have hf5w := Bx.mk (hfA.out.trans (hf5.mono SU.x))
  have hsz5 : w.heap.size ≤ w5.heap.size := hf5w.out.size
  have hx5 := Bx.mk hx5
  have hS5 := Bx.mk hS5
  have hy5 := Bx.mk hy5
  have hd5 := Bx.mk hd5
  clear hr5 hCX c0 c1 c2 c3 c4 c5 c6 hl o0 o1 o2 o3 o4 o5 hol
  obtain ⟨c0, c1, c2, c3, c4, c5, c6, hl⟩ := hd5.out.de7
  obtain ⟨o0, o1, o2, o3, o4, o5, hol⟩ := ho5.out.op6
  have hCY := Bx.mk (hEY.out w5.drew sb (hy5.out.fr0 ((Fr.refl S0 w5).drew)))
  go_wp2_with fail
  refine region_cut (fun w' => Bx (OutY w5 D.M sb T2 w')) ?_
  apply Exists.intro
  apply And.intro
  · go_region_with (first | (go_at_call 36; refine hCY.out.mono ?_; rintro e w2 ⟨rfl, hr⟩; have hr : OutY w5 D.M sb T2 w2 := ⟨⟨hr.1.os, hr.1.tape, hr.1.output, hr.1.size, hr.1.block⟩, hr.2⟩; have hr := Bx.mk hr))
    all_goals exact ⟨rfl, hr⟩
  rintro w6 hr6
  go_wp2_with fail
  go_ret2
  obtain ⟨hf6, sb6, E6, hsb6, hy6, hS6⟩ := hr6.out
  have hsb : sb6 = sb ∨ w.heap.size ≤ sb6 := by rcases hsb6 with e | e; exact .inl e; exact .inr (by omega)
  exact ⟨v, by simp, hf5w.out.trans (hf6.mono SU.y), sb6, x5, T2, E5, reg, joinY hltw.out hap.out hx5.out hd5.out hS5.out hf6 hy6 hS6 hsb, hS5.out, hrgB.out, hsb, hhd.out⟩

set_option maxHeartbeats 8000000 in
theorem play_set (a b c : Int) (S1 T1 : ByteArray) (w : World) (h : WS w D sb x T E reg T E) (hS : Sheet T E) (hrg : reg.size ≤ 41) : Calls Tryz.prog 15 #[pt D.d, opV 2 a b c S1 T1] w (PlP w D sb T E 2 a b) := by
  have hWh : Bx (∀ w', Calls Tryz.prog 30 #[.string reg, .string S1, I 40] w' fun e w'' => e = .returned (.string (wholeQ reg S1)) ∧ w' = w'') := ⟨fun w' => whole_str reg S1 w' hrg⟩
  generalize wholeQ reg S1 = q at hWh
  have hEX : Bx (∀ w x, EX w D.A x T E (fun _ => es) → Calls Tryz.prog 31 #[pt D.A.xe, I a, .string q] w fun e w' => e = .returned (I (setP a q)) ∧ OutX w D.A (if setP a q = 0 then upd T a.toNat q else T) w') := ⟨fun w x h => xSet_out a q w h hS⟩
  have hEY : Bx (∀ w sb, EY w D.M sb T E → Calls Tryz.prog 32 #[pt D.M.me, I a, .string q] w fun e w' => e = .returned (I (setP a q)) ∧ OutY w D.M sb (if setP a q = 0 then upd T a.toNat q else T) w') := ⟨fun w sb h => ySet_out a q w h hS⟩
  have hhd : Bx (∀ er T2, Hd 2 a b er T T2) := ⟨fun er T2 => hd_other (by decide) (by decide)⟩
  generalize (if setP a q = 0 then upd T a.toNat q else T) = T2 at *
  generalize setP a q = v at *
  clear hS
  have f0 : Fr S0 w (w.alloc (.cells (opA 2 a b c S1 T1) 44)) := (Fr.refl _ _).alloc _
  have hW0 := Bx.mk (h.fr0 f0)
  have ho0 := Bx.mk (op_new w 2 a b c S1 T1 rfl)
  have hltw : Bx (∀ k, SU D sb k → k < w.heap.size) := ⟨h.lt⟩
  have hap := Bx.mk h.ap
  have f0 := Bx.mk f0
  have hdw : ¬ w.heap.size = D.d := fun e => by have := h.lt D.d (.inr (.inr (.inl rfl))); omega
  have hrgB := Bx.mk hrg
  clear h
  go_enter Tryz.func15, Tryz.ntmps15
  go_upto_region 5 with fail
  have hW := hW0
  have ho := ho0
  have hoA : Bx (¬ SU D sb w.heap.size) := ⟨fun e => by have := hltw.out _ e; omega⟩
  obtain ⟨c0, c1, c2, c3, c4, c5, c6, hl⟩ := hW.out.de7
  obtain ⟨o0, o1, o2, o3, o4, o5, hol⟩ := ho.out.op6
  refine region_cut (fun w' => Bx (Fr S0 (w.alloc (.cells (opA 2 a b c S1 T1) 44)) w')) ?_
  apply Exists.intro
  apply And.intro
  · go_region_with (first | (go_at_call 30; refine (hWh.out _).mono ?_; rintro e w2 ⟨rfl, rfl⟩))
    all_goals exact ⟨rfl, ⟨⟨rfl, rfl, rfl, Nat.le_refl _, fun _ _ _ => rfl⟩⟩⟩
  rintro w3 hf3
  have hW3 := Bx.mk (hW.out.fr0 hf3.out)
  have ho3 := Bx.mk (hf3.out.row0 ho.out)
  clear hWh c0 c1 c2 c3 c4 c5 c6 hl o0 o1 o2 o3 o4 o5 hol
  obtain ⟨c0, c1, c2, c3, c4, c5, c6, hl⟩ := hW3.out.de7
  have z4 := hW3.out.dk.frozen 4
  go_upto_region 7 with fail
  have hW4 := Bx.mk (hW3.out.setReg es)
  have ho4 := Bx.mk (ho3.out.set_other (p := ⟨D.d, 4, none⟩) hdw (.string es))
  have hfA : Bx (Fr (SU D sb) w (w3.setCell ⟨D.d, 4, none⟩ (.string es))) := ⟨(f0.out.up.trans hf3.out.up).setCell (p := ⟨D.d, 4, none⟩) (.inl (.inr (.inr (.inl rfl)))) _⟩
  clear hW ho hW3 ho3 hf3 c0 c1 c2 c3 c4 c5 c6 hl z4
  have hW := hW4
  have ho := ho4
  clear hW4 ho4
  refine world_cut (fun wx => WS wx D sb x T E es T E ∧ Row wx w.heap.size 6 (opC 2 a b c S1 T1) ∧ Fr (SU D sb) w wx) ⟨hW.out, ho.out, hfA.out⟩ ?_
  clear hW ho hfA
  rintro wA ⟨hW, ho, hfA⟩
  have hW := Bx.mk hW
  have ho := Bx.mk ho
  have hfA := Bx.mk hfA
  obtain ⟨c0, c1, c2, c3, c4, c5, c6, hl⟩ := hW.out.de7
  obtain ⟨o0, o1, o2, o3, o4, o5, hol⟩ := ho.out.op6
  have hCX := Bx.mk (hEX.out wA.drew x (hW.out.ex.fr0 ((Fr.refl S0 wA).drew)))
  refine region_cut (fun w' => Bx (OutX wA D.A T2 w')) ?_
  apply Exists.intro
  apply And.intro
  · go_region_with (first | (go_at_call 31; refine hCX.out.mono ?_; rintro e w2 ⟨rfl, hr⟩; have hr : OutX wA D.A T2 w2 := ⟨⟨hr.1.os, hr.1.tape, hr.1.output, hr.1.size, hr.1.block⟩, hr.2⟩; have hr := Bx.mk hr))
    all_goals exact ⟨rfl, hr⟩
  rintro w5 hr5
  obtain ⟨hf5, x5, E5, hx5, hS5⟩ := hr5.out
  obtain ⟨hy5, hd5⟩ := hW.out.joinX hf5
  have ho5 := Bx.mk (hf5.row ho.out (fun e => hoA.out (.inl e)))
  have hf5w := Bx.mk (hfA.out.trans (hf5.mono SU.x))
  have hsz5 : w.heap.size ≤ w5.heap.size := hf5w.out.size
  have hx5 := Bx.mk hx5
  have hS5 := Bx.mk hS5
  have hy5 := Bx.mk hy5
  have hd5 := Bx.mk hd5
  clear hr5 hCX c0 c1 c2 c3 c4 c5 c6 hl o0 o1 o2 o3 o4 o5 hol
  obtain ⟨c0, c1, c2, c3, c4, c5, c6, hl⟩ := hd5.out.de7
  obtain ⟨o0, o1, o2, o3, o4, o5, hol⟩ := ho5.out.op6
  have hCY := Bx.mk (hEY.out w5.drew sb (hy5.out.fr0 ((Fr.refl S0 w5).drew)))
  go_wp2_with fail
  refine region_cut (fun w' => Bx (OutY w5 D.M sb T2 w')) ?_
  apply Exists.intro
  apply And.intro
  · go_region_with (first | (go_at_call 32; refine hCY.out.mono ?_; rintro e w2 ⟨rfl, hr⟩; have hr : OutY w5 D.M sb T2 w2 := ⟨⟨hr.1.os, hr.1.tape, hr.1.output, hr.1.size, hr.1.block⟩, hr.2⟩; have hr := Bx.mk hr))
    all_goals exact ⟨rfl, hr⟩
  rintro w6 hr6
  go_wp2_with fail
  go_ret2
  obtain ⟨hf6, sb6, E6, hsb6, hy6, hS6⟩ := hr6.out
  have hsb : sb6 = sb ∨ w.heap.size ≤ sb6 := by rcases hsb6 with e | e; exact .inl e; exact .inr (by omega)
  exact ⟨v, by simp, hf5w.out.trans (hf6.mono SU.y), sb6, x5, T2, E5, es, joinY hltw.out hap.out hx5.out hd5.out hS5.out hf6 hy6 hS6 hsb, hS5.out, (by decide), hsb, hhd.out _ _⟩

set_option maxHeartbeats 4000000 in
theorem play_any (kd a b c : Int) (S1 T1 : ByteArray) (w : World) (h : WS w D sb x T E reg T E) (hS : Sheet T E) (hrg : reg.size ≤ 41) : Calls Tryz.prog 15 #[pt D.d, opV kd a b c S1 T1] w (PlP w D sb T E kd a b) := by
  by_cases k1 : kd = 1
  · subst k1; exact play_text a b c S1 T1 w h hS hrg
  by_cases k2 : kd = 2
  · subst k2; exact play_set a b c S1 T1 w h hS hrg
  by_cases k3 : kd = 3
  · subst k3; exact play_edit a b c S1 T1 w h hS hrg
  by_cases k4 : kd = 4
  · subst k4; exact play_copy a b c S1 T1 w h hS hrg
  have f0 : Fr S0 w (w.alloc (.cells (opA kd a b c S1 T1) 44)) := (Fr.refl _ _).alloc _
  have hW := Bx.mk (h.fr0 f0)
  have ho := Bx.mk (op_new w kd a b c S1 T1 rfl)
  have hhd : Bx (∀ er T2, Hd kd a b er T T2) := ⟨fun er T2 => hd_other k3 k4⟩
  have f0 := Bx.mk f0
  have hS := Bx.mk hS
  have hrgB := Bx.mk hrg
  obtain ⟨c0, c1, c2, c3, c4, c5, c6, hl⟩ := hW.out.de7
  obtain ⟨o0, o1, o2, o3, o4, o5, hol⟩ := ho.out.op6
  have e1 : (kd == 1) = false := beq_false_of_ne k1
  have e2 : (kd == 2) = false := beq_false_of_ne k2
  have e3 : (kd == 3) = false := beq_false_of_ne k3
  have e4 : (kd == 4) = false := beq_false_of_ne k4
  clear h k1 k2 k3 k4 hrg
  by_cases k5 : kd = 5
  · have e5 : (kd == 5) = true := by simp [k5]
    have hR := Bx.mk (sameRaw_any a _ hW.out)
    clear k5
    go_enter Tryz.func15, Tryz.ntmps15
    go_wp2_with (first | (go_at_call 37; refine hR.out.mono ?_; clear hR; rintro e _ ⟨rfl, rfl⟩))
    go_ret2
    exact ⟨0, rfl, f0.out.up, sb, x, T, E, reg, hW.out, hS.out, hrgB.out, .inl rfl, hhd.out _ _⟩
  have e5 : (kd == 5) = false := beq_false_of_ne k5
  by_cases k6 : kd = 6
  · have e6 : (kd == 6) = true := by simp [k6]
    have hR := Bx.mk (sameValue_any a _ hW.out)
    clear k5 k6
    go_enter Tryz.func15, Tryz.ntmps15
    go_wp2_with (first | (go_at_call 38; refine hR.out.mono ?_; clear hR; rintro e w2 ⟨rfl, hf2⟩; have hf2 := Bx.mk hf2))
    go_ret2
    exact ⟨0, rfl, (f0.out.trans hf2.out).up, sb, x, T, E, reg, hW.out.fr0 hf2.out, hS.out, hrgB.out, .inl rfl, hhd.out _ _⟩
  have e6 : (kd == 6) = false := beq_false_of_ne k6
  by_cases k7 : kd = 7
  · have e7 : (kd == 7) = true := by simp [k7]
    have hR := Bx.mk (xCheck_any _ hW.out.ex)
    clear k5 k6 k7
    go_enter Tryz.func15, Tryz.ntmps15
    go_wp2_with (first | (go_at_call 25; refine hR.out.mono ?_; clear hR; rintro e _ ⟨rfl, rfl⟩))
    go_ret2
    exact ⟨0, rfl, f0.out.up, sb, x, T, E, reg, hW.out, hS.out, hrgB.out, .inl rfl, hhd.out _ _⟩
  have e7 : (kd == 7) = false := beq_false_of_ne k7
  clear k5 k6 k7
  go_enter Tryz.func15, Tryz.ntmps15
  go_wp2_with fail
  go_ret2
  exact ⟨0, rfl, f0.out.up, sb, x, T, E, reg, hW.out, hS.out, hrgB.out, .inl rfl, hhd.out _ _⟩
end
end Go.Proofs.Qxb6500328aGreat
