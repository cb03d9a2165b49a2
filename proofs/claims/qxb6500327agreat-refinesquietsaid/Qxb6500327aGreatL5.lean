import Derived.Test.Qxb6500327aGreatL4
import Derived.Test.Qxb6500327aGreatN1
namespace Go.Proofs.Qxb6500327aGreat
set_option maxRecDepth 100000
set_option linter.unusedVariables false
set_option linter.unusedSimpArgs false
open Go.RowKit Go.PlainAid

theorem CM.eqE {w : World} {cb mb fb rb sb : Nat} {T : Nat → ByteArray} {E E' : Nat → Vl} (h : CM w cb mb fb rb sb T E) (he : ∀ c, c < 24 → E c = E' c) : CM w cb mb fb rb sb T E' := { h with sh := h.sh.eeq he }
theorem Ap.new {A : AD} {msb m : Nat} {N : Nat} (h : Ap A msb) (hn : ∀ k, SU A msb k → k < N) (hm : N ≤ m) : Ap A m := by
  have key : ∀ k, SM A m k → SM A msb k ∨ k = m := by
    rintro k (e | e | e | e | e)
    · exact .inl (.inl e)
    · exact .inl (.inr (.inl e))
    · exact .inl (.inr (.inr (.inl e)))
    · exact .inl (.inr (.inr (.inr (.inl e))))
    · exact .inr e
  refine ⟨fun k hk hs => ?_, h.r2, h.r3, fun k hk hs => ?_, fun k hk hs => ?_, h.l1, h.d1⟩
  · rcases key k hs with e | e
    · exact h.r1 k hk e
    · have := hn k (.inl hk); omega
  · rcases key k hk with e | e
    · exact h.m1 k e hs
    · have := hn k (.inr (.inr (.inl hs))); omega
  · rcases key k hk with e | e
    · exact h.m2 k e hs
    · have := hn k (.inr (.inr (.inr hs))); omega
/-- What a step of the law leaves. -/
def Stp (w : World) (A : AD) (msb : Nat) : Ending → World → Prop := fun e w' => e = .returned (.bool true) ∧ (∃ m x T E D, WS w' A m x T E D ∧ Sheet T E ∧ D.reg.size ≤ 41 ∧ (m = msb ∨ w.heap.size ≤ m)) ∧ Fr (SU A msb) w w'
section
variable {A : AD} {msb : Nat} {x : Gr.XS} {T : Nat → ByteArray} {E : Nat → Vl} {D : DS}
/-- The real side has played Set. -/
theorem setR {w : World} (c : Int) (s : ByteArray) (h : WS w A msb x T E D) (hS : Sheet T E) : Calls Tryz.prog 44 #[pt A.xb, I c, .string s] w fun e w1 => e = .returned (I (setP c s)) ∧ Fr (SR A) w w1 ∧ ∃ x' E', KM w1 A.xb A.V A.B A.gb A.rb A.sb x' (if setP c s = 0 then upd T c.toNat s else T) E' ∧ Sheet (if setP c s = 0 then upd T c.toNat s else T) E' :=
  (kSet_any c s w h.km hS).mono (fun e w1 hh => by
    obtain ⟨h1, h2, h3⟩ := hh
    refine ⟨h1, h2, ?_⟩
    rcases h3 with ⟨e, h3⟩ | ⟨e, x', E', h3, h4⟩
    · rw [if_neg e]; exact ⟨x, E, h3, hS⟩
    · rw [if_pos e]; exact ⟨x', E', h3, h4⟩)
theorem setM {w : World} (c : Int) (s : ByteArray) (h : CM w A.cb A.mb A.fb A.mrb msb T E) (hS : Sheet T E) : Calls Tryz.prog 45 #[pt A.cb, I c, .string s] w fun e w1 => e = .returned (I (setP c s)) ∧ Fr (SM A msb) w w1 ∧ ∃ m E', CM w1 A.cb A.mb A.fb A.mrb m (if setP c s = 0 then upd T c.toNat s else T) E' ∧ Sheet (if setP c s = 0 then upd T c.toNat s else T) E' ∧ (m = msb ∨ w.heap.size ≤ m) :=
  (cSet_any c s w h hS).mono (fun e w1 hh => by
    obtain ⟨h1, h2, h3⟩ := hh
    refine ⟨h1, h2.mono (fun k hk => ?_), ?_⟩
    · rcases hk with e | (e | e) | e
      · exact .inl e
      · exact .inr (.inl e)
      · exact .inr (.inr (.inl e))
      · exact .inr (.inr (.inr (.inl e)))
    · rcases h3 with ⟨e, h3⟩ | ⟨e, m, E', hm, h3, h4⟩
      · rw [if_neg e]; exact ⟨msb, E, h3, hS, .inl rfl⟩
      · rw [if_pos e]; exact ⟨m, E', h3, h4, .inr hm⟩)
/-- Both sides have played Set. -/
theorem WS.both {w w1 w2 : World} {T' : Nat → ByteArray} {E1 E2 : Nat → Vl} {x' : Gr.XS} {m : Nat} (h : WS w A msb x T E D) (f1 : Fr (SR A) w w1) (hk : KM w1 A.xb A.V A.B A.gb A.rb A.sb x' T' E1) (f2 : Fr (SM A msb) w1 w2) (hc : CM w2 A.cb A.mb A.fb A.mrb m T' E2) (hm : m = msb ∨ w1.heap.size ≤ m)
    (s1 : Sheet T' E1) (s2 : Sheet T' E2) : WS w2 A m x' T' E1 D := by
  have ap := h.ap
  have hap : Ap A m := by
    rcases hm with rfl | hm
    · exact ap
    · exact ap.new h.lt (Nat.le_trans f1.size hm)
  have hd : ∀ k, SD A k → ¬ SM A msb k := fun k hk e => ap.m2 k e hk
  have hd1 : ∀ k, SD A k → ¬ SR A k := fun k hk e => ap.r3 k e hk
  exact ⟨hk.fr f2 (fun k hk => ap.r1 k hk), hc.eqE (s2.same s1), (h.me.fr f1 (fun e => ap.r2 _ e (.inl rfl)) (fun e => ap.r2 _ e (.inr rfl))).fr f2 (fun e => ap.m1 _ e (.inl rfl)) (fun e => ap.m1 _ e (.inr rfl)), f2.row (f1.row h.dk (hd1 _ (.inl rfl))) (hd _ (.inl rfl)), f2.row (f1.row h.tb (hd1 _ (.inr (.inl rfl)))) (hd _ (.inr (.inl rfl))), (h.wb.of f1 (hd1 _ (.inr (.inr (.inl rfl))))).of f2 (hd _ (.inr (.inr (.inl rfl)))), (h.nb.of f1 (hd1 _ (.inr (.inr (.inr rfl))))).of f2 (hd _ (.inr (.inr (.inr rfl)))), hap⟩
theorem WS.errd {w : World} (h : WS w A msb x T E D) (n : Int) : WS (w.setCell ⟨A.d, 4, none⟩ (I n)) A msb x T E { D with er := n } :=
  h.desk ((Fr.refl (fun k => k = A.d) w).setCell (p := ⟨A.d, 4, none⟩) (.inl rfl) _) ((h.dk.set 4 _).congr (fun i hi => by
    match i, hi with
    | 0, _ => rfl
    | 1, _ => rfl
    | 2, _ => rfl
    | 3, _ => rfl
    | 4, _ => rfl
    | 5, _ => rfl
    | 6, _ => rfl
    | 7, _ => rfl
    | 8, _ => rfl)) rfl rfl rfl
theorem WS.regd {w : World} (h : WS w A msb x T E D) (s : ByteArray) : WS (w.setCell ⟨A.d, 0, none⟩ (.string s)) A msb x T E { D with reg := s } :=
  h.desk ((Fr.refl (fun k => k = A.d) w).setCell (p := ⟨A.d, 0, none⟩) (.inl rfl) _) ((h.dk.set 0 _).congr (fun i hi => by
    match i, hi with
    | 0, _ => rfl
    | 1, _ => rfl
    | 2, _ => rfl
    | 3, _ => rfl
    | 4, _ => rfl
    | 5, _ => rfl
    | 6, _ => rfl
    | 7, _ => rfl
    | 8, _ => rfl)) rfl rfl rfl
set_option maxHeartbeats 2000000 in
theorem sameSet_any (c : Int) (s : ByteArray) (w : World) (h : WS w A msb x T E D) (hS : Sheet T E) (htt : D.tt = T) (hwa : D.wa = E) (hrg : D.reg.size ≤ 41) : Calls Tryz.prog 32 #[pt A.xb, pt A.cb, pt A.d, I c, .string s] w (Stp w A msb) := by
  have hR := Bx.mk (setR c s h hS)
  have hM : Bx (∀ w1, Fr (SR A) w w1 → Calls Tryz.prog 45 #[pt A.cb, I c, .string s] w1 fun e w2 => e = .returned (I (setP c s)) ∧ Fr (SM A msb) w1 w2 ∧ ∃ m E', CM w2 A.cb A.mb A.fb A.mrb m (if setP c s = 0 then upd T c.toNat s else T) E' ∧ Sheet (if setP c s = 0 then upd T c.toNat s else T) E' ∧ (m = msb ∨ w1.heap.size ≤ m)) := ⟨fun w1 f => setM c s (h.cm.fr f (fun k hk e => h.ap.r1 k e hk)) hS⟩
  have hT : Bx (∀ (w' : World) (m : Nat) (x' : Gr.XS) (E' : Nat → Vl) (n : Int), n = setP c s → WS w' A m x' (if setP c s = 0 then upd T c.toNat s else T) E' { D with er := n } → Sheet (if setP c s = 0 then upd T c.toNat s else T) E' → Calls Tryz.prog 46 #[pt A.cb, pt A.d, I c, .string s] w' fun e w'' => e = .returned (.bool true) ∧ Fr S0 w' w'') := ⟨fun w' m x' E' n hn hW hS' => by
    subst hn
    by_cases hp : setP c s = 0
    · rw [if_pos hp] at hW hS'
      have hsz : ¬ 40 < s.size := fun e => by unfold setP at hp; rw [if_pos e] at hp; cases hp
      have hc : ¬ (c < 0 ∨ 24 ≤ c) := fun e => by unfold setP at hp; rw [if_neg hsz, if_pos e] at hp; cases hp
      obtain ⟨i, rfl⟩ : ∃ i : Nat, c = (i : Int) := ⟨c.toNat, by omega⟩
      refine taken_ok (T := T) (E := E') (E0 := E) i (by omega) s (by omega) w' ⟨hW.cm, hW.dk, ?_, ?_⟩ hp
      · have := hW.tb; rw [show ({ D with er := setP (i : Int) s } : DS).tt = T from htt] at this; exact this
      · have := hW.wb; rw [show ({ D with er := setP (i : Int) s } : DS).wa = E from hwa] at this; exact this
    · rw [if_neg hp] at hW hS'
      refine taken_bad (T := T) (E := E') c s w' ⟨hW.cm, hW.dk, ?_, ?_⟩ rfl hp
      · have := hW.tb; rw [show ({ D with er := setP c s } : DS).tt = T from htt] at this; exact this
      · have := hW.wb; rw [show ({ D with er := setP c s } : DS).wa = E from hwa] at this; exact this.eeq (hS.same hS')⟩
  have hW := Bx.mk h
  generalize hn : setP c s = n at hR hM hT
  have hn := Bx.mk hn
  generalize (if n = 0 then upd T c.toNat s else T) = T' at hR hM hT
  clear h hS htt hwa
  go_enter Tryz.func32, Tryz.ntmps32
  go_wp2_with (first
    | (go_at_call 44; refine hR.out.mono ?_; clear hR; rintro e w1 ⟨rfl, hf1, x', E1, hK1, hS1⟩; have hf1 := Bx.mk hf1; have hK1 := Bx.mk hK1; have hS1 := Bx.mk hS1)
    | (go_at_call 45; refine (hM.out _ hf1.out).mono ?_; clear hM; rintro e w2 ⟨rfl, hf2, m, E2, hC2, hS2, hm⟩; have hW2 := hW.out.both hf1.out hK1.out hf2 hC2 hm hS1.out hS2; have hW3 := Bx.mk (hW2.errd n); obtain ⟨c0, c1, c2, c3, c4, c5, c6, c7, c8⟩ := hW2.dk.dk9; have z4 := hW2.dk.frozen 4; have hdl := hW2.dk.lt; have hm := Bx.mk hm; have hff := Bx.mk ((hf1.out.su_r (msb := msb)).trans (hf2.mono (S' := SU A msb) (fun k hk => .inr (.inl hk)))); clear hW2 hC2 hS2 hf2)
    | (go_at_call 46; refine (hT.out _ m x' E1 n rfl hW3.out hS1.out).mono ?_; clear hT; rintro e w3 ⟨rfl, hf3⟩))
  go_ret
  have f3 : Fr (SU A msb) w w3 := (hff.out.setCell (p := ⟨A.d, 4, none⟩) (.inl (.inr (.inr (.inr (.inl rfl))))) _).trans hf3.up
  exact ⟨rfl, ⟨m, x', T', E1, _, hW3.out.fr0 hf3, hS1.out, hrg, hm.out.elim .inl (fun e => .inr (Nat.le_trans hf1.out.size e))⟩, f3⟩
theorem Stp.of {w w0 w' : World} {e : Ending} (f : Fr (SU A msb) w w0) (h : Stp w0 A msb e w') : Stp w A msb e w' := by
  obtain ⟨h1, ⟨m, x, T, E, D, h2, h3, h4, h5⟩, h6⟩ := h
  exact ⟨h1, ⟨m, x, T, E, D, h2, h3, h4, h5.elim .inl (fun e => .inr (Nat.le_trans f.size e))⟩, f.trans h6⟩
theorem Stp.same {w w' : World} {v : Value} (hv : v = .bool true) (h : WS w A msb x T E D) (hS : Sheet T E) (hrg : D.reg.size ≤ 41) (f : Fr S0 w w') : Stp w A msb (.returned v) w' := by
  subst hv
  exact ⟨rfl, ⟨msb, x, T, E, D, h.fr0 f, hS, hrg, .inl rfl⟩, f.up⟩
set_option maxHeartbeats 8000000 in
theorem play_any (kd a b c : Int) (S1 T1 : ByteArray) (w : World) (h : WS w A msb x T E D) (hS : Sheet T E) (htt : D.tt = T) (hwa : D.wa = E) (hrg : D.reg.size ≤ 41) : Calls Tryz.prog 17 #[pt A.xb, pt A.cb, pt A.d, opV kd a b c S1 T1] w (Stp w A msb) := by
  have f0 : Fr S0 w (w.alloc (.cells (opA kd a b c S1 T1) 45)) := (Fr.refl _ _).alloc _
  have hW := Bx.mk (h.fr0 f0)
  have ho := Bx.mk (op_new w kd a b c S1 T1 rfl)
  have f0 := Bx.mk f0
  have hS := Bx.mk hS
  have htt := Bx.mk htt
  have hwa := Bx.mk hwa
  have hrgB := Bx.mk hrg
  obtain ⟨c0, -, -, -, -, -, -, -, -⟩ := hW.out.dk.dk9
  have z0 := hW.out.dk.frozen 0
  have hdl := hW.out.dk.lt
  have hdw : ¬ A.d = w.heap.size := fun e => h.ne (Nat.le_refl _) (.inr (.inr (.inr (.inl e.symm))))
  have hwd : ¬ w.heap.size = A.d := fun e => hdw e.symm
  obtain ⟨o0, o1, o2, o3, o4, o5⟩ := ho.out.op6
  have hol := ho.out.lt
  clear h
  by_cases k1 : kd = 1
  · subst k1
    generalize hreg : D.reg = reg at c0 hrg
    have hreg := Bx.mk hreg
    have hL : Bx (∀ w', Calls Tryz.prog 30 #[.string reg, .string S1, I 40] w' fun e w'' => e = .returned (.string (lenQ reg S1)) ∧ w' = w'') := ⟨fun w' => lengthen_any reg S1 w' hrg⟩
    have hsz := Bx.mk (lenQ_size (p := S1) hrg)
    generalize lenQ reg S1 = q at hL hsz
    clear hrg
    go_enter Tryz.func17, Tryz.ntmps17
    go_upto_region 3 with fail
    refine region_cut (fun w' => Bx (Fr S0 ((w.alloc (.cells (opA 1 a b c S1 T1) 45)).setCell ⟨A.d, 0, none⟩ (.string q)) w')) ?_
    apply Exists.intro
    apply And.intro
    · go_region_with (first | (go_at_call 30; refine (hL.out _).mono ?_; rintro e w2 ⟨rfl, rfl⟩))
      all_goals exact ⟨rfl, ⟨⟨rfl, rfl, rfl, Nat.le_refl _, fun _ _ _ => rfl⟩⟩⟩
    rintro w3 hf3
    go_wp2_with fail
    go_ret
    exact ⟨rfl, ⟨msb, x, T, E, _, (hW.out.regd q).fr0 hf3.out, hS.out, hsz.out, .inl rfl⟩, ((f0.out.up (S := SU A msb)).setCell (p := ⟨A.d, 0, none⟩) (.inl (.inr (.inr (.inr (.inl rfl))))) _).trans hf3.out.up⟩
  by_cases k2 : kd = 2
  · subst k2
    have hW0 : Bx (∀ (w' : World) (q : ByteArray), WS w' A msb x T E { D with reg := es } → Calls Tryz.prog 32 #[pt A.xb, pt A.cb, pt A.d, I a, .string q] w' (Stp w' A msb)) := ⟨fun w' q hw => sameSet_any a q w' hw hS.out htt.out hwa.out (by show es.size ≤ 41; decide)⟩
    generalize hreg : D.reg = reg at c0 hrg
    have hreg := Bx.mk hreg
    have hL : Bx (∀ w', Calls Tryz.prog 31 #[.string reg, .string S1, I 40] w' fun e w'' => e = .returned (.string (wholeQ reg S1)) ∧ w' = w'') := ⟨fun w' => whole_str reg S1 w' hrg⟩
    generalize wholeQ reg S1 = q at hL
    clear hrg
    go_enter Tryz.func17, Tryz.ntmps17
    go_upto_region 5 with fail
    refine region_cut (fun w' => Bx (Fr S0 (w.alloc (.cells (opA 2 a b c S1 T1) 45)) w')) ?_
    apply Exists.intro
    apply And.intro
    · go_region_with (first | (go_at_call 31; refine (hL.out _).mono ?_; rintro e w2 ⟨rfl, rfl⟩))
      all_goals exact ⟨rfl, ⟨⟨rfl, rfl, rfl, Nat.le_refl _, fun _ _ _ => rfl⟩⟩⟩
    rintro w3 hf3
    have hW3 := Bx.mk (hW.out.fr0 hf3.out)
    have ho3 := Bx.mk (hf3.out.row0 ho.out)
    clear c0 z0 hdl o0 o1 o2 o3 o4 o5 hol
    obtain ⟨c0, -, -, -, -, -, -, -, -⟩ := hW3.out.dk.dk9
    have z0 := hW3.out.dk.frozen 0
    have hdl := hW3.out.dk.lt
    obtain ⟨o0, o1, o2, o3, o4, o5⟩ := ho3.out.op6
    have hol := ho3.out.lt
    have hW4 := Bx.mk (hW3.out.regd es)
    go_wp2_with (first | (go_at_call 32; refine (hW0.out _ q hW4.out).mono ?_; clear hW0; rintro e w5 ⟨rfl, hst⟩; have hst := Bx.mk hst))
    go_ret
    exact Stp.of (((f0.out.trans hf3.out).up (S := SU A msb)).setCell (p := ⟨A.d, 0, none⟩) (.inl (.inr (.inr (.inr (.inl rfl))))) _) ⟨rfl, hst.out⟩
  by_cases k3 : kd = 3
  · subst k3
    have hR := Bx.mk (sameRaw_any a _ hW.out)
    clear hrg
    go_enter Tryz.func17, Tryz.ntmps17
    go_wp2_with (first | (go_at_call 33; refine hR.out.mono ?_; clear hR; rintro e w2 ⟨rfl, rfl⟩))
    go_ret
    exact Stp.of (f0.out.up (S := SU A msb)) (Stp.same rfl hW.out hS.out hrgB.out (Fr.refl S0 _))
  by_cases k4 : kd = 4
  · subst k4
    have hR := Bx.mk (sameValue_any a _ hW.out)
    clear hrg
    go_enter Tryz.func17, Tryz.ntmps17
    go_wp2_with (first | (go_at_call 34; refine hR.out.mono ?_; clear hR; rintro e w2 ⟨rfl, hf2⟩))
    go_ret
    exact Stp.of (f0.out.up (S := SU A msb)) (Stp.same rfl hW.out hS.out hrgB.out hf2)
  by_cases k5 : kd = 5
  · subst k5
    have hR := Bx.mk (kCheck_any _ hW.out.km hS.out)
    clear hrg
    go_enter Tryz.func17, Tryz.ntmps17
    go_wp2_with (first | (go_at_call 35; refine hR.out.mono ?_; clear hR; rintro e w2 ⟨rfl, hf2⟩))
    go_ret
    exact Stp.of (f0.out.up (S := SU A msb)) (Stp.same rfl hW.out hS.out hrgB.out hf2)
  have e1 : (kd == 1) = false := by simpa using k1
  have e2 : (kd == 2) = false := by simpa using k2
  have e3 : (kd == 3) = false := by simpa using k3
  have e4 : (kd == 4) = false := by simpa using k4
  have e5 : (kd == 5) = false := by simpa using k5
  clear hrg
  go_enter Tryz.func17, Tryz.ntmps17
  go_wp2_with fail
  go_ret
  exact Stp.of (f0.out.up (S := SU A msb)) (Stp.same rfl hW.out hS.out hrgB.out (Fr.refl S0 _))
end
end Go.Proofs.Qxb6500327aGreat
