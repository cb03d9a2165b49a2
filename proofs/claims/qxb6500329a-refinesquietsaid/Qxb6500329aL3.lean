import Derived.Test.Qxb6500329aL2
import Derived.Test.Qxb6500329aX3
namespace Go.Proofs.Qxb6500329a
set_option linter.unusedVariables false
set_option linter.unusedSimpArgs false
open Go.RowKit Go.PlainAid
/-- All that is used lies ahead of H. -/
structure Low (B : FB) (fb d K S H : Nat) : Prop where
  d : d < H
  K : K < H
  S : S < H
  f : fb < H
  B : ∀ k, FmS B k → k < H
theorem Low.not {B : FB} {fb d K S H : Nat} (h : Low B fb d K S H) {g : Nat} (hg : H ≤ g) : ¬ Used B fb d K S g := by
  rintro (e | e | e | e | e)
  · have := h.B g e; omega
  · have := h.f; omega
  · have := h.d; omega
  · have := h.K; omega
  · have := h.S; omega
theorem Low.mono {B : FB} {fb d K S H H' : Nat} (h : Low B fb d K S H) (hH : H ≤ H') : Low B fb d K S H' :=
  ⟨Nat.lt_of_lt_of_le h.d hH, Nat.lt_of_lt_of_le h.K hH, Nat.lt_of_lt_of_le h.S hH, Nat.lt_of_lt_of_le h.f hH, fun k hk => Nat.lt_of_lt_of_le (h.B k hk) hH⟩
abbrev Dk3 (d K S : Nat) : Nat → Prop := fun k => k = d ∨ k = K ∨ k = S
/-- The ring takes a list. -/
theorem DS.keep {w w' : World} {B : FB} {fb d K S : Nat} {Z : Nat → Prop} {s : ByteArray} {v : Value} {t : Tr} {ct : Nat} (h : DS w B fb d K S Z s v t ct) (o : Option (Nat × Nat)) (m : Nat) (hm : m < 8) (c' : Nat) (Z' : Nat → Prop)
    (ho : ∀ g n, o = some (g, n) → n ≤ 100 ∧ Grid w' g n 13 (fun _ => ndC (stN (-(c' : Int)))) ∧ ¬ Used B fb d K S g ∧ ¬ Z g ∧ Z' g) (hs : ∀ k, Z k → Z' k)
    {T : Nat → Prop} (f : Fr T w w') (hT : ∀ k, T k → k = d ∨ k = K ∨ k = S ∨ ¬ Z k) (hd : Row w' d 8 (dkC s v t K S c')) (hK : ∀ vs, Row w K 8 vs → Row w' K 8 (upd vs m (kvV o))) (hS : ∀ vs, Row w S 8 vs → Row w' S 8 (upd vs m (I (-(c' : Int))))) :
    DS w' B fb d K S Z' s v t c' := by
  obtain ⟨kv, sv, hr⟩ := h.ring
  refine ⟨h.ids, hd, h.reg.fr f (fun k hk c => ?_), fun k hk => ⟨(h.own k hk).1, hs k (h.own k hk).2⟩, ⟨upd kv m o, upd sv m (-(c' : Int)), ?_, ?_, ?_⟩, h.num⟩
  · obtain ⟨h1, h2⟩ := h.own k hk
    rcases hT _ c with e | e | e | e
    · exact h1 (.inr (.inr (.inl e)))
    · exact h1 (.inr (.inr (.inr (.inl e))))
    · exact h1 (.inr (.inr (.inr (.inr e))))
    · exact e h2
  · refine (hK _ hr.kr).congr (fun i _ => ?_)
    unfold upd
    split <;> rfl
  · refine (hS _ hr.sr).congr (fun i _ => ?_)
    unfold upd
    split <;> rfl
  · intro j g n hj e
    by_cases c : j = m
    · subst c
      rw [upd_same] at e
      obtain ⟨h1, h2, h3, h4, h5⟩ := ho g n e
      rw [upd_same]
      refine ⟨h1, h2, ?_, h5⟩
      rintro (e | e)
      · exact h3 e
      · exact h4 (h.own g e).2
    · rw [upd_other _ _ c] at e
      obtain ⟨h1, h2, h3, h4⟩ := hr.kp j g n hj e
      rw [upd_other _ _ c]
      refine ⟨h1, h2.of f (fun q => ?_), h3, hs g h4⟩
      rcases hT _ q with e | e | e | e
      · exact h3 (.inl (.inr (.inr (.inl e))))
      · exact h3 (.inl (.inr (.inr (.inr (.inl e)))))
      · exact h3 (.inl (.inr (.inr (.inr (.inr e)))))
      · exact e h4
set_option maxRecDepth 100000 in
set_option maxHeartbeats 4000000 in
theorem keep_nil (B : FB) (fb d K S : Nat) (Z : Nat → Prop) (s : ByteArray) (v : Value) (t : Tr) (ct : Nat) (w : World) (h : DS w B fb d K S Z s v t ct) (hct : ct < 2 ^ 60) :
    Calls Try.prog 63 #[pt d, .slice none 0 0] w fun e w' => e = .returned (.tuple #[]) ∧ DS w' B fb d K S Z s v t (ct + 1) ∧ Fr (Dk3 d K S) w w' := by
  obtain ⟨m, hm, hm8⟩ : ∃ m : Nat, ((ct : Int) + 1) % 8 = (m : Int) ∧ m < 8 := ⟨(ct + 1) % 8, by omega, by omega⟩
  obtain ⟨kv, sv, hr⟩ := h.ring
  have c7 := h.row.cell 7 (by omega)
  have z7 := h.row.frozen 7
  have c5 := h.row.cell 5 (by omega)
  have c6 := h.row.cell 6 (by omega)
  simp only [dkC] at c5 c6 c7
  have kc := hr.kr.cell m hm8
  have kz := hr.kr.frozen m
  have sc := hr.sr.cell m hm8
  have sz := hr.sr.frozen m
  have n1 := h.ids.dK
  have n2 := h.ids.dS
  have n3 := h.ids.KS
  have hmI : (m : Int) < 8 := by omega
  have hc1 : (ct : Int) < 1152921504606846976 := by omega
  have hd7 := Bx.mk ((h.row.set 7 (I ((ct : Int) + 1))).congr (us := dkC s v t K S (ct + 1)) (by intro i hi; rcases i with _ | _ | _ | _ | _ | _ | _ | _ | i <;> first | rfl | omega))
  have hB := Bx.mk h
  clear h hr hct
  go_enter Try.func63, Try.ntmps63
  go_wp2_with fail
  go_loopw [4] (fun ii wr => ii = I 0 ∧ wr = w.setCell ⟨d, 7, none⟩ (I ((ct : Int) + 1))) (fun _ _ => 0)
  case atStart => exact ⟨rfl, rfl⟩
  case round =>
    obtain ⟨rfl, rfl⟩ := hrel
    go_wp2_with fail
    go_region
    go_wp2_with fail
    go_region
    go_wp2_with fail
    go_end0
    have hfr : Fr (Dk3 d K S) w ((((w.setCell ⟨d, 7, none⟩ (I ((ct : Int) + 1))).setCell ⟨K, m, none⟩ (.slice none 0 0)).setCell ⟨S, m, none⟩ (I (-((ct : Int) + 1)))).drew.drew) := (((((Fr.refl (Dk3 d K S) w).setCell (p := ⟨d, 7, none⟩) (.inl (.inl rfl)) _).setCell (p := ⟨K, m, none⟩) (.inl (.inr (.inl rfl))) _).setCell (p := ⟨S, m, none⟩) (.inl (.inr (.inr rfl))) _).drew).drew
    refine ⟨rfl, hB.out.keep none m hm8 (ct + 1) Z (fun g n e => by cases e) (fun k hk => hk) hfr (fun k hk => by rcases hk with e | e | e; exact .inl e; exact .inr (.inl e); exact .inr (.inr (.inl e))) ?_ ?_ ?_, hfr⟩
    · exact (((hd7.out.set_other (p := ⟨K, m, none⟩) n1 _).set_other (p := ⟨S, m, none⟩) n2 _).drew).drew
    · intro vs hv
      exact ((((hv.set_other (p := ⟨d, 7, none⟩) n1.symm _).set m (kvV none)).set_other (p := ⟨S, m, none⟩) n3 _).drew).drew
    · intro vs hv
      exact (((((hv.set_other (p := ⟨d, 7, none⟩) n2.symm _).set_other (p := ⟨K, m, none⟩) n3.symm _).set m (I (-((ct + 1 : Nat) : Int))))).drew).drew
set_option maxRecDepth 100000 in
set_option maxHeartbeats 4000000 in
theorem keep_some (B : FB) (fb d K S : Nat) (Z : Nat → Prop) (s : ByteArray) (v : Value) (t : Tr) (ct : Nat) (g n : Nat) (c0 : Nat → Nat → Value) (w : World) (h : DS w B fb d K S Z s v t ct) (hct : ct < 2 ^ 60) (hgU : ¬ Used B fb d K S g) (hgZ : ¬ Z g) (hn : n ≤ 100) (hG : Grid w g n 13 c0) :
    Calls Try.prog 63 #[pt d, sl g n n] w fun e w' => e = .returned (.tuple #[]) ∧ DS w' B fb d K S (fun k => Z k ∨ k = g) s v t (ct + 1) ∧ Fr (fun k => Dk3 d K S k ∨ k = g) w w' := by
  obtain ⟨m, hm, hm8⟩ : ∃ m : Nat, ((ct : Int) + 1) % 8 = (m : Int) ∧ m < 8 := ⟨(ct + 1) % 8, by omega, by omega⟩
  obtain ⟨kv, sv, hr⟩ := h.ring
  have c7 := h.row.cell 7 (by omega)
  have z7 := h.row.frozen 7
  simp only [dkC] at c7
  have n1 := h.ids.dK
  have n2 := h.ids.dS
  have n3 := h.ids.KS
  have gd : g ≠ d := fun e => hgU (.inr (.inr (.inl e)))
  have gK : g ≠ K := fun e => hgU (.inr (.inr (.inr (.inl e))))
  have gS : g ≠ S := fun e => hgU (.inr (.inr (.inr (.inr e))))
  have hmI : (m : Int) < 8 := by omega
  have hc1 : (ct : Int) < 1152921504606846976 := by omega
  have hd7 := Bx.mk ((h.row.set 7 (I ((ct : Int) + 1))).congr (us := dkC s v t K S (ct + 1)) (by intro i hi; rcases i with _ | _ | _ | _ | _ | _ | _ | _ | i <;> first | rfl | omega))
  have hB := Bx.mk h
  have hkr := Bx.mk hr.kr
  have hsr := Bx.mk hr.sr
  have hGB := Bx.mk hG
  have hlen : ∀ q : Nat, q < n → (q : Int) < (n : Int) := fun q hq => by omega
  clear h hr hct hG
  go_enter Try.func63, Try.ntmps63
  go_wp2_with fail
  go_loopw [4] (fun ii wr => ∃ (i : Nat) (c : Nat → Nat → Value), ii = I i ∧ i ≤ n ∧ Grid wr g n 13 c ∧ (∀ q, q < i → c q = ndC (stN (-((ct : Int) + 1)))) ∧ Row wr d 8 (dkC s v t K S (ct + 1)) ∧ Fr (fun k => k = d ∨ k = g) w wr) (fun ii _ => n - (intOf ii).toNat)
  case atStart => exact ⟨0, c0, rfl, Nat.zero_le _, Row.set_other hGB.out (p := ⟨d, 7, none⟩) gd _, fun q hq => by omega, hd7.out, (Fr.refl _ _).setCell (p := ⟨d, 7, none⟩) (.inl (.inl rfl)) _⟩
  case round =>
    clear c7 z7
    obtain ⟨i, c, rfl, hi, hGr, hc, hdr, hfr⟩ := hrel
    have c7 := hdr.cell 7 (by omega)
    have c5 := hdr.cell 5 (by omega)
    have c6 := hdr.cell 6 (by omega)
    have e7 : ((ct + 1 : Nat) : Int) = (ct : Int) + 1 := by omega
    simp only [dkC] at c7 c5 c6
    rw [e7] at c7
    by_cases hin : i < n
    · have hdi : decide ((i : Int) < (n : Int)) = true := decide_eq_true (by omega)
      have hdi2 : decide (i < n) = true := decide_eq_true hin
      have hiI := hlen i hin
      have k0 := hGr.cell0 i hin (by omega)
      have k1 := hGr.cell i 1 hin (by omega)
      have k2 := hGr.cell i 2 hin (by omega)
      have k3 := hGr.cell i 3 hin (by omega)
      have k4 := hGr.cell i 4 hin (by omega)
      have k5 := hGr.cell i 5 hin (by omega)
      have k6 := hGr.cell i 6 hin (by omega)
      have k7 := hGr.cell i 7 hin (by omega)
      have k8 := hGr.cell i 8 hin (by omega)
      have k9 := hGr.cell i 9 hin (by omega)
      have k10 := hGr.cell i 10 hin (by omega)
      have k11 := hGr.cell i 11 hin (by omega)
      have k12 := hGr.cell i 12 hin (by omega)
      have z0 := hGr.frozen (i * 13)
      have zz := fun j => hGr.frozen (i * 13 + j)
      have hput := Bx.mk (hGr.put i (by omega) (ndA (stN (-((ct : Int) + 1)))).toList rfl (ndC (stN (-((ct : Int) + 1)))) (by
        intro k hk
        have : k = 0 ∨ k = 1 ∨ k = 2 ∨ k = 3 ∨ k = 4 ∨ k = 5 ∨ k = 6 ∨ k = 7 ∨ k = 8 ∨ k = 9 ∨ k = 10 ∨ k = 11 ∨ k = 12 := by omega
        rcases this with e | e | e | e | e | e | e | e | e | e | e | e | e <;> subst e <;> rfl))
      have hcB := Bx.mk hc
      have hdB := Bx.mk hdr
      clear hGr hc hdr
      go_wp2_with fail
      go_roundw
      case rel =>
        have hone := oneBlock wr g (i * 13) (ndA (stN (-((ct : Int) + 1)))).toList
        refine ⟨i + 1, _, by go_num, by omega, hput.out, ?_, hone.row hdB.out gd.symm, sets_fr (S := fun k => k = d ∨ k = g) (a := w) (b := g) (.inl (.inr rfl)) (ndA (stN (-((ct : Int) + 1)))).toList wr (i * 13) hfr⟩
        intro q hq
        by_cases e : q = i
        · subst e; rw [upd_same]
        · rw [upd_other _ _ e]; exact hcB.out q (by omega)
      case measure => simp [intOf]; omega
    · have hdi : decide ((i : Int) < (n : Int)) = false := decide_eq_false (by omega)
      have hdi2 : decide (i < n) = false := decide_eq_false hin
      have kc := (hfr.row hkr.out (by rintro (e | e); exact n1 e.symm; exact gK e.symm)).cell m hm8
      have kz := (hfr.row hkr.out (by rintro (e | e); exact n1 e.symm; exact gK e.symm)).frozen m
      have sc := (hfr.row hsr.out (by rintro (e | e); exact n2 e.symm; exact gS e.symm)).cell m hm8
      have sz := (hfr.row hsr.out (by rintro (e | e); exact n2 e.symm; exact gS e.symm)).frozen m
      have hdB := Bx.mk hdr
      have hG2 : Bx (Grid wr g n 13 (fun _ => ndC (stN (-((ct + 1 : Nat) : Int))))) := Bx.mk (Row.congr hGr (fun j hj => by rw [e7, hc (j / 13) (Nat.div_lt_of_lt_mul (by omega))]))
      have hgl := hGB.out.row.lt
      clear hGr hc hdr
      go_wp2_with fail
      go_region
      go_wp2_with fail
      go_region
      go_wp2_with fail
      go_end0
      have hfr2 : Fr (fun k => Dk3 d K S k ∨ k = g) wr (((wr.setCell ⟨K, m, none⟩ (sl g n n)).setCell ⟨S, m, none⟩ (I (-((ct : Int) + 1)))).drew.drew) := ((((Fr.refl (fun k => Dk3 d K S k ∨ k = g) wr).setCell (p := ⟨K, m, none⟩) (.inl (.inl (.inr (.inl rfl)))) _).setCell (p := ⟨S, m, none⟩) (.inl (.inl (.inr (.inr rfl)))) _).drew).drew
      have hfr3 : Fr (fun k => Dk3 d K S k ∨ k = g) w (((wr.setCell ⟨K, m, none⟩ (sl g n n)).setCell ⟨S, m, none⟩ (I (-((ct : Int) + 1)))).drew.drew) := (hfr.mono (fun k hk => by rcases hk with e | e; exact .inl (.inl e); exact .inr e)).trans hfr2
      refine ⟨rfl, hB.out.keep (some (g, n)) m hm8 (ct + 1) (fun k => Z k ∨ k = g) ?_ (fun k hk => .inl hk) hfr3 (fun k hk => by rcases hk with (e | e | e) | e; exact .inl e; exact .inr (.inl e); exact .inr (.inr (.inl e)); exact .inr (.inr (.inr (by rw [e]; exact hgZ)))) ?_ ?_ ?_, hfr3⟩
      · intro g' n' e
        injection e with e
        injection e with e1 e2
        subst e1; subst e2
        refine ⟨hn, ?_, hgU, hgZ, .inr rfl⟩
        exact Row.drew (Row.drew ((Row.set_other (Row.set_other hG2.out (p := ⟨K, m, none⟩) gK _) (p := ⟨S, m, none⟩) gS _)))
      · exact (((hdB.out.set_other (p := ⟨K, m, none⟩) n1 _).set_other (p := ⟨S, m, none⟩) n2 _).drew).drew
      · intro vs hv
        exact ((((hfr.row hv (by rintro (e | e); exact n1 e.symm; exact gK e.symm)).set m (kvV (some (g, n)))).set_other (p := ⟨S, m, none⟩) n3 _).drew).drew
      · intro vs hv
        exact ((((hfr.row hv (by rintro (e | e); exact n2 e.symm; exact gS e.symm)).set_other (p := ⟨K, m, none⟩) n3.symm _).set m (I (-((ct + 1 : Nat) : Int)))).drew).drew
end Go.Proofs.Qxb6500329a
