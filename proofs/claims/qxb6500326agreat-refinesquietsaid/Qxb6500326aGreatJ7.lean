import Derived.Test.Qxb6500326aGreatJ6
namespace Go.Proofs.Qxb6500326aGreat
set_option maxRecDepth 100000
set_option linter.unusedVariables false
set_option linter.unusedSimpArgs false
open Go.RowKit Go.PlainAid
section
variable {w w' : World} {ρ ρ' : Nat → Nat} {mk : Nat} {M : YA} {T T' : Tx} {past next L : List Tx} {c : Nat}
/-- How far a saved text has been read into the list. -/
structure Ld (t : ByteArray) (S : Tx) (i : Nat) (last : Int) (cur S' : Tx) : Prop where
  sv : SvT t i last S'
  eq : ∀ c : Nat, S c = if (c : Int) ≤ last then cur c else S' c
  es : ∀ c : Nat, last < (c : Int) → cur c = es
theorem ld_start {t : ByteArray} {S : Tx} (h : SvT t 0 (-1) S) : Ld t S 0 (-1) (fun _ => es) S := ⟨h, fun c => by rw [if_neg (by omega)], fun _ _ => rfl⟩
theorem Ld.step {t : ByteArray} {S cur S' S2 : Tx} {i c m : Nat} {last : Int} (h : Ld t S i last cur S') (p : Pc t i last c m) (h2 : SvT t (i + 4 + m) c S2) (e : S' = upd S2 c (t.extract (i + 4) (i + 4 + m))) : Ld t S (i + 4 + m) c (upd cur c (t.extract (i + 4) (i + 4 + m))) S2 := by
  have hl := p.l
  refine ⟨h2, fun d => ?_, fun d hd => ?_⟩
  · rw [h.eq d, e]
    by_cases h1 : (d : Int) ≤ last
    · rw [if_pos h1, if_pos (by omega), upd_other _ _ (by omega)]
    · rw [if_neg h1]
      by_cases h3 : d = c
      · subst h3; rw [upd_same, if_pos (by omega), upd_same]
      · rw [upd_other _ _ h3]
        by_cases h4 : (d : Int) ≤ c
        · rw [if_pos h4, upd_other _ _ h3, h.es d (by omega), svt_low h2 d (.inl h4)]
        · rw [if_neg h4]
  · rw [upd_other _ _ (by omega)]; exact h.es d (by omega)
theorem Ld.done {t : ByteArray} {S cur S' : Tx} {last : Int} (h : Ld t S t.size last cur S') : S = cur := funext fun c => by
  rw [h.eq c]
  by_cases h1 : (c : Int) ≤ last
  · rw [if_pos h1]
  · rw [if_neg h1, svt_end' h.sv, h.es c (by omega)]
set_option maxHeartbeats 2000000 in
theorem bmLoad_long (t : ByteArray) (w : World) (hs : 1056 < t.size) : Calls Tryz.prog 19 #[pt mk, .string t] w fun e w' => e = .returned (I 1) ∧ w = w' := by
  have hd : decide ((1056 : Int) < (t.size : Int)) = true := decide_eq_true (by omega)
  go_enter Tryz.func19, Tryz.ntmps19
  go_wp2_with fail
  go_ret
  exact ⟨rfl, rfl⟩

theorem SvT.tx {t : ByteArray} {S : Tx} {i : Nat} {last : Int} (h : SvT t i last S) : TxO S := ⟨fun c _ => Sv.ok h c, fun c hc => svt_low h c (.inr hc)⟩
set_option maxHeartbeats 16000000 in
theorem bmLoad_yes (t : ByteArray) (S : Tx) (w : World) (h : BM w ρ mk M T past next) (hs : t.size ≤ 1056) (hS : SvT t 0 (-1) S) : Calls Tryz.prog 19 #[pt mk, .string t] w (MdP w ρ (.returned (I 0)) (fun w' ρ' => BM w' ρ' mk M S [] [])) := by
  have hPr : Bx (∀ (i : Nat) wx, i + 1 < t.size → Calls Tryz.prog 44 #[.string t, I i] wx fun e w' => e = .returned (I (numP (bt t i) (bt t (i + 1)))) ∧ Fr S0 wx w') := ⟨fun i wx hi => bmNum_any t i wx hi (by omega)⟩
  have kk1 := mk38
  generalize hA : MS = A1 at kk1
  replace hA := Bx.mk hA
  have hN1 : Bx (Row (w.alloc (.cells A1 9)) w.heap.size 24 (fun _ => .string es)) := ⟨ms_row hA.out w rfl⟩
  have hf1 := Bx.mk ((Fr.refl S0 w).alloc (.cells A1 9))
  have hTS := Bx.mk hS.tx
  have hld := Bx.mk (ld_start hS)
  obtain ⟨vp, vn, hb⟩ := h
  replace hb := Bx.mk hb
  have h1056 : decide ((1056 : Int) < (t.size : Int)) = false := decide_eq_false (by omega)
  clear hS
  go_enter Tryz.func19, Tryz.ntmps19
  go_wp2_with fail
  generalize hHH : w.heap.size = Hs at *
  have hHw : Bx (w.heap.size = Hs) := ⟨by omega⟩
  clear hHH
  go_loopw [6, 7] (fun l c wr => ∃ (last : Int) (i : Nat), i ≤ t.size ∧ -1 ≤ last ∧ last < 24 ∧ l = I last ∧ c = I (i : Int) ∧ Bx (∃ cur S', Ld t S i last cur S' ∧ Row wr Hs 24 (fun j => .string (cur j))) ∧ Bx (Fr S0 w wr)) (fun _ c _ => t.size - (intOf c).toNat)
  case atStart => exact ⟨-1, 0, by omega, by omega, by omega, rfl, rfl, ⟨⟨_, _, hld.out, hN1.out⟩⟩, hf1⟩
  case round =>
    clear hld hN1 hf1
    obtain ⟨last, i, hi, hl0, hl1, rfl, rfl, hE, hf⟩ := hrel
    obtain ⟨cur, S', hld, hR⟩ := hE.out
    replace hld := Bx.mk hld
    replace hR := Bx.mk hR
    clear hE
    have hiI : (i : Int) ≤ 1056 := by omega
    have htI : (t.size : Int) ≤ 1056 := by omega
    by_cases hlt : i < t.size
    · have hltd : decide ((i : Int) < (t.size : Int)) = true := by simp; omega
      obtain ⟨c, m, S2, p, hS2, he⟩ := svt_inv hld.out.sv hlt
      have hfit := p.fit
      have p1 := Bx.mk (fun wx => hPr.out i wx (by omega))
      have p2 := Bx.mk (fun wx => hPr.out (i + 2) wx (by omega))
      have e1 := p.e1
      have e2 := p.e2
      rw [e1] at p1
      rw [show i + 2 + 1 = i + 3 from rfl, e2] at p2
      have hc24 := p.c24
      have hm1 := p.m1
      have hm40 := p.m40
      have hlc := p.l
      have hld2 := Bx.mk (hld.out.step p hS2 he)
      have q1 : decide ((t.size : Int) - (i : Int) < 4) = false := decide_eq_false (by omega)
      have q2 : decide ((c : Int) ≤ last) = false := decide_eq_false (by omega)
      have q3 : decide (24 ≤ (c : Int)) = false := decide_eq_false (by omega)
      have q4 : decide ((m : Int) < 1) = false := decide_eq_false (by omega)
      have q5 : decide (40 < (m : Int)) = false := decide_eq_false (by omega)
      have q6 : decide ((t.size : Int) - (i : Int) - 4 < (m : Int)) = false := decide_eq_false (by omega)
      have hmI : (m : Int) ≤ 40 := by omega
      have hcI : (c : Int) < 24 := by omega
      have hfitI : (i : Int) + 4 + (m : Int) ≤ (t.size : Int) := by omega
      clear p e1 e2 hS2 he hld
      go_wp2_with (first
        | (go_at_call 44; refine (p1.out _).mono ?_; clear p1; rintro e w1 ⟨rfl, hf1⟩; replace hR := Bx.mk (hf1.row0 hR.out); replace hf := Bx.mk (hf.out.trans hf1); clear hf1)
        | (go_at_call 44; refine (p2.out _).mono ?_; clear p2; rintro e w2 ⟨rfl, hf2⟩; replace hR := Bx.mk (hf2.row0 hR.out); replace hf := Bx.mk (hf.out.trans hf2); clear hf2; have m0 := hR.out.cell c hc24; have z0 := hR.out.frozen c; have hlw := hR.out.lt))
      go_roundw
      case rel =>
        refine ⟨c, i + 4 + m, by omega, by omega, by omega, rfl, by go_num, ⟨⟨_, _, hld2.out, ?_⟩⟩, ⟨?_⟩⟩
        · refine (hR.out.set c _).congr (fun j _ => ?_)
          unfold upd; split <;> rfl
        · exact hf.out.setCell (p := ⟨Hs, c, none⟩) (.inr (by rw [hHw.out]; exact Nat.le_refl _)) _
      case measure => simp [intOf]; omega
    · have hltd : decide ((i : Int) < (t.size : Int)) = false := by simp; omega
      have hi2 : i = t.size := by omega
      have hcur : Bx (S = cur) := ⟨by have := hld.out; rw [hi2] at this; exact this.done⟩
      have hx0 : Bx (Ext w ρ (ext ρ w.heap.size Hs 0)) := ⟨ext_Ext _ _ _ _⟩
      have hk0 : ext ρ w.heap.size Hs 0 Hs = 0 := ext_new (by rw [hHw.out]; exact Nat.le_refl _)
      have hb1 := Bx.mk (hb.out.fr hf.out (fun _ _ e => e) hx0.out)
      generalize ext ρ w.heap.size Hs 0 = ρ1 at *
      obtain ⟨c0, c1, c2, hl, z1, z2⟩ := hb1.out.by'.cells
      have hP : Bx (Calls Tryz.prog 41 #[pt mk, sl Hs 24 24] wr fun e w' => e = .returned (.tuple #[]) ∧ (∃ ρ', Ext wr ρ1 ρ' ∧ YB w' ρ' M S) ∧ Fr (Cq ρ1 2) wr w') := ⟨put_any wr c0 hl hb1.out.by'.co hb1.out.by'.ed hb1.out.by'.tx hTS.out (by rw [hcur.out]; exact hR.out) hk0⟩
      clear hi2 hk0 hcur c0 c1 c2 hl z1 z2 hld hR
      go_wp2_with (first
        | (go_at_call 41; refine hP.out.mono ?_; clear hP; rintro e w2 ⟨rfl, ⟨ρ2, hx2, hY⟩, hf2⟩; have hb2 := Bx.mk (hb1.out.did hf2 hx2 hY hTS.out); have hx3 := Bx.mk (hx0.out.trans hx2 hf.out.size); replace hf2 := Bx.mk (Fr.col (P := MC) hf.out.up hx0.out (hf2.mono (fun k hk => .inl hk))); clear hx2 hY; obtain ⟨c0, c1, c2, hl, z1, z2⟩ := hb2.out.by'.cells))
      go_ret
      exact ⟨rfl, ⟨ρ2, hx3.out, _, _, (hb2.out.by'.setP _).setN _, lt_nil _ _ _, lt_nil _ _ _, by simp, by simp⟩, fr8 (fr8 hf2.out hx3.out hb2.out.by'.co 1 _) hx3.out hb2.out.by'.co 2 _⟩

set_option maxHeartbeats 16000000 in
theorem bmLoad_no (t : ByteArray) (w : World) (hs : t.size ≤ 1056) (hS : ¬ ∃ S, SvT t 0 (-1) S) : Calls Tryz.prog 19 #[pt mk, .string t] w fun e w' => e = .returned (I 12) ∧ Fr S0 w w' := by
  have hPr : Bx (∀ (i : Nat) wx, i + 1 < t.size → Calls Tryz.prog 44 #[.string t, I i] wx fun e w' => e = .returned (I (numP (bt t i) (bt t (i + 1)))) ∧ Fr S0 wx w') := ⟨fun i wx hi => bmNum_any t i wx hi (by omega)⟩
  have kk1 := mk38
  generalize hA : MS = A1 at kk1
  replace hA := Bx.mk hA
  have hN1 : Bx (Row (w.alloc (.cells A1 9)) w.heap.size 24 (fun _ => .string es)) := ⟨ms_row hA.out w rfl⟩
  have hf1 := Bx.mk ((Fr.refl S0 w).alloc (.cells A1 9))
  have h1056 : decide ((1056 : Int) < (t.size : Int)) = false := decide_eq_false (by omega)
  replace hS := Bx.mk hS
  go_enter Tryz.func19, Tryz.ntmps19
  go_wp2_with fail
  generalize hHH : w.heap.size = Hs at *
  have hHw : Bx (w.heap.size = Hs) := ⟨by omega⟩
  clear hHH
  go_loopw [6, 7] (fun l c wr => ∃ (last : Int) (i : Nat), i ≤ t.size ∧ -1 ≤ last ∧ last < 24 ∧ l = I last ∧ c = I (i : Int) ∧ Bx (¬ ∃ S, SvT t i last S) ∧ Bx (∃ cur : Tx, Row wr Hs 24 (fun j => .string (cur j))) ∧ Bx (Fr S0 w wr)) (fun _ c _ => t.size - (intOf c).toNat)
  case atStart => exact ⟨-1, 0, by omega, by omega, by omega, rfl, rfl, hS, ⟨⟨_, hN1.out⟩⟩, hf1⟩
  case round =>
    clear hS hN1 hf1
    obtain ⟨last, i, hi, hl0, hl1, rfl, rfl, hS, hE, hf⟩ := hrel
    obtain ⟨cur, hR⟩ := hE.out
    replace hR := Bx.mk hR
    clear hE
    have hlt : i < t.size := by
      apply Classical.byContradiction
      intro hn
      have : i = t.size := by omega
      exact hS.out ⟨_, this ▸ svt_end t last⟩
    have hltd : decide ((i : Int) < (t.size : Int)) = true := by simp; omega
    have hiI : (i : Int) ≤ 1056 := by omega
    have htI : (t.size : Int) ≤ 1056 := by omega
    cases q1 : decide ((t.size : Int) - (i : Int) < 4)
    · have h4 : i + 4 ≤ t.size := by simp at q1; omega
      have p1 := Bx.mk (fun wx => hPr.out i wx (by omega))
      have p2 := Bx.mk (fun wx => hPr.out (i + 2) wx (by omega))
      rw [show i + 2 + 1 = i + 3 from rfl] at p2
      obtain ⟨b1, b2⟩ := numP_bd (bt t i) (bt t (i + 1))
      obtain ⟨b3, b4⟩ := numP_bd (bt t (i + 2)) (bt t (i + 3))
      have hpc : Bx (∀ c m : Nat, numP (bt t i) (bt t (i + 1)) = c → numP (bt t (i + 2)) (bt t (i + 3)) = m → last < c → c < 24 → 1 ≤ m → m ≤ 40 → i + 4 + m ≤ t.size → ¬ ∃ S, SvT t (i + 4 + m) c S) := ⟨fun c m e1 e2 e3 e4 e5 e6 e7 => svt_none_step hS.out ⟨e1, e2, e3, e4, e5, e6, e7⟩⟩
      generalize numP (bt t i) (bt t (i + 1)) = c at *
      generalize numP (bt t (i + 2)) (bt t (i + 3)) = m at *
      clear hS
      cases q2 : decide (c ≤ last)
      · cases q3 : decide (24 ≤ c)
        · cases q4 : decide (m < 1)
          · cases q5 : decide (40 < m)
            · cases q6 : decide ((t.size : Int) - (i : Int) - 4 < m)
              · have g2 : last < c := by simpa using q2
                have g3 : c < 24 := by simpa using q3
                have g4 : 1 ≤ m := by simpa using q4
                have g5 : m ≤ 40 := by simpa using q5
                have g6 : m ≤ (t.size : Int) - (i : Int) - 4 := by simpa using q6
                obtain ⟨cn, rfl⟩ : ∃ cn : Nat, c = cn := ⟨c.toNat, by omega⟩
                obtain ⟨mn, rfl⟩ : ∃ mn : Nat, m = mn := ⟨m.toNat, by omega⟩
                have hnx := Bx.mk (hpc.out cn mn rfl rfl (by omega) (by omega) (by omega) (by omega) (by omega))
                have hfit : i + 4 + mn ≤ t.size := by omega
                have hfitI : (i : Int) + 4 + (mn : Int) ≤ (t.size : Int) := by omega
                have hc24 : cn < 24 := by omega
                go_wp2_with (first
                  | (go_at_call 44; refine (p1.out _).mono ?_; clear p1; rintro e w1 ⟨rfl, hf1⟩; replace hR := Bx.mk (hf1.row0 hR.out); replace hf := Bx.mk (hf.out.trans hf1); clear hf1)
                  | (go_at_call 44; refine (p2.out _).mono ?_; clear p2; rintro e w2 ⟨rfl, hf2⟩; replace hR := Bx.mk (hf2.row0 hR.out); replace hf := Bx.mk (hf.out.trans hf2); clear hf2; have m0 := hR.out.cell cn hc24; have z0 := hR.out.frozen cn; have hlw := hR.out.lt))
                go_roundw
                case rel =>
                  refine ⟨cn, i + 4 + mn, by omega, by omega, by omega, rfl, by go_num, hnx, ⟨⟨upd cur cn (t.extract (i + 4) (i + 4 + mn)), ?_⟩⟩, ⟨?_⟩⟩
                  · refine (hR.out.set cn _).congr (fun j _ => ?_)
                    unfold upd; split <;> rfl
                  · exact hf.out.setCell (p := ⟨Hs, cn, none⟩) (.inr (by rw [hHw.out]; exact Nat.le_refl _)) _
                case measure => simp [intOf]; omega
              · go_wp2_with (first
                  | (go_at_call 44; refine (p1.out _).mono ?_; clear p1; rintro e w1 ⟨rfl, hf1⟩; replace hR := Bx.mk (hf1.row0 hR.out); replace hf := Bx.mk (hf.out.trans hf1); clear hf1)
                  | (go_at_call 44; refine (p2.out _).mono ?_; clear p2; rintro e w2 ⟨rfl, hf2⟩; replace hR := Bx.mk (hf2.row0 hR.out); replace hf := Bx.mk (hf.out.trans hf2); clear hf2))
                go_ret
                exact ⟨rfl, hf.out⟩
            · go_wp2_with (first
                | (go_at_call 44; refine (p1.out _).mono ?_; clear p1; rintro e w1 ⟨rfl, hf1⟩; replace hR := Bx.mk (hf1.row0 hR.out); replace hf := Bx.mk (hf.out.trans hf1); clear hf1)
                | (go_at_call 44; refine (p2.out _).mono ?_; clear p2; rintro e w2 ⟨rfl, hf2⟩; replace hR := Bx.mk (hf2.row0 hR.out); replace hf := Bx.mk (hf.out.trans hf2); clear hf2))
              go_ret
              exact ⟨rfl, hf.out⟩
          · go_wp2_with (first
              | (go_at_call 44; refine (p1.out _).mono ?_; clear p1; rintro e w1 ⟨rfl, hf1⟩; replace hR := Bx.mk (hf1.row0 hR.out); replace hf := Bx.mk (hf.out.trans hf1); clear hf1)
              | (go_at_call 44; refine (p2.out _).mono ?_; clear p2; rintro e w2 ⟨rfl, hf2⟩; replace hR := Bx.mk (hf2.row0 hR.out); replace hf := Bx.mk (hf.out.trans hf2); clear hf2))
            go_ret
            exact ⟨rfl, hf.out⟩
        · go_wp2_with (first
            | (go_at_call 44; refine (p1.out _).mono ?_; clear p1; rintro e w1 ⟨rfl, hf1⟩; replace hR := Bx.mk (hf1.row0 hR.out); replace hf := Bx.mk (hf.out.trans hf1); clear hf1)
            | (go_at_call 44; refine (p2.out _).mono ?_; clear p2; rintro e w2 ⟨rfl, hf2⟩; replace hR := Bx.mk (hf2.row0 hR.out); replace hf := Bx.mk (hf.out.trans hf2); clear hf2))
          go_ret
          exact ⟨rfl, hf.out⟩
      · go_wp2_with (first
          | (go_at_call 44; refine (p1.out _).mono ?_; clear p1; rintro e w1 ⟨rfl, hf1⟩; replace hR := Bx.mk (hf1.row0 hR.out); replace hf := Bx.mk (hf.out.trans hf1); clear hf1)
          | (go_at_call 44; refine (p2.out _).mono ?_; clear p2; rintro e w2 ⟨rfl, hf2⟩; replace hR := Bx.mk (hf2.row0 hR.out); replace hf := Bx.mk (hf.out.trans hf2); clear hf2))
        go_ret
        exact ⟨rfl, hf.out⟩
    · go_wp2_with fail
      go_ret
      exact ⟨rfl, hf.out⟩
end
end Go.Proofs.Qxb6500326aGreat
