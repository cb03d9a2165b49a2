import Derived.Test.Qxb6500328aGreatL5
import Derived.Test.Qxb6500328aGreatL3
namespace Go.Proofs.Qxb6500328aGreat
set_option maxRecDepth 100000
set_option linter.unusedVariables false
set_option linter.unusedSimpArgs false
open Go.RowKit Go.PlainAid
attribute [local go_sem] bv_and bv_or bv_eq_zero bv_ne_zero bv_ne bv_eq bv_andNot

/-! ### the laws in plain -/
theorem carries_law {rows ins : Bool} {at_ : Int} (ha : 0 ≤ at_) (han : at_ < nAx rows) {s : ByteArray} (hs : s.size ≤ 40) :
    (readsP (movS (moveN rows ins at_) s)).1 &&& ~~~(accB (newB rows ins at_) 24) = accB (imgB (readsP s).1 rows ins at_) 24 := by
  apply BitVec.eq_of_getLsbD_eq
  intro i hi
  rw [BitVec.getLsbD_and, BitVec.getLsbD_not, mem_accB _ 24 (by omega), mem_accB _ 24 (by omega)]
  rcases Nat.lt_or_ge i 24 with h24 | h24
  · cases hn : newB rows ins at_ i
    · have hnew : ¬ (ins = true ∧ lineOf rows (i : Int) = at_) := by
        rintro ⟨rfl, e⟩
        have := (from_new ha han h24).2 e
        simp [newB, this] at hn
      have := reads_move (ins := ins) ha han hs h24 hnew
      unfold imgB
      have e1 : (readsP (movS (moveN rows ins at_) s)).1.getLsbD i = (decide (0 ≤ fromP rows ins at_ i) && (readsP s).1.getLsbD (fromP rows ins at_ i).toNat) := by
        rw [Bool.eq_iff_iff, this]; simp
      rw [e1]
      simp [h24, hi]
    · have hf : fromP rows ins at_ i < 0 := by simp [newB] at hn; exact hn.2
      have : imgB (readsP s).1 rows ins at_ i = false := by unfold imgB; rw [decide_eq_false (by omega)]; rfl
      rw [this]
      simp [h24]
  · have hg : (readsP (movS (moveN rows ins at_) s)).1.getLsbD i = false := by
      cases h : (readsP (movS (moveN rows ins at_) s)).1.getLsbD i
      · rfl
      · have := readsP_lt _ i h; omega
    rw [hg]
    simp; omega
theorem copies_pin {dc dr : Int} {s : ByteArray} (hs : s.size ≤ 40) (hf : frm s = true) (hp : ∀ j, j < (tlT s).nodes.length → Pinned (nd (tlT s).nodes j)) (hl : (movS (copyN dc dr) s).size ≤ 40) : (readsP (movS (copyN dc dr) s)).1 = (readsP s).1 := by
  obtain ⟨h1, h2⟩ := movS_frm copyN_lm hf hl
  rw [reads_frm hl h2, reads_frm hs hf, h1, copy_pinned (frm_tree hf).1 hp]
theorem copies_loo {dc dr : Int} {s : ByteArray} (hs : s.size ≤ 40) (hf : frm s = true) (hp : ∀ j, j < (tlT s).nodes.length → Loose (nd (tlT s).nodes j)) (hl : (movS (copyN dc dr) s).size ≤ 40) {W : BitVec 32}
    (h1 : ∀ i, i < 24 → (readsP s).1.getLsbD i = true → slIn dc dr i) (h2 : ∀ j, W.getLsbD j = true → ∃ i, i < 24 ∧ (readsP s).1.getLsbD i = true ∧ slTo dc dr i = j) : (readsP (movS (copyN dc dr) s)).1 &&& W = W := by
  obtain ⟨a1, a2⟩ := movS_frm copyN_lm hf hl
  apply BitVec.eq_of_getLsbD_eq
  intro j hj
  rw [BitVec.getLsbD_and]
  cases hW : W.getLsbD j
  · simp
  · obtain ⟨i, i1, i2, rfl⟩ := h2 j hW
    rw [reads_frm hs hf] at h1 i2
    have := rdT_copy (dc := dc) (dr := dr) (frm_tree hf).1 hp (fun i hi => by
      have h24 : i < 24 := by
        have : (readsP s).1.getLsbD i = true := by rw [reads_frm hs hf]; exact hi
        exact readsP_lt _ i this
      exact h1 i h24 hi) i2
    rw [reads_frm hl a2, a1]
    unfold slTo slRow slCol
    rw [this]; rfl
theorem free_law {rows : Bool} {Wt : Nat → ByteArray} (h : ∀ i, i < 24 → ((accB (lastB rows) 24).getLsbD i = true → Wt i = es) ∧ (readsP (Wt i)).1 &&& accB (lastB rows) 24 = 0#32) : FreeL rows Wt := by
  refine ⟨fun c hc hl => (h c hc).1 ?_, fun c hc d hd hl => ?_⟩
  · rw [mem_accB _ 24 (by omega)]; simp [hc, lastB, hl]
  · have h2 := congrArg (fun b => BitVec.getLsbD b d) (h c hc).2
    simp only [BitVec.getLsbD_and, mem_accB _ 24 (by omega : 24 ≤ 32)] at h2
    have h3 : (decide (d < 24) && lastB rows d) = true := by simp [hd, lastB, hl]
    rw [h3] at h2
    unfold RT
    simpa using h2
/-! ### the ghosts -/
section
variable {D : DA} {sb : Nat} {x : Gr.XS} {T : Nat → ByteArray} {E : Nat → Vl} {reg : ByteArray} {Wt : Nat → ByteArray} {We : Nat → Vl}
def ghT (T W : Nat → ByteArray) (k c : Nat) : ByteArray := if c < k then T c else W c
def ghE (E W : Nat → Vl) (k c : Nat) : Vl := if c < k then E c else W c
theorem ghT_step (T W : Nat → ByteArray) (k c : Nat) : upd (ghT T W k) k (T k) c = ghT T W (k + 1) c := by
  unfold upd ghT
  by_cases e : c = k
  · subst e; rw [if_pos rfl, if_pos (by omega)]
  · rw [if_neg e]
    by_cases e2 : c < k
    · rw [if_pos e2, if_pos (by omega)]
    · rw [if_neg e2, if_neg (by omega)]
theorem ghE_step (T W : Nat → Vl) (k c : Nat) : upd (ghE T W k) k (T k) c = ghE T W (k + 1) c := by
  unfold upd ghE
  by_cases e : c = k
  · subst e; rw [if_pos rfl, if_pos (by omega)]
  · rw [if_neg e]
    by_cases e2 : c < k
    · rw [if_pos e2, if_pos (by omega)]
    · rw [if_neg e2, if_neg (by omega)]
def SGh (D : DA) : Nat → Prop := fun k => k = D.wsb ∨ k = D.shb
set_option maxHeartbeats 8000000 in
theorem note_any (w : World) (h : WS w D sb x T E reg Wt We) : Calls Tryz.prog 14 #[pt D.d] w fun e w' => e = .returned (.tuple #[]) ∧ WS w' D sb x T E reg T E ∧ Fr (SGh D) w w' := by
  have hW0 := Bx.mk h
  clear h
  go_enter Tryz.func14, Tryz.ntmps14
  go_wp2_with fail
  go_loopw [2] (fun c wr => ∃ k : Nat, k ≤ 24 ∧ c = I (k : Int) ∧ Bx (WS wr D sb x T E reg (ghT T Wt k) (ghE E We k)) ∧ Bx (Fr (SGh D) w wr)) (fun c _ => 24 - (intOf c).toNat)
  case atStart => exact ⟨0, by omega, rfl, ⟨hW0.out.ghosts (fun c hc => by unfold ghT; rw [if_neg (by omega)]) (fun c hc => by unfold ghE; rw [if_neg (by omega)])⟩, ⟨Fr.refl _ _⟩⟩
  case round =>
    clear hW0
    obtain ⟨k, hk, rfl, hW, hf⟩ := hrel
    cases hlt : decide ((k : Int) < 24)
    · have hk24 : Bx (k = 24) := ⟨by simp at hlt; omega⟩
      go_wp2_with fail
      go_end0
      exact ⟨rfl, hW.out.ghosts (fun c hc => by unfold ghT; rw [if_pos (by rw [hk24.out]; exact hc)]) (fun c hc => by unfold ghE; rw [if_pos (by rw [hk24.out]; exact hc)]), hf.out⟩
    · have hk24 : k < 24 := by simp at hlt; omega
      have hkI : (k : Int) < 24 := by omega
      have hv : Bx (Calls Tryz.prog 27 #[pt D.M.me, I (k : Int)] wr.drew fun e w' => e = .returned (.string (T k)) ∧ wr.drew = w') := ⟨by
        have := yRaw_any (k : Int) wr.drew (hW.out.fr0 ((Fr.refl S0 wr).drew)).ey
        rw [rawP_at hk24] at this
        exact this⟩
      have hv2 : Bx (∀ wx, WS wx D sb x T E reg (ghT T Wt (k + 1)) (ghE E We k) → Calls Tryz.prog 28 #[pt D.M.me, I (k : Int)] wx.drew (VR wx.drew (E k))) := ⟨fun wx h => by
        have := yValue_any (k : Int) wx.drew (h.fr0 ((Fr.refl S0 wx).drew)).ey
        unfold valP at this
        rw [if_pos ⟨by omega, hkI⟩] at this
        exact this⟩
      have hstep := Bx.mk (fun c => ghT_step T Wt k c)
      have hstepE := Bx.mk (fun c => ghE_step E We k c)
      generalize T k = y at hv hstep
      generalize E k = z at hv2 hstepE
      obtain ⟨c0, c1, c2, c3, c4, c5, c6, hl⟩ := hW.out.de7
      have m0 := hW.out.ws.cell k hk24
      have z0 := hW.out.ws.frozen k
      have hlw := hW.out.ws.lt
      go_wp2_with fail
      refine region_cut (fun w' => ∃ w0, Bx (Fr S0 wr w0) ∧ w' = w0.setCell ⟨D.wsb, k, none⟩ (.string y)) ?_
      apply Exists.intro
      apply And.intro
      · go_region_with (first | (go_at_call 27; refine hv.out.mono ?_; rintro e _ ⟨rfl, rfl⟩))
        all_goals exact ⟨rfl, _, ⟨(Fr.refl S0 wr).drew⟩, rfl⟩
      rintro _ ⟨w0, hf0, rfl⟩
      have hW1 : Bx (WS (w0.setCell ⟨D.wsb, k, none⟩ (.string y)) D sb x T E reg (ghT T Wt (k + 1)) (ghE E We k)) := ⟨((hW.out.fr0 hf0.out).setWas k y).ghosts (fun c _ => hstep.out c) (fun c _ => rfl)⟩
      have hf1 : Bx (Fr (SGh D) w (w0.setCell ⟨D.wsb, k, none⟩ (.string y))) := ⟨(hf.out.trans hf0.out.up).setCell (p := ⟨D.wsb, k, none⟩) (.inl (.inl rfl)) _⟩
      generalize w0.setCell ⟨D.wsb, k, none⟩ (.string y) = wq at *
      clear hW hf hv hf0 hstep c0 c1 c2 c3 c4 c5 c6 hl m0 z0 hlw
      obtain ⟨c0, c1, c2, c3, c4, c5, c6, hl⟩ := hW1.out.de7
      have hv3 := Bx.mk (hv2.out wq hW1.out)
      go_wp2_with fail
      refine region_cut (fun w' => ∃ w0, Bx (Fr S0 wq w0) ∧ w' = sets w0 D.shb (k * 3) (vA z).toList) ?_
      apply Exists.intro
      apply And.intro
      · go_region_with (first | (go_at_call 28; refine hv3.out.mono ?_; rintro e w0 ⟨rfl, hf0⟩; have hf0 : Fr S0 wq w0 := ⟨hf0.os, hf0.tape, hf0.output, hf0.size, hf0.block⟩; have hW2 := Bx.mk (hW1.out.fr0 hf0); obtain ⟨c0, c1, c2, c3, c4, c5, c6, hl⟩ := hW2.out.de7; obtain ⟨m0, m1, m2, z0, z1, z2⟩ := hW2.out.sh.ev3 hk24; have hEl := Row.lt hW2.out.sh; have hf0 := Bx.mk hf0))
        all_goals exact ⟨rfl, _, hf0, rfl⟩
      rintro _ ⟨w0, hf0, rfl⟩
      have hW3 : Bx (WS (sets w0 D.shb (k * 3) (vA z).toList) D sb x T E reg (ghT T Wt (k + 1)) (ghE E We (k + 1))) := ⟨((hW1.out.fr0 hf0.out).setSh k z).ghosts (fun c _ => rfl) (fun c _ => hstepE.out c)⟩
      have hf3 : Bx (Fr (SGh D) w (sets w0 D.shb (k * 3) (vA z).toList)) := ⟨fr_val (.inl (.inr rfl)) (hf1.out.trans hf0.out.up)⟩
      generalize sets w0 D.shb (k * 3) (vA z).toList = wz at *
      clear hv3 hv2 hW1 hf1 hstepE
      go_wp2_with fail
      go_roundw
      case rel => exact ⟨k + 1, by omega, by go_num, hW3, hf3⟩
      case measure => simp [intOf]; omega
set_option maxHeartbeats 4000000 in
theorem canon_any (w : World) (h : WS w D sb x T E reg Wt We) (hcan : ∀ c, c < 24 → canonB (T c)) : Calls Tryz.prog 42 #[pt D.d] w fun e w' => e = .returned (.bool true) ∧ Fr S0 w w' := by
  have hW : Bx (∀ w', Fr S0 w w' → WS w' D sb x T E reg Wt We) := ⟨fun w' f => h.fr0 f⟩
  have hcan := Bx.mk hcan
  clear h
  go_enter Tryz.func42, Tryz.ntmps42
  go_wp2_with fail
  go_loopw [3] (fun c wr => ∃ k : Nat, k ≤ 24 ∧ c = I (k : Int) ∧ Bx (Fr S0 w wr)) (fun c _ => 24 - (intOf c).toNat)
  case atStart => exact ⟨0, by omega, rfl, ⟨Fr.refl _ _⟩⟩
  case round =>
    obtain ⟨k, hk, rfl, hf⟩ := hrel
    cases hlt : decide ((k : Int) < 24)
    · go_wp2_with fail
      go_ret
      exact ⟨rfl, hf.out⟩
    · have hk24 : k < 24 := by simp at hlt; omega
      have hkI : (k : Int) < 24 := by omega
      have hWr := hW.out wr hf.out
      have a1 : Bx (Calls Tryz.prog 27 #[pt D.M.me, I (k : Int)] wr fun e w' => e = .returned (.string (T k)) ∧ wr = w') := ⟨by have := yRaw_any (k : Int) wr hWr.ey; rw [rawP_at hk24] at this; exact this⟩
      have a2 := Bx.mk (canonical_any (T k) wr (hcan.out k hk24))
      obtain ⟨c0, c1, c2, c3, c4, c5, c6, hl⟩ := hWr.de7
      clear hWr
      generalize T k = s at a1 a2
      go_wp2_with (first
        | (go_at_call 27; refine a1.out.mono ?_; clear a1; rintro e _ ⟨rfl, rfl⟩)
        | (go_at_call 74; refine a2.out.mono ?_; clear a2; rintro e w2 ⟨rfl, hf2⟩; have hf2 := Bx.mk (hf.out.trans hf2)))
      go_roundw
      case rel => exact ⟨k + 1, by omega, by go_num, hf2⟩
      case measure => simp [intOf]; omega
set_option maxHeartbeats 8000000 in
theorem carries_any (rows ins : Bool) (at_ : Int) (w : World) (h : WS w D sb x T E reg Wt We) (h0 : 0 ≤ at_) (h1 : at_ < nAx rows) (hok : TxOK Wt) (hT : T = edT rows ins at_ Wt) : Calls Tryz.prog 41 #[pt D.d, I (kd rows ins), I at_] w fun e w' => e = .returned (.bool true) ∧ Fr S0 w w' := by
  have hW : Bx (∀ w', Fr S0 w w' → WS w' D sb x T E reg Wt We) := ⟨fun w' f => h.fr0 f⟩
  have hNL := Bx.mk (newLine_any rows ins at_ w h0 h1)
  have hFrom : Bx (∀ (k : Nat) wx, k < 24 → Calls Tryz.prog 61 #[I k, I (kd rows ins), I at_] wx fun e w' => e = .returned (I (fromP rows ins at_ k)) ∧ wx = w') := ⟨fun k wx hk => from_any rows ins at_ k wx hk h0 h1⟩
  have hImg : Bx (∀ S wx, Calls Tryz.prog 73 #[U S, I (kd rows ins), I at_] wx fun e w' => e = .returned (U (accB (imgB S rows ins at_) 24)) ∧ wx = w') := ⟨fun S wx => image_any S rows ins at_ wx h0 h1⟩
  have hbd : Bx (∀ k : Nat, k < 24 → 0 ≤ fromP rows ins at_ k → (fromP rows ins at_ k).toNat < 24) := ⟨fun k hk h => ((from_lines (ins := ins) h0 h1 hk).2 h).1⟩
  have hlaw : Bx (∀ s : ByteArray, s.size ≤ 40 → (readsP (movS (moveN rows ins at_) s)).1 &&& ~~~(accB (newB rows ins at_) 24) = accB (imgB (readsP s).1 rows ins at_) 24) := ⟨fun s hs => carries_law h0 h1 hs⟩
  have hT := Bx.mk hT
  have hok := Bx.mk hok
  clear h h0 h1
  generalize accB (newB rows ins at_) 24 = NL at *
  go_enter Tryz.func41, Tryz.ntmps41
  go_wp2_with (first
    | (go_at_call 71; refine hNL.out.mono ?_; clear hNL; rintro e _ ⟨rfl, rfl⟩))
  go_loopw [8] (fun c wr => ∃ k : Nat, k ≤ 24 ∧ c = I (k : Int) ∧ Bx (Fr S0 w wr)) (fun c _ => 24 - (intOf c).toNat)
  case atStart => exact ⟨0, by omega, rfl, ⟨Fr.refl _ _⟩⟩
  case round =>
    obtain ⟨k, hk, rfl, hf⟩ := hrel
    cases hlt : decide ((k : Int) < 24)
    · go_wp2_with fail
      go_ret
      exact ⟨rfl, hf.out⟩
    · have hk24 : k < 24 := by simp at hlt; omega
      have hkI : (k : Int) < 24 := by omega
      have hFk := Bx.mk (fun wx => hFrom.out k wx hk24)
      have hsome : Bx (∀ p : Nat, fromP rows ins at_ k = (p : Int) → T k = movS (moveN rows ins at_) (Wt p)) := ⟨fun p h => by rw [hT.out]; exact edT_some hk24 h⟩
      have hbk := Bx.mk (hbd.out k hk24)
      generalize fromP rows ins at_ k = q at *
      cases hq : decide (0 ≤ q)
      · go_wp2_with (first | (go_at_call 61; refine (hFk.out _).mono ?_; rintro e _ ⟨rfl, rfl⟩))
        go_roundw
        case rel => exact ⟨k + 1, by omega, by go_num, hf⟩
        case measure => simp [intOf]; omega
      · obtain ⟨p, hp⟩ : ∃ p : Nat, q = (p : Int) := ⟨q.toNat, by have : 0 ≤ q := (by simpa using hq); omega⟩
        subst hp
        have hp24 : p < 24 := hbk.out (by omega)
        have hTk := hsome.out p rfl
        have hWr := hW.out wr hf.out
        obtain ⟨c0, c1, c2, c3, c4, c5, c6, hl⟩ := hWr.de7
        have m0 := hWr.ws.cell p hp24
        have hlw := hWr.ws.lt
        have a1 : Bx (∀ wx, Fr S0 w wx → Calls Tryz.prog 27 #[pt D.M.me, I (k : Int)] wx fun e w' => e = .returned (.string (T k)) ∧ wx = w') := ⟨fun wx f => by have := yRaw_any (k : Int) wx (hW.out wx f).ey; rw [rawP_at hk24] at this; exact this⟩
        have a2 := Bx.mk (fun wx => readsL_any (Wt p) wx)
        have a3 := Bx.mk (fun wx => readsL_any (T k) wx)
        have hl2 := hlaw.out (Wt p) (hok.out p hp24)
        rw [← hTk] at hl2
        have hI := Bx.mk (fun wx => hImg.out (readsP (Wt p)).1 wx)
        have hDe : Bx (∀ w', Fr S0 w w' → w'.cell? ⟨D.d, 3, none⟩ = some (pt D.M.me) ∧ D.d < w'.heap.size) := ⟨fun w' f => ⟨(hW.out w' f).de7.2.2.2.1, (hW.out w' f).de7.2.2.2.2.2.2.2⟩⟩
        clear hWr hTk hsome
        generalize accB (imgB (readsP (Wt p)).1 rows ins at_) 24 = W1 at *
        generalize (readsP (Wt p)).1 = r1 at *
        generalize (readsP (T k)).1 = r2 at *
        generalize T k = s2 at a1 a3
        generalize Wt p = s1 at m0 a2
        have hne : (r2 &&& ~~~NL != W1) = false := by rw [hl2]; simp
        clear hl2
        go_wp2_with (first
          | (go_at_call 61; refine (hFk.out _).mono ?_; rintro e _ ⟨rfl, rfl⟩)
          | (go_at_call 72; refine (a2.out _).mono ?_; clear a2; rintro e w2 ⟨rfl, hf2⟩; have hf2 := Bx.mk (hf.out.trans hf2); obtain ⟨c3, hl⟩ := hDe.out _ hf2.out)
          | (go_at_call 73; refine (hI.out _).mono ?_; clear hI; rintro e _ ⟨rfl, rfl⟩)
          | (go_at_call 27; refine (a1.out _ hf2.out).mono ?_; clear a1; rintro e _ ⟨rfl, rfl⟩)
          | (go_at_call 72; refine (a3.out _).mono ?_; clear a3; rintro e w3 ⟨rfl, hf3⟩; have hf3 := Bx.mk (hf2.out.trans hf3)))
        go_roundw
        case rel => exact ⟨k + 1, by omega, by go_num, hf3⟩
        case measure => simp [intOf]; omega
end
end Go.Proofs.Qxb6500328aGreat
