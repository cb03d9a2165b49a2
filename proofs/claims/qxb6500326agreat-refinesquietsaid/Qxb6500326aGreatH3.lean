import Derived.Test.Qxb6500326aGreatH2
import Derived.Test.Qxb6500326aGreatGW1
namespace Go.Proofs.Qxb6500326aGreat
set_option maxRecDepth 100000
set_option linter.unusedVariables false
set_option linter.unusedSimpArgs false
open Go.RowKit Go.PlainAid
attribute [local go_sem] bv_and bv_or bv_eq_zero bv_ne_zero bv_bit bv_ne

/-- While a record is written: k cells are noted. -/
def noteTo (po : Nat → ByteArray) (s : Nat) (A B : Tx) (k i : Nat) : ByteArray := if i / 48 = s ∧ i / 2 % 24 < k then recT A B (i % 2) (i / 2 % 24) else po i
theorem noteTo_skip {po : Nat → ByteArray} {s k : Nat} {A B : Tx} (hs : s < 6) (hk : k < 24) (hd : ∀ side, side < 2 → po (placeP s k side) = es) (h : difB A B k = false) (i : Nat) : noteTo po s A B k i = noteTo po s A B (k + 1) i := by
  unfold noteTo
  by_cases e : i / 48 = s ∧ i / 2 % 24 = k
  · have hi : i = placeP s k (i % 2) := by unfold placeP; omega
    rw [if_neg (by omega), if_pos (by omega), e.2]
    have : recT A B (i % 2) k = es := by unfold recT; rw [if_neg (by rw [h]; simp)]
    rw [this]
    conv => lhs; rw [hi]
    exact hd _ (by omega)
  · by_cases e2 : i / 48 = s ∧ i / 2 % 24 < k
    · rw [if_pos e2, if_pos (by omega)]
    · rw [if_neg e2, if_neg (by omega)]
theorem noteTo_two {po : Nat → ByteArray} {s k : Nat} {A B : Tx} (hs : s < 6) (hk : k < 24) (h : difB A B k = true) (i : Nat) : upd (upd (noteTo po s A B k) (placeP s k 0) (A k)) (placeP s k 0 + 1) (B k) i = noteTo po s A B (k + 1) i := by
  unfold upd noteTo placeP
  by_cases e : i / 48 = s ∧ i / 2 % 24 = k
  · by_cases e1 : i = (s * 24 + k) * 2 + 0 + 1
    · rw [if_pos e1, if_pos (by omega), e.2, show i % 2 = 1 from by omega]
      unfold recT; rw [if_pos h]; rfl
    · rw [if_neg e1, if_pos (by omega), if_pos (by omega), e.2, show i % 2 = 0 from by omega]
      unfold recT; rw [if_pos h]; rfl
  · rw [if_neg (by omega), if_neg (by omega)]
    by_cases e2 : i / 48 = s ∧ i / 2 % 24 < k
    · rw [if_pos e2, if_pos (by omega)]
    · rw [if_neg e2, if_neg (by omega)]
theorem noteTo_all {po : Nat → ByteArray} {s : Nat} {A B : Tx} (i : Nat) : noteTo po s A B 24 i = insP po s A B i := by
  unfold noteTo insP
  by_cases e : i / 48 = s
  · rw [if_pos ⟨e, by omega⟩, if_pos e]
  · rw [if_neg (fun h => e h.1), if_neg e]
section
variable {R : RA} {base u r : Nat} {tu : Nat → BitVec 32} {po wt : Nat → ByteArray} {T : Tx} {P : World → Prop} {H : Nat → Tx}
/-- What a noted command leaves. -/
def Noted (H : Nat → Tx) (T : Tx) (u u' : Nat) (H' : Nat → Tx) : Prop := (u < 6 ∧ u' = u + 1 ∧ H' = upd H (u + 1) T) ∨ (u = 6 ∧ u' = 6 ∧ H' = upd (fun k => H (k + 1)) 6 T)
def NotedR (w : World) (R : RA) (wt : Tx) (H : Nat → Tx) (T : Tx) (u : Nat) : Prop := ∃ base' u' tu' po' H', RG w R base' u' 0 tu' po' wt ∧ Ring tu' po' base' u' 0 H' ∧ Noted H T u u' H'
set_option maxHeartbeats 16000000 in
theorem note_any (w : World) (h : RG w R base u r tu po wt) (hR : Ring tu po base u r H) (hwt : wt = H u) (hC : RawC R T P) (hP : P w) :
    Calls Tryz.prog 116 #[pt R.bk] w fun e w' => e = .returned (.tuple #[]) ∧ NotedR w' R wt H T u ∧ Fr (SR R) w w' := by
  have hG0 := Bx.mk h
  have hR0 := Bx.mk hR
  have hb6 := hR.b
  have hn6 := hR.n
  replace hwt := Bx.mk hwt
  replace hC := Bx.mk hC
  replace hP := Bx.mk hP
  have hz0 : Bx (Gr.U 0#32 = .int .u32 0) := ⟨by simp [uN]⟩
  have hBit : Bx (∀ (k : Nat) wx, k < 24 → Calls Tryz.prog 124 #[I k] wx fun e w' => e = .returned (Gr.U (Gr.bit k)) ∧ wx = w') := ⟨fun k wx hk => Gr.bit_any k wx hk⟩
  clear h hR
  go_enter Tryz.func116, Tryz.ntmps116
  go_wp2_with fail
  go_loopw [2] (fun _ wr => ∃ (r' : Nat) (tu' : Nat → BitVec 32) (po' : Nat → ByteArray), r' ≤ r ∧ Bx (RG wr R base u r' tu' po' wt) ∧ Bx (Ring tu' po' base u r' H) ∧ Bx (Fr (SR R) w wr)) (fun _ wr => (intOf ((wr.cell? ⟨R.bk, 5, none⟩).getD undef)).toNat)
  case atStart => exact ⟨r, tu, po, Nat.le_refl _, hG0, hR0, ⟨Fr.refl _ _⟩⟩
  case round =>
    clear hG0 hR0
    obtain ⟨r', tu', po', hr', hG, hRi, hf⟩ := hrel
    obtain ⟨c0, c1, c2, c3, c4, c5, c6, c7, hl, hz⟩ := hG.out.c8
    have z3 := hz 3
    have z4 := hz 4
    have z5 := hz 5
    clear hz
    rcases r' with _ | r'
    · have hr0 : decide (((0 : Nat) : Int) > 0) = false := by decide
      rcases Nat.lt_or_ge u 6 with hu | hu
      · have hu6 : ((u : Int) == 6) = false := by simp; omega
        have hcase : Bx (Noted H T u (u + 1) (upd H (u + 1) T)) := ⟨.inl ⟨hu, rfl, rfl⟩⟩
        have hs6 := slot_lt base u
        have hsd2 := Bx.mk (hRi.out.dead u (by omega) hu)
        have hSl := Bx.mk (slot_any u wr hG.out hRi.out.b (by omega))
        generalize hsq : slotP base u = s at hs6 hsd2 hSl
        have hsq := Bx.mk hsq
        have hPl : Bx (∀ (c : Nat) wx, c < 24 → Calls Tryz.prog 114 #[I s, I c] wx fun e w' => e = .returned (I (placeP s c 0 : Nat)) ∧ wx = w') := ⟨fun c wx hc => place_any s c wx hs6 hc⟩
        have hsI : (s : Int) < 6 := by omega
        have huI : (u : Int) < 6 := by omega
        go_wp2_with (first | (go_at_call 86; refine hSl.out.mono ?_; clear hSl; rintro e _ ⟨rfl, rfl⟩))
        have hG2 := hG
        have hR2 := hRi
        have hf2 := hf
        have hwt2 := hwt
        have hu2 := hu
        generalize wr = wr0 at *
        clear hG hRi hf c0 c1 c2 c3 c4 c5 c6 c7 hl z3 z4 z5

        go_loopw [4, 5] (fun x c wy => ∃ k : Nat, k ≤ 24 ∧ c = I (k : Int) ∧ x = Gr.U (accB (difB wt T) k) ∧ Bx (RG wy R base u 0 tu' (noteTo po' s wt T k) wt) ∧ Bx (Fr (SR R) wr0 wy)) (fun _ c _ => 24 - (intOf c).toNat)
        case atStart => exact ⟨0, by omega, rfl, hz0.out.symm, ⟨hG2.out.poEq (fun i _ => by unfold noteTo; rw [if_neg (by omega)])⟩, ⟨Fr.refl _ _⟩⟩
        case round =>
          obtain ⟨k, hk, rfl, rfl, hG, hfk⟩ := hrel
          obtain ⟨c0, c1, c2, c3, c4, c5, c6, c7, hl, hz⟩ := hG.out.c8
          have z4 := hz 4
          clear hz
          cases hlt : decide ((k : Int) < 24)
          · have hk24 : Bx (k = 24) := ⟨by simp at hlt; omega⟩
            have t0 := hG.out.tu.cell s hs6
            have tz := hG.out.tu.frozen s
            have htl := hG.out.tu.lt
            have hne := hG.out.n.n2
            have hfin := Bx.mk (bk_undos ((hG.out.setTu s (accB (difB wt T) k)).poEq (po' := insP po' s wt T) (fun i _ => by rw [hk24.out]; exact noteTo_all i)) (u + 1))
            have hffin : Bx (Fr (SR R) w ((wr.setCell ⟨R.tb, s, none⟩ (Gr.U (accB (difB wt T) k))).setCell ⟨R.bk, 4, none⟩ (I ((u + 1 : Nat) : Int)))) := ⟨(hf2.out.trans (fr_cell (fr_cell hfk.out (.inr (.inr (.inl rfl)))) (.inl rfl)))⟩
            have hac : Bx (accB (difB wt T) k = recS (H u) T) := ⟨by rw [hk24.out, ← hwt2.out]; rfl⟩
            generalize accB (difB wt T) k = X at *
            clear hfk hf2 hG hC hP hG2 c0 c1 c3 c5 c6 c7
            go_wp2_with fail
            go_end0
            refine ⟨rfl, ⟨base, u + 1, _, _, upd H (u + 1) T, hfin.out, ?_, ?_⟩, hffin.out⟩
            rotate_left
            · exact hcase.out
            · have hp := hR2.out.push hu2 T
              rw [hsq.out] at hp
              rw [hac.out, hwt2.out]
              exact hp
          · have hk24 : k < 24 := by simp at hlt; omega
            have hkI : (k : Int) < 24 := by omega
            have hv := Bx.mk (hC.out.raw (hC.out.fr hP.out (hf2.out.trans hfk.out)) k hk24)
            have m0 := hG.out.wa.cell k hk24
            have hlw := hG.out.wa.lt
            have hXb := Bx.mk (accB_t (p := difB wt T) (k := k))
            have hXf := Bx.mk (accB_f (p := difB wt T) (k := k))
            cases hb : difB wt T k
            · have hgo : Bx (RG wr R base u 0 tu' (noteTo po' s wt T (k + 1)) wt) := ⟨hG.out.poEq (fun i _ => noteTo_skip hs6 hk24 (fun side hside => hsd2.out.po k hk24 side hside) hb i)⟩
              have hac := Bx.mk (hXf.out hb)
              have hbb := Bx.mk hb
              have hq2 : ((T k).toList == (wt k).toList) = true := by
                have hb := hbb.out
                unfold difB at hb
                have hl : (wt k).toList = (T k).toList := by simpa using hb
                rw [hl]; simp
              clear hb hbb hXb hXf
              generalize accB (difB wt T) k = X at *
              generalize hTk : T k = y at hv hq2
              generalize hwk : wt k = z at m0 hq2
              clear hTk hwk
              go_wp2_with (first | (go_at_call 52; refine hv.out.mono ?_; clear hv; rintro e _ ⟨rfl, rfl⟩))
              go_roundw
              case rel => exact ⟨k + 1, by omega, by go_num, by rw [hac.out], hgo, hfk⟩
              case measure => simp [intOf]; omega
            · have hpl := place_lt (s := s) (c := k) (side := 1) hs6 hk24 (by omega)
              have e1 : placeP s k 1 = placeP s k 0 + 1 := rfl
              rw [e1] at hpl
              have hPk := Bx.mk (fun wx => hPl.out k wx hk24)
              have hBk := Bx.mk (fun wx => hBit.out k wx hk24)
              have hac := Bx.mk (hXb.out hb)
              have hbb := Bx.mk hb
              have hq2 : ((T k).toList == (wt k).toList) = false := by
                have hb := hbb.out
                unfold difB at hb
                have hl : ¬ (wt k).toList = (T k).toList := by simpa using hb
                simp only [beq_eq_false_iff_ne]
                exact fun e => hl e.symm
              have hG2' := Bx.mk (((hG.out.setPo (placeP s k 0) (wt k)).setPo (placeP s k 0 + 1) (T k)).poEq (po' := noteTo po' s wt T (k + 1)) (fun i _ => noteTo_two hs6 hk24 hb i))
              have hf2' : Bx (Fr (SR R) wr0 ((wr.setCell ⟨R.pb, placeP s k 0, none⟩ (.string (wt k))).setCell ⟨R.pb, placeP s k 0 + 1, none⟩ (.string (T k)))) := ⟨fr_cell (fr_cell hfk.out (.inr (.inl rfl))) (.inr (.inl rfl))⟩
              clear hb hbb hXb hXf
              have p0 := hG.out.po.cell (placeP s k 0) (by omega)
              have p1 := hG.out.po.cell (placeP s k 0 + 1) (by omega)
              have z0 := hG.out.po.frozen (placeP s k 0)
              have z1 := hG.out.po.frozen (placeP s k 0 + 1)
              generalize placeP s k 0 = p at *
              generalize accB (difB wt T) k = X at *
              generalize hTk : T k = y at hv hq2 hG2' hf2'
              generalize hwk : wt k = z at m0 hq2 hG2' hf2'
              clear hTk hwk
              have hpI : (p : Int) < 287 := by omega
              have hpl2 := hG.out.po.lt
              have hne := hG.out.n.n1
              have hne6 := hG.out.n.n6
              go_wp2_with (first | (go_at_call 52; refine hv.out.mono ?_; clear hv; rintro e _ ⟨rfl, rfl⟩) | (go_at_call 114; refine (hPk.out _).mono ?_; clear hPk; rintro e _ ⟨rfl, rfl⟩))
              go_region
              go_wp2_with (first | (go_at_call 124; refine (hBk.out _).mono ?_; clear hBk; rintro e _ ⟨rfl, rfl⟩))
              go_roundw
              case rel => exact ⟨k + 1, by omega, by go_num, by rw [← hac.out]; rfl, ⟨hG2'.out.fr0 ⟨rfl, rfl, rfl, Nat.le_refl _, fun _ _ _ => rfl⟩⟩, ⟨hf2'.out.trans ⟨rfl, rfl, rfl, Nat.le_refl _, fun _ _ _ => rfl⟩⟩⟩
              case measure => simp [intOf]; omega
      · have hu6 : Bx (u = 6) := ⟨by omega⟩
        have hcase : Bx (Noted H T u (5 + 1) (upd (fun k => H (k + 1)) (5 + 1) T)) := ⟨.inr ⟨hu6.out, rfl, rfl⟩⟩
        have hu5 : Bx (u = 5 + 1) := ⟨by omega⟩
        have hR5 : Bx (Ring tu' po' base (5 + 1) 0 H) := ⟨hu5.out ▸ hRi.out⟩
        have hb0 : slotP base 0 = base := by unfold slotP; omega
        have hsoft := Bx.mk ((hb0 ▸ hRi.out.live 0 (by omega)).soft)
        have hR2 := Bx.mk (hR5.out.oldest)
        have hW := Bx.mk (wipe_any base wr hG.out hb6 hsoft.out)
        have hs6 := slot_lt (slotP base 1) 5
        have hsd2 := Bx.mk (hR2.out.dead 5 (by omega) (by omega))
        have hSl1 : Bx (∀ wx, RG wx R base u 0 (upd tu' base 0#32) (clrP po' base) wt → Calls Tryz.prog 86 #[pt R.bk, I 1] wx fun e w' => e = .returned (I (slotP base 1 : Nat)) ∧ wx = w') := ⟨fun wx hx => slot_any 1 wx hx hb6 (by omega)⟩
        have hSl : Bx (∀ wx, RG wx R (slotP base 1) 5 0 (upd tu' base 0#32) (clrP po' base) wt → Calls Tryz.prog 86 #[pt R.bk, I 5] wx fun e w' => e = .returned (I (slotP (slotP base 1) 5 : Nat)) ∧ wx = w') := ⟨fun wx hx => slot_any 5 wx hx (slot_lt _ _) (by omega)⟩
        generalize hsq : slotP (slotP base 1) 5 = s at hs6 hsd2 hSl
        have hsq := Bx.mk hsq
        generalize hb2 : slotP base 1 = base2 at hR2 hSl1 hSl hsq
        clear hb2 hb0
        have hPl : Bx (∀ (c : Nat) wx, c < 24 → Calls Tryz.prog 114 #[I s, I c] wx fun e w' => e = .returned (I (placeP s c 0 : Nat)) ∧ wx = w') := ⟨fun c wx hc => place_any s c wx hs6 hc⟩
        have hsI : (s : Int) < 6 := by omega
        have hwt2 : Bx (wt = H (5 + 1)) := ⟨by rw [← hu5.out]; exact hwt.out⟩
        have huI : (u : Int) = 6 := by omega
        rw [huI] at c4
        have hu2 : 5 < 6 := by omega
        go_wp2_with (first
          | (go_at_call 152; refine hW.out.mono ?_; clear hW; rintro e wz ⟨rfl, hGz, hfz⟩; have hGz := Bx.mk hGz; have hfz := Bx.mk (hf.out.trans hfz); clear hG c0 c1 c2 c3 c4 c5 c6 c7 hl z3 z4 z5 hf
             obtain ⟨c0, c1, c2, c3, c4, c5, c6, c7, hl, hz⟩ := hGz.out.c8; rw [huI] at c4; have z3 := hz 3; have z4 := hz 4; clear hz
             have hG2 := Bx.mk (bk_undos (bk_base hGz.out base2) 5)
             have hSq := Bx.mk (hSl.out _ hG2.out); clear hSl
             have hS1 := Bx.mk (hSl1.out _ hGz.out); clear hSl1
             have hf2 : Bx (Fr (SR R) w ((wz.setCell ⟨R.bk, 3, none⟩ (I base2)).setCell ⟨R.bk, 4, none⟩ (I ((5 : Nat) : Int)))) := ⟨fr_cell (fr_cell hfz.out (.inl rfl)) (.inl rfl)⟩)
          | (go_at_call 86; refine hS1.out.mono ?_; clear hS1; rintro e _ ⟨rfl, rfl⟩)
          | (go_at_call 86; refine hSq.out.mono ?_; clear hSq; rintro e _ ⟨rfl, rfl⟩))
        generalize (wz.setCell ⟨R.bk, 3, none⟩ (I base2)).setCell ⟨R.bk, 4, none⟩ (I ((5 : Nat) : Int)) = wq at *
        clear hGz hfz c0 c1 c2 c3 c4 c5 c6 c7 hl z3 z4

        go_loopw [4, 5] (fun x c wy => ∃ k : Nat, k ≤ 24 ∧ c = I (k : Int) ∧ x = Gr.U (accB (difB wt T) k) ∧ Bx (RG wy R base2 5 0 (upd tu' base 0#32) (noteTo (clrP po' base) s wt T k) wt) ∧ Bx (Fr (SR R) wq wy)) (fun _ c _ => 24 - (intOf c).toNat)
        case atStart => exact ⟨0, by omega, rfl, hz0.out.symm, ⟨hG2.out.poEq (fun i _ => by unfold noteTo; rw [if_neg (by omega)])⟩, ⟨Fr.refl _ _⟩⟩
        case round =>
          obtain ⟨k, hk, rfl, rfl, hG, hfk⟩ := hrel
          obtain ⟨c0, c1, c2, c3, c4, c5, c6, c7, hl, hz⟩ := hG.out.c8
          have z4 := hz 4
          clear hz
          cases hlt : decide ((k : Int) < 24)
          · have hk24 : Bx (k = 24) := ⟨by simp at hlt; omega⟩
            have t0 := hG.out.tu.cell s hs6
            have tz := hG.out.tu.frozen s
            have htl := hG.out.tu.lt
            have hne := hG.out.n.n2
            have hfin := Bx.mk (bk_undos ((hG.out.setTu s (accB (difB wt T) k)).poEq (po' := insP (clrP po' base) s wt T) (fun i _ => by rw [hk24.out]; exact noteTo_all i)) (5 + 1))
            have hffin : Bx (Fr (SR R) w ((wr.setCell ⟨R.tb, s, none⟩ (Gr.U (accB (difB wt T) k))).setCell ⟨R.bk, 4, none⟩ (I ((5 + 1 : Nat) : Int)))) := ⟨(hf2.out.trans (fr_cell (fr_cell hfk.out (.inr (.inr (.inl rfl)))) (.inl rfl)))⟩
            have hac : Bx (accB (difB wt T) k = recS (H (5 + 1)) T) := ⟨by rw [hk24.out, ← hwt2.out]; rfl⟩
            generalize accB (difB wt T) k = X at *
            clear hfk hf2 hG hC hP hG2 c0 c1 c3 c5 c6 c7
            go_wp2_with fail
            go_end0
            refine ⟨rfl, ⟨base2, 5 + 1, _, _, upd (fun k => H (k + 1)) (5 + 1) T, hfin.out, ?_, ?_⟩, hffin.out⟩
            rotate_left
            · exact hcase.out
            · have hp := hR2.out.push hu2 T
              rw [hsq.out] at hp
              rw [hac.out, hwt2.out]
              exact hp
          · have hk24 : k < 24 := by simp at hlt; omega
            have hkI : (k : Int) < 24 := by omega
            have hv := Bx.mk (hC.out.raw (hC.out.fr hP.out (hf2.out.trans hfk.out)) k hk24)
            have m0 := hG.out.wa.cell k hk24
            have hlw := hG.out.wa.lt
            have hXb := Bx.mk (accB_t (p := difB wt T) (k := k))
            have hXf := Bx.mk (accB_f (p := difB wt T) (k := k))
            cases hb : difB wt T k
            · have hgo : Bx (RG wr R base2 5 0 (upd tu' base 0#32) (noteTo (clrP po' base) s wt T (k + 1)) wt) := ⟨hG.out.poEq (fun i _ => noteTo_skip hs6 hk24 (fun side hside => hsd2.out.po k hk24 side hside) hb i)⟩
              have hac := Bx.mk (hXf.out hb)
              have hbb := Bx.mk hb
              have hq2 : ((T k).toList == (wt k).toList) = true := by
                have hb := hbb.out
                unfold difB at hb
                have hl : (wt k).toList = (T k).toList := by simpa using hb
                rw [hl]; simp
              clear hb hbb hXb hXf
              generalize accB (difB wt T) k = X at *
              generalize hTk : T k = y at hv hq2
              generalize hwk : wt k = z at m0 hq2
              clear hTk hwk
              go_wp2_with (first | (go_at_call 52; refine hv.out.mono ?_; clear hv; rintro e _ ⟨rfl, rfl⟩))
              go_roundw
              case rel => exact ⟨k + 1, by omega, by go_num, by rw [hac.out], hgo, hfk⟩
              case measure => simp [intOf]; omega
            · have hpl := place_lt (s := s) (c := k) (side := 1) hs6 hk24 (by omega)
              have e1 : placeP s k 1 = placeP s k 0 + 1 := rfl
              rw [e1] at hpl
              have hPk := Bx.mk (fun wx => hPl.out k wx hk24)
              have hBk := Bx.mk (fun wx => hBit.out k wx hk24)
              have hac := Bx.mk (hXb.out hb)
              have hbb := Bx.mk hb
              have hq2 : ((T k).toList == (wt k).toList) = false := by
                have hb := hbb.out
                unfold difB at hb
                have hl : ¬ (wt k).toList = (T k).toList := by simpa using hb
                simp only [beq_eq_false_iff_ne]
                exact fun e => hl e.symm
              have hG2' := Bx.mk (((hG.out.setPo (placeP s k 0) (wt k)).setPo (placeP s k 0 + 1) (T k)).poEq (po' := noteTo (clrP po' base) s wt T (k + 1)) (fun i _ => noteTo_two hs6 hk24 hb i))
              have hf2' : Bx (Fr (SR R) wq ((wr.setCell ⟨R.pb, placeP s k 0, none⟩ (.string (wt k))).setCell ⟨R.pb, placeP s k 0 + 1, none⟩ (.string (T k)))) := ⟨fr_cell (fr_cell hfk.out (.inr (.inl rfl))) (.inr (.inl rfl))⟩
              clear hb hbb hXb hXf
              have p0 := hG.out.po.cell (placeP s k 0) (by omega)
              have p1 := hG.out.po.cell (placeP s k 0 + 1) (by omega)
              have z0 := hG.out.po.frozen (placeP s k 0)
              have z1 := hG.out.po.frozen (placeP s k 0 + 1)
              generalize placeP s k 0 = p at *
              generalize accB (difB wt T) k = X at *
              generalize hTk : T k = y at hv hq2 hG2' hf2'
              generalize hwk : wt k = z at m0 hq2 hG2' hf2'
              clear hTk hwk
              have hpI : (p : Int) < 287 := by omega
              have hpl2 := hG.out.po.lt
              have hne := hG.out.n.n1
              have hne6 := hG.out.n.n6
              go_wp2_with (first | (go_at_call 52; refine hv.out.mono ?_; clear hv; rintro e _ ⟨rfl, rfl⟩) | (go_at_call 114; refine (hPk.out _).mono ?_; clear hPk; rintro e _ ⟨rfl, rfl⟩))
              go_region
              go_wp2_with (first | (go_at_call 124; refine (hBk.out _).mono ?_; clear hBk; rintro e _ ⟨rfl, rfl⟩))
              go_roundw
              case rel => exact ⟨k + 1, by omega, by go_num, by rw [← hac.out]; rfl, ⟨hG2'.out.fr0 ⟨rfl, rfl, rfl, Nat.le_refl _, fun _ _ _ => rfl⟩⟩, ⟨hf2'.out.trans ⟨rfl, rfl, rfl, Nat.le_refl _, fun _ _ _ => rfl⟩⟩⟩
              case measure => simp [intOf]; omega
    · skip
      have hSl : Bx (∀ wx, Fr S0 (wr.setCell ⟨R.bk, 5, none⟩ (I r')) wx → Calls Tryz.prog 86 #[pt R.bk, I ((u : Int) + (r' : Int))] wx fun e w' => e = .returned (I (slotP base (u + r') : Nat)) ∧ wx = w') := ⟨fun wx hx => by
        have := slot_any (u + r') wx ((bk_redos hG.out r').fr0 hx) hb6 (by omega)
        rw [show ((u + r' : Nat) : Int) = (u : Int) + (r' : Int) from by omega] at this
        exact this⟩
      have hG1 := Bx.mk (bk_redos hG.out r')
      have hf1 : Bx (Fr (SR R) w (wr.setCell ⟨R.bk, 5, none⟩ (I r'))) := ⟨fr_cell hf.out (.inl rfl)⟩
      have hsoft := Bx.mk ((hRi.out.live (u + r') (by omega)).soft)
      have hR2 := Bx.mk (hRi.out.drop)
      have hs6 := slot_lt base (u + r')
      generalize slotP base (u + r') = s at hSl hsoft hR2 hs6
      have hrI : (r' : Int) < 6 := by omega
      have huI : (u : Int) ≤ 6 := by omega
      have hr0 : decide (((r' + 1 : Nat) : Int) > 0) = true := decide_eq_true (by omega)
      have hm : Bx ((intOf ((wr.cell? ⟨R.bk, 5, none⟩).getD undef)).toNat = r' + 1) := ⟨by rw [c5]; simp [intOf]⟩
      go_wp2_with fail
      generalize (wr.setCell ⟨R.bk, 5, none⟩ (I r')) = wq at hSl hG1 hf1 ⊢
      have fd : Bx (∀ n, Fr S0 wq (wq.drewN n)) := ⟨fun n => (Fr.refl S0 wq).drewN n⟩
      clear c0 c1 c2 c3 c4 c5 c6 c7 hl z3 z4 z5
      obtain ⟨c0, c1, c2, c3, c4, c5, c6, c7, hl, hz⟩ := hG1.out.c8
      clear hz
      go_quiet (first | (go_at_call 86; exact (hSl.out _ (fd.out _)).mono (fun e w' h => ⟨h.1, _, h.2.symm⟩)))
      have hW := Bx.mk (fun wx hx => wipe_any s wx (hG1.out.fr0 hx) hs6 hsoft.out)
      clear hSl c0 c1 c2 c3 c4 c5 c6 c7 hl
      go_wp2_with (first | (go_at_call 152; refine (hW.out _ (fd.out _)).mono ?_; clear hW; rintro e wz ⟨rfl, hGz, hfz⟩; have hGz := Bx.mk hGz; have hfz := Bx.mk ((hf1.out.drewN _).trans hfz)))
      go_roundw
      case rel => exact ⟨r', _, _, by omega, hGz, hR2, hfz⟩
      case measure =>
        obtain ⟨-, -, -, -, -, c5, -⟩ := hGz.out.c8
        rw [hm.out, c5]; simp [intOf]
end
end Go.Proofs.Qxb6500326aGreat
