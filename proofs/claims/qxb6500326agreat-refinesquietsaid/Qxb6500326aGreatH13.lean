import Derived.Test.Qxb6500326aGreatH12
import Derived.Test.Qxb6500326aGreatH5
import Derived.Test.Qxb6500326aGreatJ7
namespace Go.Proofs.Qxb6500326aGreat
set_option maxRecDepth 100000
set_option linter.unusedVariables false
set_option linter.unusedSimpArgs false
open Go.RowKit Go.PlainAid
/-- The walk over the cells and the text side by side. -/
structure Lwk (t : ByteArray) (S : Tx) (k i : Nat) : Prop where
  sv : ∃ last S', SvT t i last S' ∧ ∀ c, k ≤ c → S c = S' c
  nx : i < t.size → (k : Int) ≤ numP (bt t i) (bt t (i + 1))
theorem lwk_start {t : ByteArray} {S : Tx} (h : SvT t 0 (-1) S) : Lwk t S 0 0 := ⟨⟨_, _, h, fun _ _ => rfl⟩, fun hi => by
  obtain ⟨c, m, S2, p, -, -⟩ := svt_inv h hi
  rw [p.e1]; omega⟩
/-- What stands at i. -/
theorem Lwk.at {t : ByteArray} {S : Tx} {k i : Nat} (h : Lwk t S k i) (hi : i < t.size) : ∃ c m : Nat, numP (bt t i) (bt t (i + 1)) = c ∧ numP (bt t (i + 2)) (bt t (i + 3)) = m ∧ k ≤ c ∧ c < 24 ∧ 1 ≤ m ∧ m ≤ 40 ∧ i + 4 + m ≤ t.size ∧
    (c = k → S k = t.extract (i + 4) (i + 4 + m) ∧ Lwk t S (k + 1) (i + 4 + m)) ∧ (k < c → S k = es ∧ Lwk t S (k + 1) i) := by
  obtain ⟨⟨last, S', hs, he⟩, hn⟩ := h
  obtain ⟨c, m, S2, p, h2, h3⟩ := svt_inv hs hi
  have hkc := hn hi
  rw [p.e1] at hkc
  refine ⟨c, m, p.e1, p.e2, by omega, p.c24, p.m1, p.m40, p.fit, fun e => ?_, fun e => ?_⟩
  · subst e
    refine ⟨by rw [he c (Nat.le_refl _), h3, upd_same], ⟨⟨_, S2, h2, fun d hd => by rw [he d (by omega), h3, upd_other _ _ (by omega)]⟩, fun hi2 => ?_⟩⟩
    obtain ⟨c', m', S3, p', -, -⟩ := svt_inv h2 hi2
    rw [p'.e1]; have := p'.l; omega
  · refine ⟨by rw [he k (Nat.le_refl _), h3, upd_other _ _ (by omega), svt_low h2 k (.inl (by omega))], ⟨⟨last, S', hs, fun d hd => he d (by omega)⟩, fun _ => by rw [p.e1]; omega⟩⟩
theorem Lwk.end {t : ByteArray} {S : Tx} {k : Nat} (h : Lwk t S k t.size) : S k = es ∧ Lwk t S (k + 1) t.size := by
  obtain ⟨⟨last, S', hs, he⟩, hn⟩ := h
  exact ⟨by rw [he k (Nat.le_refl _), svt_end' hs], ⟨⟨last, S', hs, fun d hd => he d (by omega)⟩, fun hi => absurd hi (by omega)⟩⟩
theorem toK_same {S T : Tx} {k : Nat} (h : ((T k).toList == (S k).toList) = true) : toK S T (k + 1) = toK S T k := by
  rw [← toK_next]
  funext c
  by_cases e : c = k
  · subst e
    rw [upd_same]
    unfold toK
    rw [if_neg (by omega)]
    have hl : (T c).toList = (S c).toList := by simpa using h
    rw [ByteArray.toList_eq, ByteArray.toList_eq] at hl
    exact (ByteArray.ext (Array.toList_inj.1 hl)).symm
  · rw [upd_other _ _ e]
theorem toK_at (S T : Tx) (k : Nat) : toK S T k k = T k := by unfold toK; rw [if_neg (by omega)]
section
variable {w w' : World} {R : RA} {A : XA} {u r : Nat} {T S : Tx} {H : Nat → Tx}
set_option maxHeartbeats 2000000 in
theorem bkLoad_long (t : ByteArray) (w : World) (hs : 1056 < t.size) : Calls Tryz.prog 96 #[pt R.bk, .string t] w fun e w' => e = .returned (I 1) ∧ w = w' := by
  have hd : decide ((1056 : Int) < (t.size : Int)) = true := decide_eq_true (by omega)
  go_enter Tryz.func96, Tryz.ntmps96
  go_wp2_with fail
  go_ret
  exact ⟨rfl, rfl⟩
set_option maxHeartbeats 2000000 in
theorem bkLoad_no (t : ByteArray) (w : World) (hs : t.size ≤ 1056) (hS : ¬ ∃ S, SvT t 0 (-1) S) : Calls Tryz.prog 96 #[pt R.bk, .string t] w fun e w' => e = .returned (I 12) ∧ w = w' := by
  have hd : decide ((1056 : Int) < (t.size : Int)) = false := decide_eq_false (by omega)
  have hJ := Bx.mk (judge_no t w hs hS)
  clear hS
  go_enter Tryz.func96, Tryz.ntmps96
  go_wp2_with (first | (go_at_call 118; refine hJ.out.mono ?_; clear hJ; rintro e _ ⟨rfl, rfl⟩))
  go_ret
  exact ⟨rfl, rfl⟩
set_option maxHeartbeats 32000000 in
theorem bkLoad_yes (t : ByteArray) (w : World) (h : BK w R A T H u r) (hs : t.size ≤ 1056) (hS : SvT t 0 (-1) S) : Calls Tryz.prog 96 #[pt R.bk, .string t] w fun e w' => e = .returned (I 0) ∧ BK w' R A S (fun _ => S) 0 0 ∧ Fr (SBk R A) w w' := by
  have hd : decide ((1056 : Int) < (t.size : Int)) = false := decide_eq_false (by omega)
  have hJ := Bx.mk (judge_yes t S w hs hS)
  have hPr : Bx (∀ (i : Nat) wx, i + 1 < t.size → Calls Tryz.prog 119 #[.string t, I i] wx fun e w' => e = .returned (I (numP (bt t i) (bt t (i + 1)))) ∧ wx = w') := ⟨fun i wx hi => pair_any t i wx hi (by omega)⟩
  have hTS := Bx.mk hS.tx
  have hTT := Bx.mk h.tx
  have hL0 := Bx.mk (lwk_start hS)
  obtain ⟨base, tu, po, wt, hg, hr⟩ := h.rg
  have hG0 := Bx.mk hg
  have hR0 := Bx.mk hr
  have hap := Bx.mk h.ap
  have hxe := Bx.mk h.xe
  have hX0 := Bx.mk h.ed
  have htI : (t.size : Int) ≤ 1056 := by omega
  have hcel : Bx (∀ wx, Fr (SE A) w wx → wx.cell? ⟨R.bk, 0, none⟩ = some (pt A.xe) ∧ R.bk < wx.heap.size ∧ RG wx R base u r tu po wt) := ⟨fun wx hx => by
    have h1 := hG0.out.fr hx (fun k hk => hap.out k hk)
    obtain ⟨c0, c1, c2, c3, c4, c5, c6, c7, hl, -⟩ := h1.c8
    rw [hxe.out] at c0
    exact ⟨c0, hl, h1⟩⟩
  clear h hS hg hr
  go_enter Tryz.func96, Tryz.ntmps96
  go_wp2_with (first | (go_at_call 118; refine hJ.out.mono ?_; clear hJ; rintro e _ ⟨rfl, rfl⟩))
  go_loopw [5, 6, 7] (fun i nx c wr => ∃ (k i' : Nat) (n : Int), k ≤ 24 ∧ i' ≤ t.size ∧ i = I (i' : Int) ∧ nx = I n ∧ c = I (k : Int) ∧ Bx (Lwk t S k i') ∧ Bx (n = -1 ∨ (i' < t.size ∧ n = numP (bt t i') (bt t (i' + 1)))) ∧ Bx (XB wr A (toK S T k)) ∧ Bx (Fr (SE A) w wr)) (fun _ _ c _ => 24 - (intOf c).toNat)
  case atStart => exact ⟨0, 0, -1, by omega, by omega, rfl, rfl, rfl, hL0, ⟨.inl rfl⟩, ⟨by rw [toK_zero]; exact hX0.out⟩, ⟨Fr.refl _ _⟩⟩
  case round =>
    clear hL0 hX0
    obtain ⟨k, i, n, hk, hi, rfl, rfl, rfl, hL, hn, hX, hf⟩ := hrel
    obtain ⟨c0, hl, hG⟩ := hcel.out wr hf.out
    replace hG := Bx.mk hG
    have hiI : (i : Int) ≤ 1056 := by omega
    cases hlt : decide ((k : Int) < 24)
    · have hk24 : Bx (k = 24) := ⟨by simp at hlt; omega⟩
      have hF := Bx.mk (forget_any wr hG.out hR0.out)
      clear c0 hl
      go_wp2_with (first | (go_at_call 120; refine hF.out.mono ?_; clear hF; rintro e w2 ⟨rfl, hE, hf2⟩; replace hE := Bx.mk hE; replace hf2 := Bx.mk hf2))
      go_ret
      obtain ⟨tu', po', g1, g2⟩ := hE.out
      have hX2 : XB w2 A S := by
        have := hX.out.fr hf2.out (fun k hk e => hap.out k e hk)
        rw [hk24.out, toK_all hTS.out hTT.out] at this
        exact this
      exact ⟨rfl, ⟨hxe.out, hX2, ⟨0, tu', po', wt, g1, g2 _⟩, rfl, fun _ _ => hTS.out, hap.out⟩, (hf.out.mono (fun k hk => .inr hk)).trans (hf2.out.mono (fun k hk => .inl hk))⟩
    · have hk24 : k < 24 := by simp at hlt; omega
      have hkI : (k : Int) < 24 := by omega
      have hv : Bx (Calls Tryz.prog 52 #[pt A.xe, I (k : Int)] wr fun e w' => e = .returned (.string (T k)) ∧ wr = w') := ⟨by have := xb_raw hX.out (k : Int); rw [rawP_at hk24, toK_at] at this; exact this⟩
      have hSet : Bx (Calls Tryz.prog 67 #[pt A.xe, I (k : Int), .string (S k)] wr (Did wr (SE A) 0 (fun w' => XB w' A (toK S T (k + 1))))) := ⟨by
        have := xb_set hX.out (k : Int) (S k)
        rw [setP_ok hk24 (hTS.out.size k), setT_ok hk24 (hTS.out.size k), toK_next] at this
        exact this⟩
      have hsame := Bx.mk (toK_same (S := S) (T := T) (k := k))
      rcases Nat.lt_or_ge i t.size with hit | hit
      · obtain ⟨c, m, e1, e2, hkc, hc24, hm1, hm40, hfit, hat, hbe⟩ := hL.out.at hit
        have hltd : decide ((i : Int) < (t.size : Int)) = true := by simp; omega
        have p1 := Bx.mk (fun wx => hPr.out i wx (by omega))
        have p2 := Bx.mk (fun wx => hPr.out (i + 2) wx (by omega))
        rw [e1] at p1
        rw [show i + 2 + 1 = i + 3 from rfl, e2] at p2
        have hn2 : n = -1 ∨ n = (c : Int) := by rcases hn.out with e | ⟨_, e⟩; · exact .inl e
                                                · exact .inr (by rw [e, e1])
        replace e1 := Bx.mk e1
        have hmI : (m : Int) ≤ 40 := by omega
        have hfitI : (i : Int) + 4 + (m : Int) ≤ (t.size : Int) := by omega
        clear hn hL e2
        replace hn2 := Bx.mk hn2
        by_cases hck : c = k
        · obtain ⟨hz, hl2⟩ := hat hck
          replace hl2 := Bx.mk hl2
          have hze := Bx.mk hz
          rw [hz] at hSet
          clear hat hbe e1 hz
          have qe : ((c : Int) == (k : Int)) = true := by simp [hck]
          replace hck := Bx.mk hck
          rcases hn2.out with rfl | rfl
          · cases hq : ((T k).toList == (t.extract (i + 4) (i + 4 + m)).toList)
            · clear hsame
              generalize T k = y at *
              go_wp2_with (first
                | (go_at_call 119; refine (p1.out _).mono ?_; clear p1; rintro e _ ⟨rfl, rfl⟩)
                | (go_at_call 119; refine (p2.out _).mono ?_; clear p2; rintro e _ ⟨rfl, rfl⟩)
                | (go_at_call 52; refine hv.out.mono ?_; clear hv; rintro e _ ⟨rfl, rfl⟩)
                | (go_at_call 67; refine hSet.out.mono ?_; clear hSet; rintro e w2 ⟨rfl, hX2, hf2⟩; replace hX2 := Bx.mk hX2; replace hf2 := Bx.mk (hf.out.trans hf2)))
              go_roundw
              case rel => exact ⟨k + 1, i + 4 + m, -1, by omega, by omega, by go_num, by first | rfl | go_num, by go_num, hl2, ⟨.inl rfl⟩, hX2, hf2⟩
              case measure => simp [intOf]; omega
            · have hX2 : Bx (XB wr A (toK S T (k + 1))) := ⟨by rw [hsame.out (by rw [hze.out]; exact hq)]; exact hX.out⟩
              clear hsame
              generalize T k = y at *
              go_wp2_with (first
                | (go_at_call 119; refine (p1.out _).mono ?_; clear p1; rintro e _ ⟨rfl, rfl⟩)
                | (go_at_call 119; refine (p2.out _).mono ?_; clear p2; rintro e _ ⟨rfl, rfl⟩)
                | (go_at_call 52; refine hv.out.mono ?_; clear hv; rintro e _ ⟨rfl, rfl⟩))
              go_roundw
              case rel => exact ⟨k + 1, i + 4 + m, -1, by omega, by omega, by go_num, by first | rfl | go_num, by go_num, hl2, ⟨.inl rfl⟩, hX2, hf⟩
              case measure => simp [intOf]; omega
            
          · have hn0 : decide ((c : Int) < 0) = false := decide_eq_false (by omega)
            cases hq : ((T k).toList == (t.extract (i + 4) (i + 4 + m)).toList)
            · clear hsame
              generalize T k = y at *
              go_wp2_with (first
                | (go_at_call 119; refine (p2.out _).mono ?_; clear p2; rintro e _ ⟨rfl, rfl⟩)
                | (go_at_call 52; refine hv.out.mono ?_; clear hv; rintro e _ ⟨rfl, rfl⟩)
                | (go_at_call 67; refine hSet.out.mono ?_; clear hSet; rintro e w2 ⟨rfl, hX2, hf2⟩; replace hX2 := Bx.mk hX2; replace hf2 := Bx.mk (hf.out.trans hf2)))
              go_roundw
              case rel => exact ⟨k + 1, i + 4 + m, -1, by omega, by omega, by go_num, by first | rfl | go_num, by go_num, hl2, ⟨.inl rfl⟩, hX2, hf2⟩
              case measure => simp [intOf]; omega
            · have hX2 : Bx (XB wr A (toK S T (k + 1))) := ⟨by rw [hsame.out (by rw [hze.out]; exact hq)]; exact hX.out⟩
              clear hsame
              generalize T k = y at *
              go_wp2_with (first
                | (go_at_call 119; refine (p2.out _).mono ?_; clear p2; rintro e _ ⟨rfl, rfl⟩)
                | (go_at_call 52; refine hv.out.mono ?_; clear hv; rintro e _ ⟨rfl, rfl⟩))
              go_roundw
              case rel => exact ⟨k + 1, i + 4 + m, -1, by omega, by omega, by go_num, by first | rfl | go_num, by go_num, hl2, ⟨.inl rfl⟩, hX2, hf⟩
              case measure => simp [intOf]; omega
            
        · obtain ⟨hz, hl2⟩ := hbe (by omega)
          replace hl2 := Bx.mk hl2
          have hze := Bx.mk hz
          rw [hz] at hSet
          clear hat hbe hz
          have qe : ((c : Int) == (k : Int)) = false := by simp; omega
          replace hck := Bx.mk hck
          rcases hn2.out with rfl | rfl
          · cases hq : ((T k).toList == [])
            · clear hsame
              generalize T k = y at *
              go_wp2_with (first
                | (go_at_call 119; refine (p1.out _).mono ?_; clear p1; rintro e _ ⟨rfl, rfl⟩)
                | (go_at_call 52; refine hv.out.mono ?_; clear hv; rintro e _ ⟨rfl, rfl⟩)
                | (go_at_call 67; refine hSet.out.mono ?_; clear hSet; rintro e w2 ⟨rfl, hX2, hf2⟩; replace hX2 := Bx.mk hX2; replace hf2 := Bx.mk (hf.out.trans hf2)))
              go_roundw
              case rel => exact ⟨k + 1, i, c, by omega, by omega, by go_num, by first | rfl | go_num, by go_num, hl2, ⟨.inr ⟨hit, e1.out.symm⟩⟩, hX2, hf2⟩
              case measure => simp [intOf]; omega
            · have hX2 : Bx (XB wr A (toK S T (k + 1))) := ⟨by rw [hsame.out (by rw [hze.out, es_list]; exact hq)]; exact hX.out⟩
              clear hsame
              generalize T k = y at *
              go_wp2_with (first
                | (go_at_call 119; refine (p1.out _).mono ?_; clear p1; rintro e _ ⟨rfl, rfl⟩)
                | (go_at_call 52; refine hv.out.mono ?_; clear hv; rintro e _ ⟨rfl, rfl⟩))
              go_roundw
              case rel => exact ⟨k + 1, i, c, by omega, by omega, by go_num, by first | rfl | go_num, by go_num, hl2, ⟨.inr ⟨hit, e1.out.symm⟩⟩, hX2, hf⟩
              case measure => simp [intOf]; omega
            
          · have hn0 : decide ((c : Int) < 0) = false := decide_eq_false (by omega)
            cases hq : ((T k).toList == [])
            · clear hsame
              generalize T k = y at *
              go_wp2_with (first
                | (go_at_call 52; refine hv.out.mono ?_; clear hv; rintro e _ ⟨rfl, rfl⟩)
                | (go_at_call 67; refine hSet.out.mono ?_; clear hSet; rintro e w2 ⟨rfl, hX2, hf2⟩; replace hX2 := Bx.mk hX2; replace hf2 := Bx.mk (hf.out.trans hf2)))
              go_roundw
              case rel => exact ⟨k + 1, i, c, by omega, by omega, by go_num, by first | rfl | go_num, by go_num, hl2, ⟨.inr ⟨hit, e1.out.symm⟩⟩, hX2, hf2⟩
              case measure => simp [intOf]; omega
            · have hX2 : Bx (XB wr A (toK S T (k + 1))) := ⟨by rw [hsame.out (by rw [hze.out, es_list]; exact hq)]; exact hX.out⟩
              clear hsame
              generalize T k = y at *
              go_wp2_with (first
                | (go_at_call 52; refine hv.out.mono ?_; clear hv; rintro e _ ⟨rfl, rfl⟩))
              go_roundw
              case rel => exact ⟨k + 1, i, c, by omega, by omega, by go_num, by first | rfl | go_num, by go_num, hl2, ⟨.inr ⟨hit, e1.out.symm⟩⟩, hX2, hf⟩
              case measure => simp [intOf]; omega
            
      · have hit2 : i = t.size := by omega
        have hltd : decide ((i : Int) < (t.size : Int)) = false := by simp; omega
        have hn2 : n = -1 := by rcases hn.out with e | ⟨e, _⟩; · exact e
                                · omega
        subst hn2
        obtain ⟨hz, hl2⟩ := (show Lwk t S k t.size from hit2 ▸ hL.out).end
        rw [← hit2] at hl2
        replace hl2 := Bx.mk hl2
        have hze := Bx.mk hz
        rw [hz] at hSet
        clear hn hL hit2 hz
        have qe : (((-1 : Int)) == (k : Int)) = false := beq_eq_false_iff_ne.2 (by omega)
        cases hq : ((T k).toList == [])
        · clear hsame
          generalize T k = y at *
          go_wp2_with (first
            | (go_at_call 52; refine hv.out.mono ?_; clear hv; rintro e _ ⟨rfl, rfl⟩)
            | (go_at_call 67; refine hSet.out.mono ?_; clear hSet; rintro e w2 ⟨rfl, hX2, hf2⟩; replace hX2 := Bx.mk hX2; replace hf2 := Bx.mk (hf.out.trans hf2)))
          go_roundw
          case rel => exact ⟨k + 1, i, -1, by omega, by omega, by go_num, by first | rfl | go_num, by go_num, hl2, ⟨.inl rfl⟩, hX2, hf2⟩
          case measure => simp [intOf]; omega
        · have hX2 : Bx (XB wr A (toK S T (k + 1))) := ⟨by rw [hsame.out (by rw [hze.out, es_list]; exact hq)]; exact hX.out⟩
          clear hsame
          generalize T k = y at *
          go_wp2_with (first
            | (go_at_call 52; refine hv.out.mono ?_; clear hv; rintro e _ ⟨rfl, rfl⟩))
          go_roundw
          case rel => exact ⟨k + 1, i, -1, by omega, by omega, by go_num, by first | rfl | go_num, by go_num, hl2, ⟨.inl rfl⟩, hX2, hf⟩
          case measure => simp [intOf]; omega
        
      
end
end Go.Proofs.Qxb6500326aGreat
