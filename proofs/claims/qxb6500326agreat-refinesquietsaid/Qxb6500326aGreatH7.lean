import Derived.Test.Qxb6500326aGreatH6
namespace Go.Proofs.Qxb6500326aGreat
set_option maxRecDepth 100000
set_option linter.unusedVariables false
set_option linter.unusedSimpArgs false
open Go.RowKit Go.PlainAid
attribute [local go_sem] bv_and bv_or bv_eq_zero bv_ne_zero bv_bit bv_ne

def layTo (S : BitVec 32) (f : Nat → ByteArray) (T : Tx) (k c : Nat) : ByteArray := if c < k ∧ S.getLsbD c = true then f c else T c
theorem layTo_skip {S : BitVec 32} {f : Nat → ByteArray} {T : Tx} {k : Nat} (h : S.getLsbD k = false) : layTo S f T (k + 1) = layTo S f T k := funext fun c => by
  unfold layTo
  by_cases e : c = k
  · subst e; rw [if_neg (by rw [h]; simp), if_neg (by omega)]
  · by_cases e2 : c < k ∧ S.getLsbD c = true
    · rw [if_pos e2, if_pos ⟨by omega, e2.2⟩]
    · rw [if_neg e2, if_neg (fun g => e2 ⟨by omega, g.2⟩)]
theorem layTo_set {S : BitVec 32} {f : Nat → ByteArray} {T : Tx} {k : Nat} (h : S.getLsbD k = true) : layTo S f T (k + 1) = upd (layTo S f T k) k (f k) := funext fun c => by
  unfold upd layTo
  by_cases e : c = k
  · subst e; rw [if_pos ⟨by omega, h⟩, if_pos rfl]
  · rw [if_neg e]
    by_cases e2 : c < k ∧ S.getLsbD c = true
    · rw [if_pos e2, if_pos ⟨by omega, e2.2⟩]
    · rw [if_neg e2, if_neg (fun g => e2 ⟨by omega, g.2⟩)]
theorem layTo_zero (S : BitVec 32) (f : Nat → ByteArray) (T : Tx) : layTo S f T 0 = T := funext fun c => by unfold layTo; rw [if_neg (by omega)]
theorem setT_ok {c : Nat} {s : ByteArray} {T : Tx} (hc : c < 24) (hs : s.size ≤ 40) : setT (c : Int) s T = upd T c s := by
  unfold setT; rw [if_pos (setP_ok hc hs)]; rfl
section
variable {w w' : World} {R : RA} {A : XA} {base u r : Nat} {tu : Nat → BitVec 32} {po wt : Nat → ByteArray} {T : Tx}
set_option maxHeartbeats 4000000 in
theorem layR_0 (s : Nat) (w : World) (h : RG w R base u r tu po wt) (hx : XB w A T) (hxe : R.xe = A.xe) (ap : ∀ k, SR R k → ¬ SE A k) (hs : s < 6) (hpo : ∀ c, c < 24 → (po (placeP s c 0)).size ≤ 40) :
    Calls Tryz.prog 117 #[pt R.bk, I s, I 0] w fun e w' => e = .returned (.tuple #[]) ∧ RG w' R base u r tu po wt ∧ XB w' A (layTo (tu s) (fun c => po (placeP s c 0)) T 24) ∧ Fr (SE A) w w' := by
  have hG0 := Bx.mk h
  replace hx := Bx.mk hx
  replace ap := Bx.mk ap
  replace hpo := Bx.mk hpo
  have hsI : (s : Int) < 6 := by omega
  obtain ⟨c0, c1, c2, c3, c4, c5, c6, c7, hl, hz⟩ := h.c8
  have t0 := h.tu.cell s hs
  have hlt := h.tu.lt
  have hPl : Bx (∀ (c : Nat) wx, c < 24 → Calls Tryz.prog 114 #[I s, I c] wx fun e w' => e = .returned (I (placeP s c 0 : Nat)) ∧ wx = w') := ⟨fun c wx hc => place_any s c wx hs hc⟩
  obtain ⟨S, hS⟩ : ∃ S, Bx (tu s = S) := ⟨_, ⟨rfl⟩⟩
  rw [hS.out] at t0 ⊢
  rw [hxe] at c0
  replace hxe := Bx.mk hxe
  clear h hz
  go_enter Tryz.func117, Tryz.ntmps117
  go_wp2_with fail
  clear c0 c1 c2 c3 c4 c5 c6 c7 hl t0 hlt
  go_loopw [7] (fun c wr => ∃ k : Nat, k ≤ 24 ∧ c = I (k : Int) ∧ Bx (XB wr A (layTo S (fun c => po (placeP s c 0)) T k)) ∧ Bx (Fr (SE A) w wr)) (fun c _ => 24 - (intOf c).toNat)
  case atStart => exact ⟨0, by omega, rfl, ⟨by rw [layTo_zero]; exact hx.out⟩, ⟨Fr.refl _ _⟩⟩
  case round =>
    obtain ⟨k, hk, rfl, hX, hf⟩ := hrel
    have hG : Bx (RG wr R base u r tu po wt) := ⟨hG0.out.fr hf.out (fun k hk => ap.out k hk)⟩
    clear hx
    cases hlt : decide ((k : Int) < 24)
    · have hk24 : Bx (k = 24) := ⟨by simp at hlt; omega⟩
      go_wp2_with fail
      go_end0
      refine ⟨rfl, hG.out, ?_, hf.out⟩
      have := hX.out
      rw [hk24.out] at this
      exact this
    · have hk24 : k < 24 := by simp at hlt; omega
      have hkI : (k : Int) < 24 := by omega
      cases hb : S.getLsbD k
      · have hgo : Bx (XB wr A (layTo S (fun c => po (placeP s c 0)) T (k + 1))) := ⟨by rw [layTo_skip hb]; exact hX.out⟩
        go_wp2_with fail
        go_roundw
        case rel => exact ⟨k + 1, by omega, by go_num, hgo, hf⟩
        case measure => simp [intOf]; omega
      · have hpl := place_lt (s := s) (c := k) (side := 0) hs hk24 (by omega)
        have hP := Bx.mk (fun wx => hPl.out k wx hk24)
        have hnext := Bx.mk (layTo_set (f := fun c => po (placeP s c 0)) (T := T) hb)
        have hsz := Bx.mk (hpo.out k hk24)
        have p0 := hG.out.po.cell (placeP s k 0) (by omega)
        have hSt : Bx (∀ v, v = po (placeP s k 0) → Calls Tryz.prog 67 #[pt A.xe, I (k : Int), .string v] wr.drew (Did wr.drew (SE A) 0 (fun w' => XB w' A (layTo S (fun c => po (placeP s c 0)) T (k + 1))))) := ⟨fun v hv => by
          have := xb_set (hX.out.fr ((Fr.refl S0 wr).drew) (fun _ _ h => h)) (k : Int) v
          rw [hv] at this ⊢
          rw [setP_ok hk24 hsz.out, setT_ok hk24 hsz.out] at this
          rw [hnext.out]; exact this⟩
        obtain ⟨c0, c1, c2, c3, c4, c5, c6, c7, hl, -⟩ := hG.out.c8
        rw [hxe.out] at c0
        have hSv := Bx.mk (hSt.out _ rfl)
        clear hSt hsz hnext hPl
        generalize po (placeP s k 0) = v at p0 hSv
        generalize placeP s k 0 = p at *
        have hpI2 : (p : Int) < 288 := by omega
        have hadd : IntKind.i64.wrap (p : Int) = p := by simp [IntKind.wrap, IntKind.bits, IntKind.signed]; omega
        have hpl2 := hG.out.po.lt
        go_wp2_with (first | (go_at_call 114; refine (hP.out _).mono ?_; clear hP; rintro e _ ⟨rfl, rfl⟩))
        refine region_cut (fun w' => Bx (XB w' A (layTo S (fun c => po (placeP s c 0)) T (k + 1)) ∧ Fr (SE A) wr w')) ?_
        apply Exists.intro
        apply And.intro
        · go_region_with (first | (go_at_call 67; refine hSv.out.mono ?_; rintro e w2 ⟨rfl, hq, hfq⟩))
          all_goals exact ⟨rfl, ⟨hq, ((Fr.refl (SE A) wr).drew).trans hfq⟩⟩
        rintro wq ⟨hX2, hf2⟩
        replace hX2 := Bx.mk hX2
        have hf3 := Bx.mk (hf.out.trans hf2)
        clear c0 c1 c2 c3 c4 c5 c6 c7 hl p0 hpl2 hSv hX hG hf hf2
        go_wp2_with fail
        go_roundw
        case rel => exact ⟨k + 1, by omega, by go_num, hX2, hf3⟩
        case measure => simp [intOf]; omega
set_option maxHeartbeats 4000000 in
theorem layR_1 (s : Nat) (w : World) (h : RG w R base u r tu po wt) (hx : XB w A T) (hxe : R.xe = A.xe) (ap : ∀ k, SR R k → ¬ SE A k) (hs : s < 6) (hpo : ∀ c, c < 24 → (po (placeP s c 1)).size ≤ 40) :
    Calls Tryz.prog 117 #[pt R.bk, I s, I 1] w fun e w' => e = .returned (.tuple #[]) ∧ RG w' R base u r tu po wt ∧ XB w' A (layTo (tu s) (fun c => po (placeP s c 1)) T 24) ∧ Fr (SE A) w w' := by
  have hG0 := Bx.mk h
  replace hx := Bx.mk hx
  replace ap := Bx.mk ap
  replace hpo := Bx.mk hpo
  have hsI : (s : Int) < 6 := by omega
  obtain ⟨c0, c1, c2, c3, c4, c5, c6, c7, hl, hz⟩ := h.c8
  have t0 := h.tu.cell s hs
  have hlt := h.tu.lt
  have hPl : Bx (∀ (c : Nat) wx, c < 24 → Calls Tryz.prog 114 #[I s, I c] wx fun e w' => e = .returned (I (placeP s c 0 : Nat)) ∧ wx = w') := ⟨fun c wx hc => place_any s c wx hs hc⟩
  obtain ⟨S, hS⟩ : ∃ S, Bx (tu s = S) := ⟨_, ⟨rfl⟩⟩
  rw [hS.out] at t0 ⊢
  rw [hxe] at c0
  replace hxe := Bx.mk hxe
  clear h hz
  go_enter Tryz.func117, Tryz.ntmps117
  go_wp2_with fail
  clear c0 c1 c2 c3 c4 c5 c6 c7 hl t0 hlt
  go_loopw [7] (fun c wr => ∃ k : Nat, k ≤ 24 ∧ c = I (k : Int) ∧ Bx (XB wr A (layTo S (fun c => po (placeP s c 1)) T k)) ∧ Bx (Fr (SE A) w wr)) (fun c _ => 24 - (intOf c).toNat)
  case atStart => exact ⟨0, by omega, rfl, ⟨by rw [layTo_zero]; exact hx.out⟩, ⟨Fr.refl _ _⟩⟩
  case round =>
    obtain ⟨k, hk, rfl, hX, hf⟩ := hrel
    have hG : Bx (RG wr R base u r tu po wt) := ⟨hG0.out.fr hf.out (fun k hk => ap.out k hk)⟩
    clear hx
    cases hlt : decide ((k : Int) < 24)
    · have hk24 : Bx (k = 24) := ⟨by simp at hlt; omega⟩
      go_wp2_with fail
      go_end0
      refine ⟨rfl, hG.out, ?_, hf.out⟩
      have := hX.out
      rw [hk24.out] at this
      exact this
    · have hk24 : k < 24 := by simp at hlt; omega
      have hkI : (k : Int) < 24 := by omega
      cases hb : S.getLsbD k
      · have hgo : Bx (XB wr A (layTo S (fun c => po (placeP s c 1)) T (k + 1))) := ⟨by rw [layTo_skip hb]; exact hX.out⟩
        go_wp2_with fail
        go_roundw
        case rel => exact ⟨k + 1, by omega, by go_num, hgo, hf⟩
        case measure => simp [intOf]; omega
      · have hpl := place_lt (s := s) (c := k) (side := 1) hs hk24 (by omega)
        have e1 : placeP s k 1 = placeP s k 0 + 1 := rfl
        have hP := Bx.mk (fun wx => hPl.out k wx hk24)
        have hnext := Bx.mk (layTo_set (f := fun c => po (placeP s c 1)) (T := T) hb)
        have hsz := Bx.mk (hpo.out k hk24)
        have p0 := hG.out.po.cell (placeP s k 1) (by omega)
        have hSt : Bx (∀ v, v = po (placeP s k 1) → Calls Tryz.prog 67 #[pt A.xe, I (k : Int), .string v] wr.drew (Did wr.drew (SE A) 0 (fun w' => XB w' A (layTo S (fun c => po (placeP s c 1)) T (k + 1))))) := ⟨fun v hv => by
          have := xb_set (hX.out.fr ((Fr.refl S0 wr).drew) (fun _ _ h => h)) (k : Int) v
          rw [hv] at this ⊢
          rw [setP_ok hk24 hsz.out, setT_ok hk24 hsz.out] at this
          rw [hnext.out]; exact this⟩
        obtain ⟨c0, c1, c2, c3, c4, c5, c6, c7, hl, -⟩ := hG.out.c8
        rw [hxe.out] at c0
        have hSv := Bx.mk (hSt.out _ rfl)
        clear hSt hsz hnext hPl
        rw [e1] at p0 hpl hSv
        generalize po (placeP s k 0 + 1) = v at p0 hSv
        generalize placeP s k 0 = p at *
        have hpI2 : (p : Int) < 288 := by omega
        have hadd : IntKind.i64.wrap ((p : Int) + 1) = ((p + 1 : Nat) : Int) := by simp [IntKind.wrap, IntKind.bits, IntKind.signed]; omega
        generalize p + 1 = q at *
        have hqI : (q : Int) < 288 := by omega
        have hpl2 := hG.out.po.lt
        clear e1
        go_wp2_with (first | (go_at_call 114; refine (hP.out _).mono ?_; clear hP; rintro e _ ⟨rfl, rfl⟩))
        refine region_cut (fun w' => Bx (XB w' A (layTo S (fun c => po (placeP s c 1)) T (k + 1)) ∧ Fr (SE A) wr w')) ?_
        apply Exists.intro
        apply And.intro
        · go_region_with (first | (go_at_call 67; refine hSv.out.mono ?_; rintro e w2 ⟨rfl, hq, hfq⟩))
          all_goals exact ⟨rfl, ⟨hq, ((Fr.refl (SE A) wr).drew).trans hfq⟩⟩
        rintro wq ⟨hX2, hf2⟩
        replace hX2 := Bx.mk hX2
        have hf3 := Bx.mk (hf.out.trans hf2)
        clear c0 c1 c2 c3 c4 c5 c6 c7 hl p0 hpl2 hSv hX hG hf hf2
        go_wp2_with fail
        go_roundw
        case rel => exact ⟨k + 1, by omega, by go_num, hX2, hf3⟩
        case measure => simp [intOf]; omega
end
end Go.Proofs.Qxb6500326aGreat
