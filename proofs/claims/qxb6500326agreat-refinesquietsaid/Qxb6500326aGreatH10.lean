import Derived.Test.Qxb6500326aGreatH9
import Derived.Test.Qxb6500326aGreatJ2
import Derived.BigQuiet
namespace Go.Proofs.Qxb6500326aGreat
set_option maxRecDepth 100000
set_option linter.unusedVariables false
set_option linter.unusedSimpArgs false
open Go.RowKit Go.PlainAid
attribute [local go_sem] bv_and bv_or bv_eq_zero bv_ne_zero bv_bit bv_ne

theorem bits_small {x : BitVec 32} (h : ∀ c, x.getLsbD c = true → c < 24) : uN x / 16777216 = 0 := by
  have : x.toNat < 2 ^ 24 := Nat.lt_pow_two_of_testBit _ (fun i hi => by
    cases hb : x.toNat.testBit i
    · rfl
    · have := h i (by rw [BitVec.getLsbD]; exact hb); omega)
  unfold uN
  omega
/-- A slot that Check lets by. -/
structure SlotOK (S : BitVec 32) (f : Nat → Nat → ByteArray) (live : Bool) : Prop where
  sm : uN S / 16777216 = 0
  dead : live = false → S = 0#32
  yes : ∀ c, c < 24 → S.getLsbD c = true → ((f c 0).toList == (f c 1).toList) = false
  no : ∀ c, c < 24 → S.getLsbD c = false → f c 0 = es ∧ f c 1 = es
section
variable {w w' : World} {R : RA} {A : XA} {base u r : Nat} {tu : Nat → BitVec 32} {po wt : Nat → ByteArray} {T : Tx} {H : Nat → Tx}
theorem slotR_ok {s : Nat} {A B : Tx} (h : SlotR tu po s A B) : SlotOK (tu s) (fun c side => po (placeP s c side)) true := by
  refine ⟨bits_small (fun c hc => by rw [h.tu] at hc; exact recS_lt hc), fun e => (by cases e), fun c hc hb => ?_, fun c hc hb => ?_⟩
  · show ((po (placeP s c 0)).toList == (po (placeP s c 1)).toList) = false
    rw [h.po c hc 0 (by omega), h.po c hc 1 (by omega)]
    rw [h.tu, mem_recS hc] at hb
    unfold recT
    rw [if_pos hb, if_pos rfl, if_pos hb, if_neg (by omega)]
    unfold difB at hb
    simpa using hb
  · rw [h.tu, mem_recS hc] at hb
    refine ⟨?_, ?_⟩
    · show po (placeP s c 0) = es
      rw [h.po c hc 0 (by omega)]; unfold recT; rw [if_neg (by rw [hb]; simp)]
    · show po (placeP s c 1) = es
      rw [h.po c hc 1 (by omega)]; unfold recT; rw [if_neg (by rw [hb]; simp)]
theorem slotD_ok {s : Nat} (h : SlotD tu po s) (live : Bool) : SlotOK (tu s) (fun c side => po (placeP s c side)) live :=
  ⟨bits_small (fun c hc => by rw [h.tu] at hc; simp at hc), fun _ => h.tu, fun c hc hb => by rw [h.tu] at hb; simp at hb, fun c hc hb => ⟨h.po c hc 0 (by omega), h.po c hc 1 (by omega)⟩⟩
theorem Ring.slot (h : Ring tu po base u r H) {k : Nat} (hk : k < 6) : SlotOK (tu (slotP base k)) (fun c side => po (placeP (slotP base k) c side)) (decide (k < u + r)) := by
  by_cases e : k < u + r
  · rw [decide_eq_true e]; exact slotR_ok (h.live k e)
  · exact slotD_ok (h.dead k (by omega) hk) _
theorem es_list : es.toList = [] := by rw [ByteArray.toList_eq]
theorem es_beq {s : ByteArray} (h : s = es) : (s.toList == []) = true := by rw [h, es_list]; rfl
set_option maxHeartbeats 8000000 in
theorem checkSlot_any (s : Nat) (live : Bool) (w : World) (h : RG w R base u r tu po wt) (hs : s < 6) (ho : SlotOK (tu s) (fun c side => po (placeP s c side)) live) :
    Calls Tryz.prog 87 #[pt R.bk, I s, .bool live] w fun e w' => e = .returned (.bool true) ∧ ∃ n, w' = w.drewN n := by
  have hsI : (s : Int) < 6 := by omega
  have t0 := h.tu.cell s hs
  have hlt := h.tu.lt
  obtain ⟨c0, c1, c2, c3, c4, c5, c6, c7, hl, hz⟩ := h.c8
  have hPl : Bx (∀ (c : Nat) wx, c < 24 → Calls Tryz.prog 114 #[I s, I c] wx fun e w' => e = .returned (I (placeP s c 0 : Nat)) ∧ wx = w') := ⟨fun c wx hc => place_any s c wx hs hc⟩
  have hG0 := Bx.mk h
  obtain ⟨S, hS⟩ : ∃ S, Bx (tu s = S) := ⟨_, ⟨rfl⟩⟩
  rw [hS.out] at t0 ho
  have hsm := ho.sm
  have hdd : (!live && S != 0#32) = false := by
    cases live
    · have := ho.dead rfl; subst this; rfl
    · rfl
  replace ho := Bx.mk ho
  clear h hz
  cases live
  all_goals
    have hd2 := hdd
    clear hdd
    simp only [Bool.not_false, Bool.not_true, Bool.true_and, Bool.false_and] at hd2
    go_enter Tryz.func87, Tryz.ntmps87
    go_wp2_with fail
    clear c0 c1 c2 c3 c4 c5 c6 c7 hl t0 hlt
    go_loopw [8] (fun c wr => ∃ k : Nat, k ≤ 24 ∧ c = I (k : Int) ∧ Bx (∃ n, wr = w.drewN n)) (fun c _ => 24 - (intOf c).toNat)
    case atStart => exact ⟨0, by omega, rfl, ⟨⟨0, rfl⟩⟩⟩
    case round =>
      obtain ⟨k, hk, rfl, hf⟩ := hrel
      have hG : Bx (RG wr R base u r tu po wt) := ⟨by obtain ⟨n, hn⟩ := hf.out; rw [hn]; exact hG0.out.fr0 ((Fr.refl S0 w).drewN n)⟩
      obtain ⟨c0, c1, c2, c3, c4, c5, c6, c7, hl, -⟩ := hG.out.c8
      cases hlt : decide ((k : Int) < 24)
      · have hk24 : Bx (k = 24) := ⟨by simp at hlt; omega⟩
        go_wp2_with fail
        go_ret
        exact ⟨rfl, hf.out⟩
      · have hk24 : k < 24 := by simp at hlt; omega
        have hkI : (k : Int) < 24 := by omega
        have hpl := place_lt (s := s) (c := k) (side := 1) hs hk24 (by omega)
        have e1 : placeP s k 1 = placeP s k 0 + 1 := rfl
        have hP := Bx.mk (fun wx => hPl.out k wx hk24)
        have hyes := Bx.mk (ho.out.yes k hk24)
        have hno := Bx.mk (ho.out.no k hk24)
        rw [e1] at hpl hyes hno
        generalize placeP s k 0 = p at *
        have hpI : (p : Int) < 287 := by omega
        have p0 := hG.out.po.cell p (by omega)
        have p1 := hG.out.po.cell (p + 1) (by omega)
        have hpl2 := hG.out.po.lt
        cases hb : S.getLsbD k
        · obtain ⟨n0, n1⟩ := hno.out hb
          have d0 := es_beq n0
          have d1 := es_beq n1
          clear n0 n1 hyes hno
          generalize po p = y0 at *
          generalize po (p + 1) = y1 at *
          go_wp2_with (first | (go_at_call 114; refine (hP.out _).mono ?_; clear hP; rintro e _ ⟨rfl, rfl⟩))
          go_roundw
          case rel => exact ⟨k + 1, by omega, by go_num, hf⟩
          case measure => simp [intOf]; omega
        · have d0 := hyes.out hb
          clear hyes hno
          generalize po p = y0 at *
          generalize po (p + 1) = y1 at *
          have hadd : IntKind.i64.wrap ((p : Int) + 1) = ((p + 1 : Nat) : Int) := by simp [IntKind.wrap, IntKind.bits, IntKind.signed]; omega
          go_wp2_with (first | (go_at_call 114; refine (hP.out _).mono ?_; clear hP; rintro e _ ⟨rfl, rfl⟩))
          go_quiet (fail)
          go_wp2_with fail
          go_roundw
          case rel => exact ⟨k + 1, by omega, by go_num, ⟨by obtain ⟨n, hn⟩ := hf.out; rw [hn, World.drewN_drewN]; exact ⟨_, rfl⟩⟩⟩
          case measure => simp [intOf]; omega
set_option maxHeartbeats 4000000 in
theorem texts_any {kc : Nat} {C : Tx} (w : World) (h : RG w R base u r tu po wt) (hx : XB w A T) (hxe : R.xe = A.xe) (hr : Row w kc 24 (fun j => .string (C j))) (hk1 : ¬ SR R kc) (hk2 : ¬ SE A kc) :
    Calls Tryz.prog 88 #[pt R.bk, sl kc 24 24] w fun e w' => e = .returned (.tuple #[]) ∧ Row w' kc 24 (fun j => .string (T j)) ∧ Fr (fun k => k = kc) w w' := by
  have hG0 := Bx.mk h
  have hX0 := Bx.mk hx
  replace hr := Bx.mk hr
  replace hk1 := Bx.mk hk1
  replace hk2 := Bx.mk hk2
  replace hxe := Bx.mk hxe
  clear h hx
  go_enter Tryz.func88, Tryz.ntmps88
  go_wp2_with fail
  go_loopw [4] (fun c wr => ∃ k : Nat, k ≤ 24 ∧ c = I (k : Int) ∧ Bx (Row wr kc 24 (fun j => .string (toK T C k j))) ∧ Bx (Fr (fun k => k = kc) w wr)) (fun c _ => 24 - (intOf c).toNat)
  case atStart => exact ⟨0, by omega, rfl, ⟨by rw [toK_zero]; exact hr.out⟩, ⟨Fr.refl _ _⟩⟩
  case round =>
    clear hr
    obtain ⟨k, hk, rfl, hr, hf⟩ := hrel
    cases hlt : decide ((k : Int) < 24)
    · have hk24 : Bx (k = 24) := ⟨by simp at hlt; omega⟩
      go_wp2_with fail
      go_end0
      refine ⟨rfl, hr.out.congr (fun i hi => by rw [hk24.out]; unfold toK; rw [if_pos hi]), hf.out⟩
    · have hk24 : k < 24 := by simp at hlt; omega
      have hkI : (k : Int) < 24 := by omega
      have hG : Bx (RG wr R base u r tu po wt) := ⟨hG0.out.fr hf.out (fun k hk e => hk1.out (e ▸ hk))⟩
      have hX : XB wr A T := hX0.out.fr hf.out (fun k hk e => hk2.out (e ▸ hk))
      obtain ⟨c0, c1, c2, c3, c4, c5, c6, c7, hl, -⟩ := hG.out.c8
      rw [hxe.out] at c0
      have hv : Bx (Calls Tryz.prog 52 #[pt A.xe, I (k : Int)] wr fun e w' => e = .returned (.string (T k)) ∧ wr = w') := ⟨by have := xb_raw hX (k : Int); rw [rawP_at hk24] at this; exact this⟩
      have m0 := hr.out.cell k hk24
      have z0 := hr.out.frozen k
      have hlw := hr.out.lt
      have hr2 : Bx (Row (wr.setCell ⟨kc, k, none⟩ (.string (T k))) kc 24 (fun j => .string (toK T C (k + 1) j))) := ⟨(hr.out.set k _).congr (fun i _ => by rw [← toK_next]; unfold upd; split <;> rfl)⟩
      have hf2 : Bx (Fr (fun k => k = kc) w (wr.setCell ⟨kc, k, none⟩ (.string (T k)))) := ⟨hf.out.setCell (p := ⟨kc, k, none⟩) (.inl rfl) _⟩
      generalize T k = y at hv hr2 hf2
      clear hX
      go_wp2_with (first | (go_at_call 52; refine hv.out.mono ?_; clear hv; rintro e _ ⟨rfl, rfl⟩))
      go_roundw
      case rel => exact ⟨k + 1, by omega, by go_num, hr2, hf2⟩
      case measure => simp [intOf]; omega

set_option maxHeartbeats 8000000 in
theorem fits_0 {kc : Nat} {C : Tx} (s : Nat) (w : World) (h : RG w R base u r tu po wt) (hs : s < 6) (hr : Row w kc 24 (fun j => .string (C j))) (hk1 : ¬ SR R kc) (hfit : ∀ c, c < 24 → (tu s).getLsbD c = true → C c = po (placeP s c 0)) :
    Calls Tryz.prog 89 #[pt R.bk, sl kc 24 24, I s, I 0] w fun e w' => e = .returned (.bool true) ∧ Row w' kc 24 (fun j => .string (layTo (tu s) (fun c => po (placeP s c 1)) C 24 j)) ∧ Fr (fun k => k = kc) w w' := by
  have hsI : (s : Int) < 6 := by omega
  have t0 := h.tu.cell s hs
  have hlt := h.tu.lt
  obtain ⟨c0, c1, c2, c3, c4, c5, c6, c7, hl, hz⟩ := h.c8
  have hPl : Bx (∀ (c : Nat) wx, c < 24 → Calls Tryz.prog 114 #[I s, I c] wx fun e w' => e = .returned (I (placeP s c 0 : Nat)) ∧ wx = w') := ⟨fun c wx hc => place_any s c wx hs hc⟩
  have hG0 := Bx.mk h
  obtain ⟨S, hS⟩ : ∃ S, Bx (tu s = S) := ⟨_, ⟨rfl⟩⟩
  rw [hS.out] at t0 hfit ⊢
  replace hfit := Bx.mk hfit
  replace hr := Bx.mk hr
  replace hk1 := Bx.mk hk1
  clear h hz
  go_enter Tryz.func89, Tryz.ntmps89
  go_wp2_with fail
  clear c0 c1 c2 c3 c4 c5 c6 c7 hl t0 hlt
  go_loopw [10] (fun c wr => ∃ k : Nat, k ≤ 24 ∧ c = I (k : Int) ∧ Bx (Row wr kc 24 (fun j => .string (layTo S (fun c => po (placeP s c 1)) C k j))) ∧ Bx (Fr (fun k => k = kc) w wr)) (fun c _ => 24 - (intOf c).toNat)
  case atStart => exact ⟨0, by omega, rfl, ⟨by rw [layTo_zero]; exact hr.out⟩, ⟨Fr.refl _ _⟩⟩
  case round =>
    clear hr
    obtain ⟨k, hk, rfl, hr, hf⟩ := hrel
    cases hlt : decide ((k : Int) < 24)
    · have hk24 : Bx (k = 24) := ⟨by simp at hlt; omega⟩
      go_wp2_with fail
      go_ret
      refine ⟨rfl, hr.out.congr (fun i hi => by rw [hk24.out]), hf.out⟩
    · have hk24 : k < 24 := by simp at hlt; omega
      have hkI : (k : Int) < 24 := by omega
      cases hb : S.getLsbD k
      · have hgo : Bx (Row wr kc 24 (fun j => .string (layTo S (fun c => po (placeP s c 1)) C (k + 1) j))) := ⟨by rw [layTo_skip hb]; exact hr.out⟩
        go_wp2_with fail
        go_roundw
        case rel => exact ⟨k + 1, by omega, by go_num, hgo, hf⟩
        case measure => simp [intOf]; omega
      · have hG : Bx (RG wr R base u r tu po wt) := ⟨hG0.out.fr hf.out (fun k hk e => hk1.out (e ▸ hk))⟩
        obtain ⟨c0, c1, c2, c3, c4, c5, c6, c7, hl, -⟩ := hG.out.c8
        have hpl := place_lt (s := s) (c := k) (side := 1) hs hk24 (by omega)
        have e1 : placeP s k 1 = placeP s k 0 + 1 := rfl
        have hP := Bx.mk (fun wx => hPl.out k wx hk24)
        have hC := hfit.out k hk24 hb
        have hset := layTo_set (f := fun c => po (placeP s c 1)) (T := C) hb
        have hcur : layTo S (fun c => po (placeP s c 1)) C k k = C k := by unfold layTo; rw [if_neg (by omega)]
        have m0 := hr.out.cell k hk24
        have z0 := hr.out.frozen k
        have hlw := hr.out.lt
        rw [hcur] at m0
        clear hset hcur
        rw [e1] at hpl
        have hpe : ((C k).toList == (po (placeP s k 0)).toList) = true := by rw [hC]; simp
        clear hC
        generalize hpp : placeP s k 0 = p at *
        replace hpp := Bx.mk hpp
        have hpI : (p : Int) < 287 := by omega
        have hkey : Bx (∀ n y, po (p + 1) = y → Row ((wr.drewN n).setCell ⟨kc, k, none⟩ (.string y)) kc 24 (fun j => .string (layTo S (fun c => po (placeP s c 1)) C (k + 1) j)) ∧ Fr (fun k => k = kc) w ((wr.drewN n).setCell ⟨kc, k, none⟩ (.string y))) := ⟨fun n y hy => by
          subst hy
          have hset := layTo_set (f := fun c => po (placeP s c 1)) (T := C) hb
          have hrn : Row (wr.drewN n) kc 24 (fun j => .string (layTo S (fun c => po (placeP s c 1)) C k j)) := hr.out.of_heap rfl
          refine ⟨(hrn.set k _).congr (fun i _ => by rw [hset]; unfold upd; split <;> first | rfl | (rw [← hpp.out] <;> rfl)), (hf.out.drewN n).setCell (p := ⟨kc, k, none⟩) (.inl rfl) _⟩⟩
        have p0 := hG.out.po.cell p (by omega)
        have p1 := hG.out.po.cell (p + 1) (by omega)
        have hpl2 := hG.out.po.lt
        replace hb := Bx.mk hb
        have hk2 := Bx.mk (fun n => hkey.out n _ rfl)
        clear hkey hG hr hf
        generalize po p = y0 at *
        generalize po (p + 1) = y1 at *
        generalize C k = z at m0 hpe
        have hadd : IntKind.i64.wrap ((p : Int) + 1) = ((p + 1 : Nat) : Int) := by simp [IntKind.wrap, IntKind.bits, IntKind.signed]; omega
        have hadd0 : IntKind.i64.wrap ((p : Int) + 0) = ((p : Nat) : Int) := by simp [IntKind.wrap, IntKind.bits, IntKind.signed]; omega
        have hb := hb.out
        go_wp2_with (first | (go_at_call 114; refine (hP.out _).mono ?_; clear hP; rintro e _ ⟨rfl, rfl⟩))
        go_quiet (fail)
        go_wp2_with fail
        go_roundw
        case rel =>
          obtain ⟨g1, g2⟩ := hk2.out _
          exact ⟨k + 1, by omega, by go_num, ⟨g1⟩, ⟨g2⟩⟩
        case measure => simp [intOf]; omega

set_option maxHeartbeats 8000000 in
theorem fits_1 {kc : Nat} {C : Tx} (s : Nat) (w : World) (h : RG w R base u r tu po wt) (hs : s < 6) (hr : Row w kc 24 (fun j => .string (C j))) (hk1 : ¬ SR R kc) (hfit : ∀ c, c < 24 → (tu s).getLsbD c = true → C c = po (placeP s c 1)) :
    Calls Tryz.prog 89 #[pt R.bk, sl kc 24 24, I s, I 1] w fun e w' => e = .returned (.bool true) ∧ Row w' kc 24 (fun j => .string (layTo (tu s) (fun c => po (placeP s c 0)) C 24 j)) ∧ Fr (fun k => k = kc) w w' := by
  have hsI : (s : Int) < 6 := by omega
  have t0 := h.tu.cell s hs
  have hlt := h.tu.lt
  obtain ⟨c0, c1, c2, c3, c4, c5, c6, c7, hl, hz⟩ := h.c8
  have hPl : Bx (∀ (c : Nat) wx, c < 24 → Calls Tryz.prog 114 #[I s, I c] wx fun e w' => e = .returned (I (placeP s c 0 : Nat)) ∧ wx = w') := ⟨fun c wx hc => place_any s c wx hs hc⟩
  have hG0 := Bx.mk h
  obtain ⟨S, hS⟩ : ∃ S, Bx (tu s = S) := ⟨_, ⟨rfl⟩⟩
  rw [hS.out] at t0 hfit ⊢
  replace hfit := Bx.mk hfit
  replace hr := Bx.mk hr
  replace hk1 := Bx.mk hk1
  clear h hz
  go_enter Tryz.func89, Tryz.ntmps89
  go_wp2_with fail
  clear c0 c1 c2 c3 c4 c5 c6 c7 hl t0 hlt
  go_loopw [10] (fun c wr => ∃ k : Nat, k ≤ 24 ∧ c = I (k : Int) ∧ Bx (Row wr kc 24 (fun j => .string (layTo S (fun c => po (placeP s c 0)) C k j))) ∧ Bx (Fr (fun k => k = kc) w wr)) (fun c _ => 24 - (intOf c).toNat)
  case atStart => exact ⟨0, by omega, rfl, ⟨by rw [layTo_zero]; exact hr.out⟩, ⟨Fr.refl _ _⟩⟩
  case round =>
    clear hr
    obtain ⟨k, hk, rfl, hr, hf⟩ := hrel
    cases hlt : decide ((k : Int) < 24)
    · have hk24 : Bx (k = 24) := ⟨by simp at hlt; omega⟩
      go_wp2_with fail
      go_ret
      refine ⟨rfl, hr.out.congr (fun i hi => by rw [hk24.out]), hf.out⟩
    · have hk24 : k < 24 := by simp at hlt; omega
      have hkI : (k : Int) < 24 := by omega
      cases hb : S.getLsbD k
      · have hgo : Bx (Row wr kc 24 (fun j => .string (layTo S (fun c => po (placeP s c 0)) C (k + 1) j))) := ⟨by rw [layTo_skip hb]; exact hr.out⟩
        go_wp2_with fail
        go_roundw
        case rel => exact ⟨k + 1, by omega, by go_num, hgo, hf⟩
        case measure => simp [intOf]; omega
      · have hG : Bx (RG wr R base u r tu po wt) := ⟨hG0.out.fr hf.out (fun k hk e => hk1.out (e ▸ hk))⟩
        obtain ⟨c0, c1, c2, c3, c4, c5, c6, c7, hl, -⟩ := hG.out.c8
        have hpl := place_lt (s := s) (c := k) (side := 1) hs hk24 (by omega)
        have e1 : placeP s k 1 = placeP s k 0 + 1 := rfl
        have hP := Bx.mk (fun wx => hPl.out k wx hk24)
        have hC := hfit.out k hk24 hb
        have hset := layTo_set (f := fun c => po (placeP s c 0)) (T := C) hb
        have hcur : layTo S (fun c => po (placeP s c 0)) C k k = C k := by unfold layTo; rw [if_neg (by omega)]
        have m0 := hr.out.cell k hk24
        have z0 := hr.out.frozen k
        have hlw := hr.out.lt
        rw [hcur] at m0
        clear hset hcur
        rw [e1] at hpl
        rw [e1] at hC
        have hpe : ((C k).toList == (po (placeP s k 0 + 1)).toList) = true := by rw [hC]; simp
        clear hC
        generalize hpp : placeP s k 0 = p at *
        replace hpp := Bx.mk hpp
        have hpI : (p : Int) < 287 := by omega
        have hkey : Bx (∀ n y, po (p) = y → Row ((wr.drewN n).setCell ⟨kc, k, none⟩ (.string y)) kc 24 (fun j => .string (layTo S (fun c => po (placeP s c 0)) C (k + 1) j)) ∧ Fr (fun k => k = kc) w ((wr.drewN n).setCell ⟨kc, k, none⟩ (.string y))) := ⟨fun n y hy => by
          subst hy
          have hset := layTo_set (f := fun c => po (placeP s c 0)) (T := C) hb
          have hrn : Row (wr.drewN n) kc 24 (fun j => .string (layTo S (fun c => po (placeP s c 0)) C k j)) := hr.out.of_heap rfl
          refine ⟨(hrn.set k _).congr (fun i _ => by rw [hset]; unfold upd; split <;> first | rfl | (rw [← hpp.out] <;> rfl)), (hf.out.drewN n).setCell (p := ⟨kc, k, none⟩) (.inl rfl) _⟩⟩
        have p0 := hG.out.po.cell p (by omega)
        have p1 := hG.out.po.cell (p + 1) (by omega)
        have hpl2 := hG.out.po.lt
        replace hb := Bx.mk hb
        have hk2 := Bx.mk (fun n => hkey.out n _ rfl)
        clear hkey hG hr hf
        generalize po p = y0 at *
        generalize po (p + 1) = y1 at *
        generalize C k = z at m0 hpe
        have hadd : IntKind.i64.wrap ((p : Int) + 1) = ((p + 1 : Nat) : Int) := by simp [IntKind.wrap, IntKind.bits, IntKind.signed]; omega
        have hadd0 : IntKind.i64.wrap ((p : Int) + 0) = ((p : Nat) : Int) := by simp [IntKind.wrap, IntKind.bits, IntKind.signed]; omega
        have hb := hb.out
        go_wp2_with (first | (go_at_call 114; refine (hP.out _).mono ?_; clear hP; rintro e _ ⟨rfl, rfl⟩))
        go_quiet (fail)
        go_wp2_with fail
        go_roundw
        case rel =>
          obtain ⟨g1, g2⟩ := hk2.out _
          exact ⟨k + 1, by omega, by go_num, ⟨g1⟩, ⟨g2⟩⟩
        case measure => simp [intOf]; omega

end
end Go.Proofs.Qxb6500326aGreat
