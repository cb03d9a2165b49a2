import Derived.Test.Qxb6500326aGreatT1
import Derived.Test.Qxb6500326aGreatGMem
import Derived.Test.Qxb6500326aGreatW1
namespace Go.Proofs.Qxb6500326aGreat
set_option maxRecDepth 100000
set_option linter.unusedVariables false
set_option linter.unusedSimpArgs false
open Go.RowKit Go.PlainAid
attribute [local go_sem] bv_and bv_or bv_eq_zero bv_ne_zero bv_bit bv_ne

/-! ### the ring in memory -/
structure RA where
  bk : Nat
  xe : Nat
  pb : Nat
  tb : Nat
  wb : Nat
  ob : Nat
def bkC (R : RA) (base u r : Nat) : Nat → Value
  | 0 => pt R.xe
  | 1 => sl R.pb 288 288
  | 2 => sl R.tb 6 6
  | 3 => I base
  | 4 => I u
  | 5 => I r
  | 6 => sl R.wb 24 24
  | _ => sl R.ob 1056 1056
def SR (R : RA) : Nat → Prop := fun k => k = R.bk ∨ k = R.pb ∨ k = R.tb ∨ k = R.wb ∨ k = R.ob
structure RN (R : RA) : Prop where
  n1 : R.bk ≠ R.pb
  n2 : R.bk ≠ R.tb
  n3 : R.bk ≠ R.wb
  n4 : R.bk ≠ R.ob
  n5 : R.pb ≠ R.tb
  n6 : R.pb ≠ R.wb
  n7 : R.pb ≠ R.ob
  n8 : R.tb ≠ R.wb
  n9 : R.tb ≠ R.ob
  n10 : R.wb ≠ R.ob
structure RG (w : World) (R : RA) (base u r : Nat) (tu : Nat → BitVec 32) (po : Nat → ByteArray) (wt : Nat → ByteArray) : Prop where
  obj : Row w R.bk 8 (bkC R base u r)
  po : Row w R.pb 288 (fun i => .string (po i))
  tu : Row w R.tb 6 (fun i => Gr.U (tu i))
  wa : Row w R.wb 24 (fun i => .string (wt i))
  ou : ∃ f : Nat → Int, Row w R.ob 1056 (fun i => .int .u8 (f i))
  n : RN R
section
variable {w w' : World} {R : RA} {base u r : Nat} {tu : Nat → BitVec 32} {po wt : Nat → ByteArray}
theorem RG.fr (h : RG w R base u r tu po wt) {S : Nat → Prop} (f : Fr S w w') (hS : ∀ k, SR R k → ¬ S k) : RG w' R base u r tu po wt :=
  ⟨f.row h.obj (hS _ (.inl rfl)), f.row h.po (hS _ (.inr (.inl rfl))), f.row h.tu (hS _ (.inr (.inr (.inl rfl)))), f.row h.wa (hS _ (.inr (.inr (.inr (.inl rfl))))), by obtain ⟨g, hg⟩ := h.ou; exact ⟨g, f.row hg (hS _ (.inr (.inr (.inr (.inr rfl)))))⟩, h.n⟩
theorem RG.fr0 (h : RG w R base u r tu po wt) (f : Fr S0 w w') : RG w' R base u r tu po wt := h.fr f (fun _ _ e => e)
theorem RG.lt (h : RG w R base u r tu po wt) : ∀ k, SR R k → k < w.heap.size := by
  obtain ⟨g, hg⟩ := h.ou
  rintro k (e | e | e | e | e)
  · exact e ▸ h.obj.lt
  · exact e ▸ h.po.lt
  · exact e ▸ h.tu.lt
  · exact e ▸ h.wa.lt
  · exact e ▸ hg.lt
theorem RG.c8 (h : RG w R base u r tu po wt) : w.cell? ⟨R.bk, 0, none⟩ = some (pt R.xe) ∧ w.cell? ⟨R.bk, 1, none⟩ = some (sl R.pb 288 288) ∧ w.cell? ⟨R.bk, 2, none⟩ = some (sl R.tb 6 6) ∧ w.cell? ⟨R.bk, 3, none⟩ = some (I base) ∧ w.cell? ⟨R.bk, 4, none⟩ = some (I u) ∧ w.cell? ⟨R.bk, 5, none⟩ = some (I r) ∧ w.cell? ⟨R.bk, 6, none⟩ = some (sl R.wb 24 24) ∧ w.cell? ⟨R.bk, 7, none⟩ = some (sl R.ob 1056 1056) ∧ R.bk < w.heap.size ∧ (∀ i, w.frozen? ⟨R.bk, i, none⟩ = false) :=
  ⟨h.obj.cell 0 (by omega), h.obj.cell 1 (by omega), h.obj.cell 2 (by omega), h.obj.cell 3 (by omega), h.obj.cell 4 (by omega), h.obj.cell 5 (by omega), h.obj.cell 6 (by omega), h.obj.cell 7 (by omega), h.obj.lt, h.obj.frozen⟩
theorem fr_cell {a : World} {b c : Nat} {v : Value} {S : Nat → Prop} (f : Fr S a w) (hb : S b) : Fr S a (w.setCell ⟨b, c, none⟩ v) := f.setCell (p := ⟨b, c, none⟩) (.inl hb) v
theorem RG.setPo (h : RG w R base u r tu po wt) (i : Nat) (s : ByteArray) : RG (w.setCell ⟨R.pb, i, none⟩ (.string s)) R base u r tu (upd po i s) wt :=
  ⟨h.obj.set_other h.n.n1 _, (h.po.set i _).congr (fun j _ => by unfold upd; split <;> rfl), h.tu.set_other (fun e => h.n.n5 e.symm) _, h.wa.set_other (fun e => h.n.n6 e.symm) _, by obtain ⟨g, hg⟩ := h.ou; exact ⟨g, hg.set_other (fun e => h.n.n7 e.symm) _⟩, h.n⟩
theorem RG.setTu (h : RG w R base u r tu po wt) (i : Nat) (x : BitVec 32) : RG (w.setCell ⟨R.tb, i, none⟩ (Gr.U x)) R base u r (upd tu i x) po wt :=
  ⟨h.obj.set_other h.n.n2 _, h.po.set_other h.n.n5 _, (h.tu.set i _).congr (fun j _ => by unfold upd; split <;> rfl), h.wa.set_other (fun e => h.n.n8 e.symm) _, by obtain ⟨g, hg⟩ := h.ou; exact ⟨g, hg.set_other (fun e => h.n.n9 e.symm) _⟩, h.n⟩
theorem RG.setWa (h : RG w R base u r tu po wt) (i : Nat) (s : ByteArray) : RG (w.setCell ⟨R.wb, i, none⟩ (.string s)) R base u r tu po (upd wt i s) :=
  ⟨h.obj.set_other h.n.n3 _, h.po.set_other h.n.n6 _, h.tu.set_other h.n.n8 _, (h.wa.set i _).congr (fun j _ => by unfold upd; split <;> rfl), by obtain ⟨g, hg⟩ := h.ou; exact ⟨g, hg.set_other (fun e => h.n.n10 e.symm) _⟩, h.n⟩
theorem RG.setNum (h : RG w R base u r tu po wt) {k : Nat} {v : Value} {base' u' r' : Nat} (hc : ∀ i, i < 8 → upd (bkC R base u r) k v i = bkC R base' u' r' i) : RG (w.setCell ⟨R.bk, k, none⟩ v) R base' u' r' tu po wt :=
  ⟨(h.obj.set k v).congr hc, h.po.set_other (fun e => h.n.n1 e.symm) _, h.tu.set_other (fun e => h.n.n2 e.symm) _, h.wa.set_other (fun e => h.n.n3 e.symm) _, by obtain ⟨g, hg⟩ := h.ou; exact ⟨g, hg.set_other (fun e => h.n.n4 e.symm) _⟩, h.n⟩
theorem bk_base (h : RG w R base u r tu po wt) (b : Nat) : RG (w.setCell ⟨R.bk, 3, none⟩ (I b)) R b u r tu po wt := h.setNum (by intro i hi; rcases i with _ | _ | _ | _ | _ | _ | _ | _ | i <;> first | rfl | omega)
theorem bk_undos (h : RG w R base u r tu po wt) (b : Nat) : RG (w.setCell ⟨R.bk, 4, none⟩ (I b)) R base b r tu po wt := h.setNum (by intro i hi; rcases i with _ | _ | _ | _ | _ | _ | _ | _ | i <;> first | rfl | omega)
theorem bk_redos (h : RG w R base u r tu po wt) (b : Nat) : RG (w.setCell ⟨R.bk, 5, none⟩ (I b)) R base u b tu po wt := h.setNum (by intro i hi; rcases i with _ | _ | _ | _ | _ | _ | _ | _ | i <;> first | rfl | omega)
theorem RG.poEq (h : RG w R base u r tu po wt) {po' : Nat → ByteArray} (e : ∀ i, i < 288 → po i = po' i) : RG w R base u r tu po' wt := ⟨h.obj, h.po.congr (fun i hi => by rw [e i hi]), h.tu, h.wa, h.ou, h.n⟩
theorem RG.waEq (h : RG w R base u r tu po wt) {wt' : Nat → ByteArray} (e : ∀ i, i < 24 → wt i = wt' i) : RG w R base u r tu po wt' := ⟨h.obj, h.po, h.tu, h.wa.congr (fun i hi => by rw [e i hi]), h.ou, h.n⟩
set_option maxHeartbeats 400000 in
theorem place_any (s c : Nat) (w : World) (hs : s < 6) (hc : c < 24) : Calls Tryz.prog 114 #[I s, I c] w fun e w' => e = .returned (I (placeP s c 0 : Nat)) ∧ w = w' := by
  have hp : Bx (((s : Int) * 24 + c) * 2 = (placeP s c 0 : Nat)) := ⟨by unfold placeP; omega⟩
  have hsI : (s : Int) < 6 := by omega
  have hcI : (c : Int) < 24 := by omega
  go_enter Tryz.func114, Tryz.ntmps114
  go_wp2
  all_goals go_ret
  exact ⟨by rw [← hp.out] <;> rfl, rfl⟩
set_option maxHeartbeats 400000 in
theorem slot_any (k : Nat) (w : World) (h : RG w R base u r tu po wt) (hb : base < 6) (hk : k ≤ 6) : Calls Tryz.prog 86 #[pt R.bk, I k] w fun e w' => e = .returned (I (slotP base k : Nat)) ∧ w = w' := by
  obtain ⟨c0, c1, c2, c3, c4, c5, c6, c7, hl, -⟩ := h.c8
  have hp : Bx (((base : Int) + k) % 6 = (slotP base k : Nat)) := ⟨by unfold slotP; omega⟩
  have hbI : (base : Int) < 6 := by omega
  have hkI : (k : Int) ≤ 6 := by omega
  clear h
  go_enter Tryz.func86, Tryz.ntmps86
  go_wp2
  all_goals go_ret
  exact ⟨by rw [← hp.out] <;> rfl, rfl⟩
def wipeTo (po : Nat → ByteArray) (s k i : Nat) : ByteArray := if i / 48 = s ∧ i / 2 % 24 < k then es else po i
theorem wipeTo_skip {po : Nat → ByteArray} {s k : Nat} (hs : s < 6) (hk : k < 24) (h : ∀ side, side < 2 → po (placeP s k side) = es) (i : Nat) : wipeTo po s k i = wipeTo po s (k + 1) i := by
  unfold wipeTo
  by_cases e : i / 48 = s ∧ i / 2 % 24 = k
  · have hi : i = placeP s k (i % 2) := by unfold placeP; omega
    rw [if_neg (by omega), if_pos (by omega)]
    rw [hi]
    exact h _ (by omega)
  · by_cases e2 : i / 48 = s ∧ i / 2 % 24 < k
    · rw [if_pos e2, if_pos (by omega)]
    · rw [if_neg e2, if_neg (by omega)]
theorem wipeTo_two {po : Nat → ByteArray} {s k : Nat} (hs : s < 6) (hk : k < 24) (i : Nat) : upd (upd (wipeTo po s k) (placeP s k 0) es) (placeP s k 0 + 1) es i = wipeTo po s (k + 1) i := by
  unfold upd wipeTo placeP
  by_cases e : i / 48 = s ∧ i / 2 % 24 = k
  · by_cases e1 : i = (s * 24 + k) * 2 + 0 + 1
    · rw [if_pos e1, if_pos (by omega)]
    · rw [if_neg e1, if_pos (by omega), if_pos (by omega)]
  · rw [if_neg (by omega), if_neg (by omega)]
    by_cases e2 : i / 48 = s ∧ i / 2 % 24 < k
    · rw [if_pos e2, if_pos (by omega)]
    · rw [if_neg e2, if_neg (by omega)]
theorem wipeTo_all {po : Nat → ByteArray} {s : Nat} (i : Nat) : wipeTo po s 24 i = clrP po s i := by
  unfold wipeTo clrP
  by_cases e : i / 48 = s
  · rw [if_pos ⟨e, by omega⟩, if_pos e]
  · rw [if_neg (fun h => e h.1), if_neg e]
set_option maxHeartbeats 4000000 in
theorem wipe_any (s : Nat) (w : World) (h : RG w R base u r tu po wt) (hs : s < 6) (hw : ∀ c, c < 24 → (tu s).getLsbD c = false → ∀ side, side < 2 → po (placeP s c side) = es) :
    Calls Tryz.prog 152 #[pt R.bk, I s] w fun e w' => e = .returned (.tuple #[]) ∧ RG w' R base u r (upd tu s 0#32) (clrP po s) wt ∧ Fr (SR R) w w' := by
  have hG0 := Bx.mk h
  have hsI : (s : Int) < 6 := by omega
  obtain ⟨c0, c1, c2, c3, c4, c5, c6, c7, hl, hz⟩ := h.c8
  have t0 := h.tu.cell s hs
  have hlt := h.tu.lt
  have hPl : Bx (∀ (c : Nat) wx, c < 24 → Calls Tryz.prog 114 #[I s, I c] wx fun e w' => e = .returned (I (placeP s c 0 : Nat)) ∧ wx = w') := ⟨fun c wx hc => place_any s c wx hs hc⟩
  have hw := Bx.mk hw
  generalize hS : tu s = S at t0 hw
  have hz0 : Bx (Gr.U 0#32 = .int .u32 0) := ⟨by simp [uN]⟩
  clear h hz
  go_enter Tryz.func152, Tryz.ntmps152
  go_wp2_with fail
  go_loopw [5] (fun c wr => ∃ k : Nat, k ≤ 24 ∧ c = I (k : Int) ∧ Bx (RG wr R base u r tu (wipeTo po s k) wt) ∧ Bx (Fr (SR R) w wr)) (fun c _ => 24 - (intOf c).toNat)
  case atStart => exact ⟨0, by omega, rfl, ⟨hG0.out.poEq (fun i _ => by unfold wipeTo; rw [if_neg (by omega)])⟩, ⟨Fr.refl _ _⟩⟩
  case round =>
    clear hG0 c0 c1 c2 c3 c4 c5 c6 c7 hl t0 hlt
    obtain ⟨k, hk, rfl, hG, hf⟩ := hrel
    obtain ⟨c0, c1, c2, c3, c4, c5, c6, c7, hl, -⟩ := hG.out.c8
    cases hlt : decide ((k : Int) < 24)
    · have hk24 : Bx (k = 24) := ⟨by simp at hlt; omega⟩
      have t0 := hG.out.tu.cell s hs
      have tz := hG.out.tu.frozen s
      have htl := hG.out.tu.lt
      go_wp2_with fail
      go_end0
      refine ⟨rfl, ?_, fr_cell hf.out (.inr (.inr (.inl rfl)))⟩
      have h2 := (hG.out.setTu s 0#32).poEq (po' := clrP po s) (fun i _ => by rw [hk24.out]; exact wipeTo_all i)
      rw [hz0.out] at h2
      exact h2
    · have hk24 : k < 24 := by simp at hlt; omega
      have hkI : (k : Int) < 24 := by omega
      cases hb : S.getLsbD k
      · have hgo : Bx (RG wr R base u r tu (wipeTo po s (k + 1)) wt) := ⟨hG.out.poEq (fun i _ => wipeTo_skip hs hk24 (hw.out k hk24 hb) i)⟩
        go_wp2_with fail
        go_roundw
        case rel => exact ⟨k + 1, by omega, by go_num, hgo, hf⟩
        case measure => simp [intOf]; omega
      · have hpl := place_lt (s := s) (c := k) (side := 1) hs hk24 (by omega)
        have e1 : placeP s k 1 = placeP s k 0 + 1 := rfl
        rw [e1] at hpl
        have hP := Bx.mk (fun wx => hPl.out k wx hk24)
        have hG2 := Bx.mk (((hG.out.setPo (placeP s k 0) es).setPo (placeP s k 0 + 1) es).poEq (po' := wipeTo po s (k + 1)) (fun i _ => wipeTo_two hs hk24 i))
        have hf2 : Bx (Fr (SR R) w ((wr.setCell ⟨R.pb, placeP s k 0, none⟩ (.string es)).setCell ⟨R.pb, placeP s k 0 + 1, none⟩ (.string es))) := ⟨fr_cell (fr_cell hf.out (.inr (.inl rfl))) (.inr (.inl rfl))⟩
        generalize placeP s k 0 = p at *
        have hpI : (p : Int) < 287 := by omega
        have p0 := hG.out.po.cell p (by omega)
        have p1 := hG.out.po.cell (p + 1) (by omega)
        have z0 := hG.out.po.frozen p
        have z1 := hG.out.po.frozen (p + 1)
        have hpl2 := hG.out.po.lt
        have hne := hG.out.n.n1
        go_wp2_with (first | (go_at_call 114; refine (hP.out _).mono ?_; clear hP; rintro e _ ⟨rfl, rfl⟩))
        go_roundw
        case rel => exact ⟨k + 1, by omega, by go_num, hG2, hf2⟩
        case measure => simp [intOf]; omega
end
end Go.Proofs.Qxb6500326aGreat
