import Derived.Test.Qxb6500326aGreatH1
import Derived.Test.Qxb6500326aGreatX16
namespace Go.Proofs.Qxb6500326aGreat
set_option maxRecDepth 100000
set_option linter.unusedVariables false
set_option linter.unusedSimpArgs false
open Go.RowKit Go.PlainAid
attribute [local go_sem] bv_and bv_or bv_eq_zero bv_ne_zero bv_bit bv_ne

/-! ### what the ring asks of the editor -/
structure RawC (R : RA) (T : Tx) (P : World → Prop) : Prop where
  fr : ∀ {w w' : World}, P w → Fr (SR R) w w' → P w'
  raw : ∀ {w : World}, P w → ∀ c : Nat, c < 24 → Calls Tryz.prog 52 #[pt R.xe, I c] w fun e w' => e = .returned (.string (T c)) ∧ w = w'
def toK (T W : Tx) (k c : Nat) : ByteArray := if c < k then T c else W c
theorem toK_step (T W : Tx) (k c : Nat) : upd (toK T W k) k (T k) c = toK T W (k + 1) c := by
  unfold upd toK
  by_cases e : c = k
  · subst e; rw [if_pos rfl, if_pos (by omega)]
  · rw [if_neg e]
    by_cases e2 : c < k
    · rw [if_pos e2, if_pos (by omega)]
    · rw [if_neg e2, if_neg (by omega)]
section
variable {R : RA} {base u r : Nat} {tu : Nat → BitVec 32} {po wt : Nat → ByteArray} {T : Tx} {P : World → Prop}
set_option maxHeartbeats 4000000 in
theorem ahead_any (w : World) (h : RG w R base u r tu po wt) (hC : RawC R T P) (hP : P w) : Calls Tryz.prog 115 #[pt R.bk] w fun e w' => e = .returned (.tuple #[]) ∧ RG w' R base u r tu po T ∧ Fr (SR R) w w' := by
  have hG0 := Bx.mk h
  have hC := Bx.mk hC
  have hP := Bx.mk hP
  clear h
  go_enter Tryz.func115, Tryz.ntmps115
  go_wp2_with fail
  go_loopw [2] (fun c wr => ∃ k : Nat, k ≤ 24 ∧ c = I (k : Int) ∧ Bx (RG wr R base u r tu po (toK T wt k)) ∧ Bx (Fr (SR R) w wr)) (fun c _ => 24 - (intOf c).toNat)
  case atStart => exact ⟨0, by omega, rfl, ⟨hG0.out.waEq (fun i _ => by unfold toK; rw [if_neg (by omega)])⟩, ⟨Fr.refl _ _⟩⟩
  case round =>
    clear hG0
    obtain ⟨k, hk, rfl, hG, hf⟩ := hrel
    cases hlt : decide ((k : Int) < 24)
    · have hk24 : Bx (k = 24) := ⟨by simp at hlt; omega⟩
      go_wp2_with fail
      go_end0
      exact ⟨rfl, hG.out.waEq (fun i hi => by unfold toK; rw [if_pos (by rw [hk24.out]; exact hi)]), hf.out⟩
    · have hk24 : k < 24 := by simp at hlt; omega
      have hkI : (k : Int) < 24 := by omega
      have hv := Bx.mk (hC.out.raw (hC.out.fr hP.out (hf.out.drew)) k hk24)
      have hstep := Bx.mk (fun c => toK_step T wt k c)
      generalize T k = y at hv hstep
      obtain ⟨c0, c1, c2, c3, c4, c5, c6, c7, hl, -⟩ := hG.out.c8
      have m0 := hG.out.wa.cell k hk24
      have z0 := hG.out.wa.frozen k
      have hlw := hG.out.wa.lt
      go_wp2_with fail
      refine region_cut (fun w' => ∃ w0, Bx (Fr S0 wr w0) ∧ w' = w0.setCell ⟨R.wb, k, none⟩ (.string y)) ?_
      apply Exists.intro
      apply And.intro
      · go_region_with (first | (go_at_call 52; refine hv.out.mono ?_; rintro e _ ⟨rfl, rfl⟩))
        all_goals exact ⟨rfl, _, ⟨(Fr.refl S0 wr).drew⟩, rfl⟩
      rintro _ ⟨w0, hf0, rfl⟩
      have hG1 : Bx (RG (w0.setCell ⟨R.wb, k, none⟩ (.string y)) R base u r tu po (toK T wt (k + 1))) := ⟨((hG.out.fr0 hf0.out).setWa k y).waEq (fun c _ => hstep.out c)⟩
      have hf1 : Bx (Fr (SR R) w (w0.setCell ⟨R.wb, k, none⟩ (.string y))) := ⟨fr_cell (hf.out.trans hf0.out.up) (.inr (.inr (.inr (.inl rfl))))⟩
      generalize w0.setCell ⟨R.wb, k, none⟩ (.string y) = wq at *
      clear hG hf hv hf0 hstep c0 c1 c2 c3 c4 c5 c6 c7 hl m0 z0 hlw
      go_wp2_with fail
      go_roundw
      case rel => exact ⟨k + 1, by omega, by go_num, hG1, hf1⟩
      case measure => simp [intOf]; omega
theorem SlotR.soft {s : Nat} {A B : Tx} (h : SlotR tu po s A B) : ∀ c, c < 24 → (tu s).getLsbD c = false → ∀ side, side < 2 → po (placeP s c side) = es := fun c hc hb side hs => by
  rw [h.po c hc side hs]
  rw [h.tu, mem_recS hc] at hb
  unfold recT
  rw [if_neg (by rw [hb]; simp)]
theorem SlotD.soft {s : Nat} (h : SlotD tu po s) : ∀ c, c < 24 → (tu s).getLsbD c = false → ∀ side, side < 2 → po (placeP s c side) = es := fun c hc _ side hs => h.po c hc side hs
/-- While the ring is emptied: k slots are dead. -/
structure Emp (tu : Nat → BitVec 32) (po : Nat → ByteArray) (base n k : Nat) (H : Nat → Tx) : Prop where
  b : base < 6
  n6 : n ≤ 6
  old : ∀ j, j < k → j < 6 → SlotD tu po (slotP base j)
  live : ∀ j, k ≤ j → j < n → SlotR tu po (slotP base j) (H j) (H (j + 1))
  dead : ∀ j, n ≤ j → j < 6 → SlotD tu po (slotP base j)
theorem Emp.step {n k : Nat} {H : Nat → Tx} (h : Emp tu po base n k H) (hk : k < n) : Emp (upd tu (slotP base k) 0#32) (clrP po (slotP base k)) base n (k + 1) H := by
  have hn := h.n6
  refine ⟨h.b, hn, fun j h1 h2 => ?_, fun j h1 h2 => ?_, fun j h1 h2 => ?_⟩
  · by_cases e : j = k
    · subst e; exact clr_dead _
    · exact (h.old j (by omega) h2).other (fun e2 => e (slot_inj h2 (by omega) e2)) (fun i hi => clr_other hi)
  · exact (h.live j (by omega) h2).other (fun e2 => by have := slot_inj (by omega) (by omega) e2; omega) (fun i hi => clr_other hi)
  · exact (h.dead j h1 h2).other (fun e2 => by have := slot_inj h2 (by omega) e2; omega) (fun i hi => clr_other hi)
theorem Emp.done {n : Nat} {H H' : Nat → Tx} (h : Emp tu po base n n H) : Ring tu po 0 0 0 H' := by
  refine ⟨by omega, by omega, fun k hk => absurd hk (by omega), fun k _ h2 => ?_⟩
  have hb := h.b
  have e : slotP 0 k = slotP base ((k + 6 - base) % 6) := by unfold slotP; omega
  rw [e]
  have hj : (k + 6 - base) % 6 < 6 := Nat.mod_lt _ (by omega)
  rcases Nat.lt_or_ge ((k + 6 - base) % 6) n with h3 | h3
  · exact h.old _ h3 hj
  · exact h.dead _ h3 hj
set_option maxHeartbeats 8000000 in
theorem forget_any {H : Nat → Tx} (w : World) (h : RG w R base u r tu po wt) (hR : Ring tu po base u r H) : Calls Tryz.prog 120 #[pt R.bk] w fun e w' => e = .returned (.tuple #[]) ∧ (∃ tu' po', RG w' R 0 0 0 tu' po' wt ∧ ∀ H', Ring tu' po' 0 0 0 H') ∧ Fr (SR R) w w' := by
  have hG0 := Bx.mk h
  have hE0 : Bx (Emp tu po base (u + r) 0 H) := ⟨⟨hR.b, hR.n, fun j h1 _ => absurd h1 (by omega), fun j _ h2 => hR.live j h2, hR.dead⟩⟩
  have hb := hR.b
  have hn6 := hR.n
  clear h hR
  go_enter Tryz.func120, Tryz.ntmps120
  go_wp2_with fail
  go_loopw [2] (fun c wr => ∃ (k : Nat) (tu' : Nat → BitVec 32) (po' : Nat → ByteArray), k ≤ u + r ∧ c = I (k : Int) ∧ Bx (RG wr R base u r tu' po' wt) ∧ Bx (Emp tu' po' base (u + r) k H) ∧ Bx (Fr (SR R) w wr)) (fun c _ => (u + r) - (intOf c).toNat)
  case atStart => exact ⟨0, tu, po, by omega, rfl, hG0, hE0, ⟨Fr.refl _ _⟩⟩
  case round =>
    clear hG0 hE0
    obtain ⟨k, tu', po', hk, rfl, hG, hE, hf⟩ := hrel
    obtain ⟨c0, c1, c2, c3, c4, c5, c6, c7, hl, hz⟩ := hG.out.c8
    have z3 := hz 3
    have z4 := hz 4
    have z5 := hz 5
    clear hz
    have huI : (u : Int) ≤ 6 := by omega
    have hrI : (r : Int) ≤ 6 := by omega
    have hkI : (k : Int) ≤ 6 := by omega
    go_wp2_with fail
    go_quiet (fail)
    cases hlt : decide ((k : Int) < (u : Int) + (r : Int))
    · have hkn : Bx (k = u + r) := ⟨by simp at hlt; omega⟩
      have hfin := Bx.mk (bk_redos (bk_undos (bk_base hG.out 0) 0) 0)
      go_wp2_with fail
      go_end0
      refine ⟨rfl, ⟨tu', po', hfin.out.fr0 ?_, fun H' => ?_⟩, ?_⟩
      · exact ⟨rfl, rfl, rfl, Nat.le_refl _, fun _ _ _ => rfl⟩
      · have := hE.out; rw [hkn.out] at this; exact this.done
      · exact fr_cell (fr_cell (fr_cell (hf.out.drewN _) (.inl rfl)) (.inl rfl)) (.inl rfl)
    · have hkn : k < u + r := by simp at hlt; omega
      have hS := Bx.mk (fun wx (f : Fr S0 wr wx) => slot_any k wx (hG.out.fr0 f) hb (by omega))
      have hSR := hE.out.live k (Nat.le_refl _) hkn
      have hWp := Bx.mk (fun wx (f : Fr S0 wr wx) => wipe_any (slotP base k) wx (hG.out.fr0 f) (slot_lt _ _) hSR.soft)
      have hE2 := Bx.mk (hE.out.step hkn)
      clear hSR
      generalize slotP base k = s at *
      have fd : Bx (∀ n, Fr S0 wr (wr.drewN n)) := ⟨fun n => (Fr.refl S0 wr).drewN n⟩
      go_wp2_with (first
        | (go_at_call 86; refine (hS.out _ (fd.out _)).mono ?_; clear hS; rintro e _ ⟨rfl, rfl⟩)
        | (go_at_call 152; refine (hWp.out _ (fd.out _)).mono ?_; clear hWp; rintro e w2 ⟨rfl, hG2, hf2⟩; have hG2 := Bx.mk hG2; have hf2 := Bx.mk ((hf.out.drewN _).trans hf2)))
      go_roundw
      case rel => exact ⟨k + 1, _, _, by omega, by go_num, hG2, hE2, hf2⟩
      case measure => simp [intOf]; omega
end
end Go.Proofs.Qxb6500326aGreat
