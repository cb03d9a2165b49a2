/-
  DERIVED. THE PLAIN LAW OF LAYER book, 1: the ring of records.
-/
import Derived.Test.Qxb6500326aGreatK1
namespace Go.Proofs.Qxb6500326aGreat
set_option linter.unusedVariables false
set_option linter.unusedSimpArgs false

/-! ### sets of cells -/
theorem and_bit (S : BitVec 32) {p : Nat} (hp : p < 32) : (S &&& bit p != 0#32) = S.getLsbD p := by
  cases h : S.getLsbD p
  · have : S &&& bit p = 0#32 := by
      apply BitVec.eq_of_getLsbD_eq
      intro i hi
      rw [BitVec.getLsbD_and]
      cases hb : (bit p).getLsbD i
      · simp
      · rw [bit_lt hb, h]; simp
    rw [this]; rfl
  · have : (S &&& bit p).getLsbD p = true := by
      rw [BitVec.getLsbD_and, h]
      unfold bit
      rw [BitVec.getLsbD_shiftLeft]
      simp [hp]
    simp only [bne_iff_ne, ne_eq]
    intro e
    rw [e] at this
    simp at this
def accB (p : Nat → Bool) : Nat → BitVec 32
  | 0 => 0#32
  | k + 1 => if p k = true then accB p k ||| bit k else accB p k
theorem accB_t {p : Nat → Bool} {k : Nat} (h : p k = true) : accB p k ||| bit k = accB p (k + 1) := by rw [accB, if_pos h]
theorem accB_f {p : Nat → Bool} {k : Nat} (h : p k = false) : accB p k = accB p (k + 1) := by rw [accB, if_neg (by rw [h]; simp)]
theorem bit_at {p i : Nat} (hp : p < 32) : (bit p).getLsbD i = decide (i = p) := by
  unfold bit
  rw [BitVec.getLsbD_shiftLeft]
  by_cases e : i = p
  · subst e; simp [hp]
  · simp [e]; omega
theorem mem_accB (p : Nat → Bool) : ∀ (k : Nat), k ≤ 32 → ∀ i, (accB p k).getLsbD i = (decide (i < k) && p i)
  | 0, _, i => by simp [accB]
  | k + 1, hk, i => by
    have ih := mem_accB p k (by omega) i
    cases h : p k
    · rw [← accB_f h, ih]
      by_cases e : i = k
      · subst e; simp [h]
      · congr 1; exact decide_eq_decide.2 (by omega)
    · rw [← accB_t h, BitVec.getLsbD_or, ih, bit_at (by omega)]
      by_cases e : i = k
      · subst e; simp [h]
      · have : decide (i < k + 1) = decide (i < k) := decide_eq_decide.2 (by omega)
        rw [this]; simp [e]
/-! ### a record -/
abbrev Tx := Nat → ByteArray
def difB (A B : Tx) (c : Nat) : Bool := !((A c).toList == (B c).toList)
def recS (A B : Tx) : BitVec 32 := accB (difB A B) 24
def recT (A B : Tx) (side c : Nat) : ByteArray := if difB A B c = true then (if side = 0 then A c else B c) else es
theorem mem_recS {A B : Tx} {c : Nat} (hc : c < 24) : (recS A B).getLsbD c = difB A B c := by unfold recS; rw [mem_accB _ 24 (by omega)]; simp [hc]
theorem recS_lt {A B : Tx} {c : Nat} (h : (recS A B).getLsbD c = true) : c < 24 := by unfold recS at h; rw [mem_accB _ 24 (by omega)] at h; simp at h; exact h.1
/-! ### the ring -/
def slotP (base k : Nat) : Nat := (base + k) % 6
def placeP (s c side : Nat) : Nat := (s * 24 + c) * 2 + side
theorem slot_lt (base k : Nat) : slotP base k < 6 := Nat.mod_lt _ (by omega)
theorem slot_inj {base j k : Nat} (hj : j < 6) (hk : k < 6) (h : slotP base j = slotP base k) : j = k := by unfold slotP at h; omega
theorem place_slot {s c side : Nat} (hc : c < 24) (hs : side < 2) : placeP s c side / 48 = s := by unfold placeP; omega
theorem place_lt {s c side : Nat} (h : s < 6) (hc : c < 24) (hs : side < 2) : placeP s c side < 288 := by unfold placeP; omega
theorem place_inj {s c side s' c' side' : Nat} (hc : c < 24) (hs : side < 2) (hc' : c' < 24) (hs' : side' < 2) (h : placeP s c side = placeP s' c' side') : s = s' ∧ c = c' ∧ side = side' := by unfold placeP at h; omega
structure SlotR (tu : Nat → BitVec 32) (po : Nat → ByteArray) (s : Nat) (A B : Tx) : Prop where
  tu : tu s = recS A B
  po : ∀ c, c < 24 → ∀ side, side < 2 → po (placeP s c side) = recT A B side c
structure SlotD (tu : Nat → BitVec 32) (po : Nat → ByteArray) (s : Nat) : Prop where
  tu : tu s = 0#32
  po : ∀ c, c < 24 → ∀ side, side < 2 → po (placeP s c side) = es
structure Ring (tu : Nat → BitVec 32) (po : Nat → ByteArray) (base u r : Nat) (H : Nat → Tx) : Prop where
  b : base < 6
  n : u + r ≤ 6
  live : ∀ k, k < u + r → SlotR tu po (slotP base k) (H k) (H (k + 1))
  dead : ∀ k, u + r ≤ k → k < 6 → SlotD tu po (slotP base k)
def clrP (po : Nat → ByteArray) (s i : Nat) : ByteArray := if i / 48 = s then es else po i
def insP (po : Nat → ByteArray) (s : Nat) (A B : Tx) (i : Nat) : ByteArray := if i / 48 = s then recT A B (i % 2) (i / 2 % 24) else po i
section
variable {tu : Nat → BitVec 32} {po : Nat → ByteArray} {base u r : Nat} {H : Nat → Tx}
theorem SlotR.other {s t : Nat} {A B : Tx} {v : BitVec 32} {po' : Nat → ByteArray} (h : SlotR tu po t A B) (hne : t ≠ s) (hp : ∀ i, i / 48 ≠ s → po' i = po i) : SlotR (upd tu s v) po' t A B :=
  ⟨by rw [upd_other _ _ hne]; exact h.tu, fun c hc side hs => by rw [hp _ (by rw [place_slot hc hs]; exact hne)]; exact h.po c hc side hs⟩
theorem SlotD.other {s t : Nat} {v : BitVec 32} {po' : Nat → ByteArray} (h : SlotD tu po t) (hne : t ≠ s) (hp : ∀ i, i / 48 ≠ s → po' i = po i) : SlotD (upd tu s v) po' t :=
  ⟨by rw [upd_other _ _ hne]; exact h.tu, fun c hc side hs => by rw [hp _ (by rw [place_slot hc hs]; exact hne)]; exact h.po c hc side hs⟩
theorem clr_dead (s : Nat) : SlotD (upd tu s 0#32) (clrP po s) s := ⟨upd_same _ _ _, fun c hc side hs => by unfold clrP; rw [if_pos (place_slot hc hs)]⟩
theorem clr_other {s i : Nat} (h : i / 48 ≠ s) : clrP po s i = po i := by unfold clrP; rw [if_neg h]
theorem ins_other {s i : Nat} {A B : Tx} (h : i / 48 ≠ s) : insP po s A B i = po i := by unfold insP; rw [if_neg h]
theorem ins_rec (s : Nat) (A B : Tx) : SlotR (upd tu s (recS A B)) (insP po s A B) s A B := ⟨upd_same _ _ _, fun c hc side hs => by
  unfold insP
  rw [if_pos (place_slot hc hs)]
  have e1 : placeP s c side % 2 = side := by unfold placeP; omega
  have e2 : placeP s c side / 2 % 24 = c := by unfold placeP; omega
  rw [e1, e2]⟩
/-- The last redo is forgotten. -/
theorem Ring.drop (h : Ring tu po base u (r + 1) H) : Ring (upd tu (slotP base (u + r)) 0#32) (clrP po (slotP base (u + r))) base u r H := by
  have hn := h.n
  refine ⟨h.b, by omega, fun k hk => ?_, fun k h1 h2 => ?_⟩
  · exact (h.live k (by omega)).other (fun e => by have := slot_inj (by omega) (by omega) e; omega) (fun i hi => clr_other hi)
  · by_cases e : k = u + r
    · subst e; exact clr_dead _
    · exact (h.dead k (by omega) h2).other (fun e2 => e (slot_inj h2 (by omega) e2)) (fun i hi => clr_other hi)
/-- The oldest command is forgotten. -/
theorem Ring.oldest (h : Ring tu po base (u + 1) 0 H) : Ring (upd tu base 0#32) (clrP po base) (slotP base 1) u 0 (fun k => H (k + 1)) := by
  have hn := h.n
  have hb := h.b
  have hsl : ∀ k, k < 5 → slotP (slotP base 1) k = slotP base (k + 1) := fun k hk => by unfold slotP; omega
  have hs5 : slotP (slotP base 1) 5 = base := by unfold slotP; omega
  have hb0 : slotP base 0 = base := by unfold slotP; omega
  refine ⟨slot_lt _ _, by omega, fun k hk => ?_, fun k h1 h2 => ?_⟩
  · rw [hsl k (by omega)]
    exact (h.live (k + 1) (by omega)).other (fun e => by have := slot_inj (k := 0) (by omega) (by omega) (e.trans hb0.symm); omega) (fun i hi => clr_other hi)
  · by_cases e : k = 5
    · subst e; rw [hs5]; exact clr_dead _
    · rw [hsl k (by omega)]
      exact (h.dead (k + 1) (by omega) (by omega)).other (fun e => by have := slot_inj (k := 0) (by omega) (by omega) (e.trans hb0.symm); omega) (fun i hi => clr_other hi)
/-- A new record. -/
theorem Ring.push (h : Ring tu po base u 0 H) (hu : u < 6) (now : Tx) : Ring (upd tu (slotP base u) (recS (H u) now)) (insP po (slotP base u) (H u) now) base (u + 1) 0 (upd H (u + 1) now) := by
  refine ⟨h.b, by omega, fun k hk => ?_, fun k h1 h2 => ?_⟩
  · by_cases e : k = u
    · subst e
      rw [upd_same, upd_other _ _ (by omega)]
      exact ins_rec _ _ _
    · rw [upd_other _ _ (by omega), upd_other _ _ (by omega)]
      exact (h.live k (by omega)).other (fun e2 => e (slot_inj (by omega) hu e2)) (fun i hi => ins_other hi)
  · exact (h.dead k (by omega) h2).other (fun e => by have := slot_inj h2 hu e; omega) (fun i hi => ins_other hi)
/-- The cursor goes. -/
theorem Ring.back (h : Ring tu po base (u + 1) r H) : Ring tu po base u (r + 1) H := ⟨h.b, by have := h.n; omega, fun k hk => h.live k (by omega), fun k h1 h2 => h.dead k (by omega) h2⟩
theorem Ring.forth (h : Ring tu po base u (r + 1) H) : Ring tu po base (u + 1) r H := ⟨h.b, by have := h.n; omega, fun k hk => h.live k (by omega), fun k h1 h2 => h.dead k (by omega) h2⟩
/-- A record carried over its texts. -/
theorem rec_over {A B : Tx} (hA : ∀ c, 24 ≤ c → A c = B c) (c : Nat) : (if (recS A B).getLsbD c = true then recT A B 0 c else B c) = A c := by
  rcases Nat.lt_or_ge c 24 with hc | hc
  · rw [mem_recS hc]
    unfold recT
    cases hd : difB A B c
    · rw [if_neg (by simp)]
      unfold difB at hd
      have hl : (A c).toList = (B c).toList := by simpa using hd
      have ha : (A c).toList = (A c).data.toList := by rw [ByteArray.toList_eq]
      have hb : (B c).toList = (B c).data.toList := by rw [ByteArray.toList_eq]
      rw [ha, hb] at hl
      exact (ByteArray.ext (Array.toList_inj.1 hl)).symm
    · rfl
  · rw [if_neg (fun h => by have := recS_lt h; omega), hA c hc]
theorem rec_back {A B : Tx} (hA : ∀ c, 24 ≤ c → A c = B c) (c : Nat) : (if (recS A B).getLsbD c = true then recT A B 1 c else A c) = B c := by
  rcases Nat.lt_or_ge c 24 with hc | hc
  · rw [mem_recS hc]
    unfold recT
    cases hd : difB A B c
    · rw [if_neg (by simp)]
      unfold difB at hd
      have hl : (A c).toList = (B c).toList := by simpa using hd
      have ha : (A c).toList = (A c).data.toList := by rw [ByteArray.toList_eq]
      have hb : (B c).toList = (B c).data.toList := by rw [ByteArray.toList_eq]
      rw [ha, hb] at hl
      exact ByteArray.ext (Array.toList_inj.1 hl)
    · rfl
  · rw [if_neg (fun h => by have := recS_lt h; omega), hA c hc]
end
end Go.Proofs.Qxb6500326aGreat
