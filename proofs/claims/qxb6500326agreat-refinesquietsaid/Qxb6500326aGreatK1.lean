/-
  DERIVED. THE PLAIN LAW OF LAYER calc: the whole sheet, and the sweep of a change.
-/
import Derived.Test.Qxb6500326aGreatA3
import Derived.Test.Qxb6500326aGreatGOrd
import Derived.Test.Qxb6500326aGreatGInv
namespace Go.Proofs.Qxb6500326aGreat
set_option linter.unusedVariables false
set_option linter.unusedSimpArgs false

/-! ### what a text reads are cells -/
theorem bit_lt {c i : Nat} (h : (bit c).getLsbD i = true) : i = c := by
  unfold bit at h
  rw [BitVec.getLsbD_shiftLeft] at h
  simp at h
  omega
theorem rowSet_lt {r : Int} (h0 : 0 ≤ r) (h1 : r ≤ 5) : ∀ (k : Nat) (c0 : Int) (s : BitVec 32), 0 ≤ c0 → c0 + k ≤ 4 → (∀ i, s.getLsbD i = true → i < 24) → ∀ i, (rowSet r c0 k s).getLsbD i = true → i < 24
  | 0, c0, s, _, _, hs => hs
  | k + 1, c0, s, hc, hk, hs => by
    unfold rowSet
    refine rowSet_lt h0 h1 k (c0 + 1) _ (by omega) (by omega) (fun i hi => ?_)
    rw [BitVec.getLsbD_or, Bool.or_eq_true] at hi
    rcases hi with hi | hi
    · exact hs i hi
    · have := bit_lt hi; omega

/-- A sheet: F c is what the text of c is worth, R c what it reads. -/
structure Sht (R : Nat → BitVec 32) (F : Nat → (Nat → Vl) → Vl) : Prop where
  rd : ∀ c, c < 24 → ∀ d, (R c).getLsbD d = true → d < 24
  ag : ∀ c, c < 24 → ∀ e e', AgrE (R c) e e' → F c e = F c e'
  lw : ∀ c, c < 24 → ∀ e, LwE e → Lw (F c e)
/-- What the cells of a sheet show. -/
structure Fix (R : Nat → BitVec 32) (F : Nat → (Nat → Vl) → Vl) (E : Nat → Vl) : Prop where
  cy : ∀ c, c < 24 → Gr.lev R c < 0 → E c = vErr 6
  wo : ∀ c, c < 24 → 0 ≤ Gr.lev R c → E c = F c E
theorem Sht.down {R : Nat → BitVec 32} {F : Nat → (Nat → Vl) → Vl} (h : Sht R F) {c d : Nat} (hc : c < 24) (hl : 0 ≤ Gr.lev R c) (hd : (R c).getLsbD d = true) : d < 24 ∧ 0 ≤ Gr.lev R d ∧ Gr.lev R d < Gr.lev R c := by
  have h1 := h.rd c hc d hd
  have h2 := Gr.sound_reads R ((Gr.sound_iff R hc).2 hl) d hd
  refine ⟨h1, (Gr.sound_iff R h1).1 h2, ?_⟩
  rw [Gr.lev_top R h.rd hc hl]
  exact (Gr.topTo_spec (Gr.lev R) (R c) 24).1 d h1 hd
theorem fix_unique {R : Nat → BitVec 32} {F : Nat → (Nat → Vl) → Vl} {E E' : Nat → Vl} (h : Sht R F) (a : Fix R F E) (b : Fix R F E') : ∀ c, c < 24 → E c = E' c := by
  have key : ∀ n : Nat, ∀ c, c < 24 → 0 ≤ Gr.lev R c → Gr.lev R c < n → E c = E' c := by
    intro n
    induction n with
    | zero => intro c _ h1 h2; omega
    | succ n ih =>
      intro c hc h1 h2
      rw [a.wo c hc h1, b.wo c hc h1]
      exact h.ag c hc _ _ (fun j hj => by obtain ⟨x1, x2, x3⟩ := h.down hc h1 hj; exact ih j x1 x2 (by omega))
  intro c hc
  by_cases h1 : 0 ≤ Gr.lev R c
  · exact key 24 c hc h1 (Gr.lev_bd R hc).2
  · rw [a.cy c hc (by omega), b.cy c hc (by omega)]
theorem lw_ring : Lw (vErr 6) := .err _ (by decide) (by decide)

/-! ### the model: the whole sheet anew -/
structure ShI (R : Nat → BitVec 32) (F : Nat → (Nat → Vl) → Vl) (s : BitVec 32) (i : Nat) (e : Nat → Vl) : Prop where
  lw : LwE e
  cy : ∀ c, c < 24 → Gr.lev R c < 0 → e c = vErr 6
  done : ∀ c, Gr.inOrd R s c → Gr.pos R s c < i → e c = F c e
theorem ShI.step {R : Nat → BitVec 32} {F : Nat → (Nat → Vl) → Vl} {s : BitVec 32} {i : Nat} {e : Nat → Vl} (hS : Sht R F) (hs : ∀ c, c < 24 → s.getLsbD c = true) (h : ShI R F s i e) (hi : i < (Gr.ord R s).length) :
    ShI R F s (i + 1) (upd e (Gr.nth (Gr.ord R s) i) (F (Gr.nth (Gr.ord R s) i) e)) := by
  obtain ⟨hx, hp⟩ := Gr.ord_at R s hi
  generalize Gr.nth (Gr.ord R s) i = x at hx hp
  refine ⟨fun c hc => ?_, fun c hc hl => ?_, fun c hc hl => ?_⟩
  · unfold upd; split
    · exact hS.lw x hx.1 e h.lw
    · exact h.lw c hc
  · rw [upd_other _ _ (by rintro rfl; have := hx.2.2; omega)]; exact h.cy c hc hl
  · have hag : F c (upd e x (F x e)) = F c e := hS.ag c hc.1 _ _ (fun j hj => by
      obtain ⟨x1, x2, x3⟩ := hS.down hc.1 hc.2.2 hj
      refine upd_other _ _ ?_
      rintro rfl
      have := Gr.pos_lt_of_lev R s hx hc x3
      omega)
    rw [hag]
    by_cases e1 : c = x
    · subst e1; rw [upd_same]
    · rw [upd_other _ _ e1]
      refine h.done c hc ?_
      rcases Nat.lt_or_ge (Gr.pos R s c) i with q | q
      · exact q
      · exact absurd (Gr.pos_inj R s hc hx (by omega)) e1
theorem ShI.final {R : Nat → BitVec 32} {F : Nat → (Nat → Vl) → Vl} {s : BitVec 32} {e : Nat → Vl} (hs : ∀ c, c < 24 → s.getLsbD c = true) (h : ShI R F s (Gr.ord R s).length e) : Fix R F e :=
  ⟨h.cy, fun c hc hl => h.done c ⟨hc, hs c hc, hl⟩ (Gr.pos_bd R s ⟨hc, hs c hc, hl⟩).2.2⟩

/-! ### the real layer: a change's sweep -/
structure Chg (R : Nat → BitVec 32) (F : Nat → (Nat → Vl) → Vl) (E : Nat → Vl) (R' : Nat → BitVec 32) (F' : Nat → (Nat → Vl) → Vl) (c : Nat) : Prop where
  old : Sht R F
  new : Sht R' F'
  fix : Fix R F E
  lw : LwE E
  hc : c < 24
  same : ∀ y, y ≠ c → R' y = R y ∧ F' y = F y
section
variable {R R' : Nat → BitVec 32} {F F' : Nat → (Nat → Vl) → Vl} {E : Nat → Vl} {c : Nat}
theorem Chg.self (h : Chg R F E R' F' c) : (Gr.hang R' (Gr.bit c)).getLsbD c = true := Gr.hang_bit_self R' h.hc
theorem Chg.kept (h : Chg R F E R' F' c) {d : Nat} (hd : d < 24) (hh : (Gr.hang R' (Gr.bit c)).getLsbD d = false) : Gr.lev R d = Gr.lev R' d := by
  have e : R' = upd R c (R' c) := funext fun y => by
    by_cases e : y = c
    · subst e; rw [upd_same]
    · rw [upd_other _ _ e]; exact (h.same y e).1
  rw [e] at hh ⊢
  exact Gr.lev_kept h.hc hd hh
structure SwI (R' : Nat → BitVec 32) (F' : Nat → (Nat → Vl) → Vl) (E : Nat → Vl) (c : Nat) (i : Nat) (t : BitVec 32) (e : Nat → Vl) : Prop where
  lw : LwE e
  out : ∀ y, y < 24 → (Gr.hang R' (Gr.bit c)).getLsbD y = false → e y = E y
  cy : ∀ y, y < 24 → Gr.lev R' y < 0 → e y = vErr 6
  done : ∀ y, Gr.inOrd R' (Gr.hang R' (Gr.bit c)) y → Gr.pos R' (Gr.hang R' (Gr.bit c)) y < i → e y = F' y e
  wait : ∀ y, Gr.inOrd R' (Gr.hang R' (Gr.bit c)) y → i ≤ Gr.pos R' (Gr.hang R' (Gr.bit c)) y → e y = E y
  tn : ∀ y, Gr.inOrd R' (Gr.hang R' (Gr.bit c)) y → Gr.pos R' (Gr.hang R' (Gr.bit c)) y < i → t.getLsbD y = false → e y = E y
/-- blight's work. -/
def blighted (s : BitVec 32) (E : Nat → Vl) (y : Nat) : Vl := if s.getLsbD y = true then vErr 6 else E y
theorem Chg.begin (h : Chg R F E R' F' c) {e : Nat → Vl} (he : ∀ y, y < 24 → e y = blighted (Gr.hang R' (Gr.bit c) &&& Gr.cyc R') E y) : SwI R' F' E c 0 0#32 e := by
  refine ⟨fun y hy => ?_, fun y hy hh => ?_, fun y hy hl => ?_, fun y _ hp => absurd hp (by omega), fun y hy _ => ?_, fun y _ hp => absurd hp (by omega)⟩
  · rw [he y hy]; unfold blighted; split
    · exact lw_ring
    · exact h.lw y hy
  · rw [he y hy]; unfold blighted; rw [if_neg]; rw [BitVec.getLsbD_and, hh]; simp
  · rw [he y hy]; unfold blighted
    cases hh : (Gr.hang R' (Gr.bit c)).getLsbD y
    · rw [if_neg (by rw [BitVec.getLsbD_and, hh]; simp)]
      exact h.fix.cy y hy (by rw [h.kept hy hh]; exact hl)
    · rw [if_pos (by rw [BitVec.getLsbD_and, hh, Gr.mem_cyc]; simp [hy, hl])]
  · rw [he y hy.1]; unfold blighted; rw [if_neg]
    rw [BitVec.getLsbD_and, Gr.mem_cyc]
    have := hy.2.2
    simp; omega
variable {i : Nat} {t : BitVec 32} {e : Nat → Vl}
/-- What x of the order reads is done. -/
theorem Chg.reads (h : Chg R F E R' F' c) {x j : Nat} (hx : Gr.inOrd R' (Gr.hang R' (Gr.bit c)) x) (hj : (R' x).getLsbD j = true) : j < 24 ∧ j ≠ x ∧ ((Gr.hang R' (Gr.bit c)).getLsbD j = false ∨ Gr.inOrd R' (Gr.hang R' (Gr.bit c)) j ∧ Gr.pos R' (Gr.hang R' (Gr.bit c)) j < Gr.pos R' (Gr.hang R' (Gr.bit c)) x) := by
  obtain ⟨x1, x2, x3⟩ := h.new.down hx.1 hx.2.2 hj
  refine ⟨x1, by rintro rfl; omega, ?_⟩
  cases hh : (Gr.hang R' (Gr.bit c)).getLsbD j
  · exact .inl rfl
  · exact .inr ⟨⟨x1, hh, x2⟩, Gr.pos_lt_of_lev R' _ ⟨x1, hh, x2⟩ hx x3⟩
theorem SwI.go (h : Chg R F E R' F' c) (s : SwI R' F' E c i t e) (hi : i < (Gr.ord R' (Gr.hang R' (Gr.bit c))).length)
    (hd : e (Gr.nth (Gr.ord R' (Gr.hang R' (Gr.bit c))) i) = F' (Gr.nth (Gr.ord R' (Gr.hang R' (Gr.bit c))) i) e) : SwI R' F' E c (i + 1) t e := by
  obtain ⟨hx, hp⟩ := Gr.ord_at R' _ hi
  generalize Gr.nth (Gr.ord R' (Gr.hang R' (Gr.bit c))) i = x at hx hp hd
  have key : ∀ y, Gr.inOrd R' (Gr.hang R' (Gr.bit c)) y → Gr.pos R' (Gr.hang R' (Gr.bit c)) y < i + 1 → y = x ∨ Gr.pos R' (Gr.hang R' (Gr.bit c)) y < i := by
    intro y hy hl
    rcases Nat.lt_or_ge (Gr.pos R' (Gr.hang R' (Gr.bit c)) y) i with q | q
    · exact .inr q
    · exact .inl (Gr.pos_inj R' _ hy hx (by omega))
  refine ⟨s.lw, s.out, s.cy, fun y hy hl => ?_, fun y hy hl => s.wait y hy (by omega), fun y hy hl ht => ?_⟩
  · rcases key y hy hl with rfl | q
    · exact hd
    · exact s.done y hy q
  · rcases key y hy hl with rfl | q
    · exact s.wait y hy (by omega)
    · exact s.tn y hy q ht
theorem SwI.skip (h : Chg R F E R' F' c) (s : SwI R' F' E c i t e) (hi : i < (Gr.ord R' (Gr.hang R' (Gr.bit c))).length)
    (h1 : Gr.nth (Gr.ord R' (Gr.hang R' (Gr.bit c))) i ≠ c) (h2 : R' (Gr.nth (Gr.ord R' (Gr.hang R' (Gr.bit c))) i) &&& t = 0#32) (h3 : e (Gr.nth (Gr.ord R' (Gr.hang R' (Gr.bit c))) i) ≠ vErr 6) : SwI R' F' E c (i + 1) t e := by
  refine s.go h hi ?_
  obtain ⟨hx, hp⟩ := Gr.ord_at R' _ hi
  generalize Gr.nth (Gr.ord R' (Gr.hang R' (Gr.bit c))) i = x at hx hp h1 h2 h3
  have hw := s.wait x hx (by omega)
  have hl : 0 ≤ Gr.lev R x := by
    rcases Int.lt_or_le (Gr.lev R x) 0 with q | q
    · exact absurd (hw.trans (h.fix.cy x hx.1 q)) h3
    · exact q
  rw [hw, h.fix.wo x hx.1 hl, ← (h.same x h1).2]
  refine h.new.ag x hx.1 _ _ (fun j hj => ?_)
  obtain ⟨j1, -, j2⟩ := h.reads hx hj
  rcases j2 with j2 | ⟨j2, j3⟩
  · exact (s.out j j1 j2).symm
  · exact (s.tn j j2 (by omega) (Gr.and_zero_iff.1 h2 j hj)).symm
theorem SwI.turn (h : Chg R F E R' F' c) (s : SwI R' F' E c i t e) (hi : i < (Gr.ord R' (Gr.hang R' (Gr.bit c))).length) :
    SwI R' F' E c (i + 1) (t ||| Gr.bit (Gr.nth (Gr.ord R' (Gr.hang R' (Gr.bit c))) i)) (upd e (Gr.nth (Gr.ord R' (Gr.hang R' (Gr.bit c))) i) (F' (Gr.nth (Gr.ord R' (Gr.hang R' (Gr.bit c))) i) e)) := by
  obtain ⟨hx, hp⟩ := Gr.ord_at R' _ hi
  generalize Gr.nth (Gr.ord R' (Gr.hang R' (Gr.bit c))) i = x at hx hp
  have key : ∀ y, Gr.inOrd R' (Gr.hang R' (Gr.bit c)) y → Gr.pos R' (Gr.hang R' (Gr.bit c)) y < i + 1 → y = x ∨ Gr.pos R' (Gr.hang R' (Gr.bit c)) y < i := by
    intro y hy hl
    rcases Nat.lt_or_ge (Gr.pos R' (Gr.hang R' (Gr.bit c)) y) i with q | q
    · exact .inr q
    · exact .inl (Gr.pos_inj R' _ hy hx (by omega))
  have hx24 := hx.1
  refine ⟨fun y hy => ?_, fun y hy hh => ?_, fun y hy hl => ?_, fun y hy hl => ?_, fun y hy hl => ?_, fun y hy hl ht => ?_⟩
  · unfold upd; split
    · exact h.new.lw x hx.1 e s.lw
    · exact s.lw y hy
  · rw [upd_other _ _ (by rintro rfl; rw [hx.2.1] at hh; cases hh)]; exact s.out y hy hh
  · rw [upd_other _ _ (by rintro rfl; have := hx.2.2; omega)]; exact s.cy y hy hl
  · have hag : F' y (upd e x (F' x e)) = F' y e := h.new.ag y hy.1 _ _ (fun j hj => by
      refine upd_other _ _ ?_
      rintro rfl
      obtain ⟨j1, jn, j2⟩ := h.reads hy hj
      rcases j2 with j2 | ⟨j2, j3⟩
      · rw [hx.2.1] at j2; cases j2
      · omega)
    rw [hag]
    rcases key y hy hl with rfl | q
    · rw [upd_same]
    · rw [upd_other _ _ (by rintro rfl; omega)]; exact s.done y hy q
  · rw [upd_other _ _ (by rintro rfl; omega)]; exact s.wait y hy (by omega)
  · have hne : y ≠ x := by
      rintro rfl
      rw [Gr.mem_or, Gr.mem_bit' (by omega)] at ht
      simp at ht
    rw [upd_other _ _ hne]
    rcases key y hy hl with q | q
    · exact absurd q hne
    · refine s.tn y hy q ?_
      rw [Gr.mem_or] at ht
      simp at ht
      exact ht.1
theorem SwI.final (h : Chg R F E R' F' c) (s : SwI R' F' E c (Gr.ord R' (Gr.hang R' (Gr.bit c))).length t e) : Fix R' F' e := by
  refine ⟨s.cy, fun y hy hl => ?_⟩
  cases hh : (Gr.hang R' (Gr.bit c)).getLsbD y
  · have hne : y ≠ c := by rintro rfl; rw [h.self] at hh; cases hh
    rw [s.out y hy hh, h.fix.wo y hy (by rw [h.kept hy hh]; exact hl), ← (h.same y hne).2]
    refine h.new.ag y hy _ _ (fun j hj => ?_)
    have hj24 := h.new.rd y hy j hj
    cases hjh : (Gr.hang R' (Gr.bit c)).getLsbD j
    · exact (s.out j hj24 hjh).symm
    · rw [Gr.hang_closed R' _ hy hj hjh] at hh; cases hh
  · exact s.done y ⟨hy, hh, hl⟩ (Gr.pos_bd R' _ ⟨hy, hh, hl⟩).2.2
end
end Go.Proofs.Qxb6500326aGreat
