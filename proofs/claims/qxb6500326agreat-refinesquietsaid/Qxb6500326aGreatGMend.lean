import Derived.Test.Qxb6500326aGreatGClo
import Derived.Test.Qxb6500326aGreatGMem
namespace Go.Proofs.Qxb6500326aGreat.Gr
set_option linter.unusedVariables false
set_option linter.unusedSimpArgs false
/-- What mend finds: R: who reads whom now; h: what hangs on the cell; sick: the cyclic cells outside; l0: the levels before. -/
structure MCtx (R rb : Nat → BitVec 32) (h sick : BitVec 32) (l0 : Nat → Int) : Prop where
  hR : ∀ c, c < 24 → ∀ d, (R c).getLsbD d = true → d < 24
  hT : ∀ c d, c < 24 → d < 24 → (rb d).getLsbD c = (R c).getLsbD d
  hrb : ∀ d, d < 24 → ∀ c, (rb d).getLsbD c = true → c < 24
  cells : ∀ d, h.getLsbD d = true → d < 24
  closed : ∀ c d, c < 24 → (R c).getLsbD d = true → h.getLsbD d = true → h.getLsbD c = true
  out : ∀ d, d < 24 → h.getLsbD d = false → sick.getLsbD d = false → l0 d = lev R d ∧ 0 ≤ lev R d
  sick : ∀ d, sick.getLsbD d = true → d < 24 ∧ h.getLsbD d = false ∧ l0 d = -1 ∧ ∃ e, (R d).getLsbD e = true ∧ sick.getLsbD e = true
  bd : ∀ d, d < 24 → -1 ≤ l0 d ∧ l0 d < 24
def cnt (R : Nat → BitVec 32) (h : BitVec 32) (d : Nat) : Nat := pcTo (R d &&& h) 32
theorem cnt_le (R : Nat → BitVec 32) (h : BitVec 32) (d : Nat) : cnt R h d ≤ 32 := pcTo_le _ _
theorem cnt_zero {R : Nat → BitVec 32} {h : BitVec 32} {d : Nat} : cnt R h d = 0 ↔ R d &&& h = 0#32 := by
  constructor
  · exact pc_zero_of _
  · intro e
    unfold cnt
    rw [e]
    decide
/-- Is d ripe at the start? -/
def ripeP (R : Nat → BitVec 32) (h sick : BitVec 32) (d : Nat) : Bool := h.getLsbD d && ((cnt R h d : Int) == 0) && (R d &&& sick == 0#32)
structure Mend2 (R : Nat → BitVec 32) (h sick : BitVec 32) (l0 : Nat → Int) (left ripe : BitVec 32) (level need : Nat → Int) : Prop where
  sub : ∀ d, left.getLsbD d = true → h.getLsbD d = true
  need : ∀ d, h.getLsbD d = true → need d = (cnt R left d : Int)
  ripe : ∀ d, ripe.getLsbD d = true ↔ left.getLsbD d = true ∧ R d &&& left = 0#32 ∧ R d &&& sick = 0#32
  settled : ∀ d, h.getLsbD d = true → left.getLsbD d = false → level d = lev R d ∧ 0 ≤ lev R d
  wait : ∀ d, left.getLsbD d = true → level d = l0 d
  rest : ∀ d, h.getLsbD d = false → level d = l0 d
  shut : ∀ d, h.getLsbD d = true → left.getLsbD d = false → R d &&& left = 0#32
section
variable {R rb : Nat → BitVec 32} {h sick : BitVec 32} {l0 : Nat → Int}
theorem Mend2.begin (ctx : MCtx R rb h sick l0) {need : Nat → Int} (hn : ∀ d, d < 24 → h.getLsbD d = true → need d = (cnt R h d : Int)) : Mend2 R h sick l0 h (accTo (ripeP R h sick) 0#32 24) l0 need := by
  refine ⟨fun _ h => h, fun d hd => hn d (ctx.cells d hd) hd, fun d => ?_, fun d h1 h2 => (by rw [h1] at h2; exact absurd h2 (by simp)), fun _ _ => rfl, fun _ _ => rfl, fun d h1 h2 => (by rw [h1] at h2; exact absurd h2 (by simp))⟩
  rw [mem_acc _ _ 24 (by omega)]
  unfold ripeP
  simp only [BitVec.getLsbD_zero, Bool.false_or, Bool.and_eq_true, decide_eq_true_eq, beq_iff_eq]
  constructor
  · rintro ⟨-, ⟨h1, h2⟩, h3⟩
    exact ⟨h1, cnt_zero.1 (by omega), h3⟩
  · rintro ⟨h1, h2, h3⟩
    exact ⟨ctx.cells d h1, ⟨h1, by rw [cnt_zero.2 h2]; rfl⟩, h3⟩
variable {left ripe : BitVec 32} {level need : Nat → Int}
theorem Mend2.bd (ctx : MCtx R rb h sick l0) (m : Mend2 R h sick l0 left ripe level need) : ∀ d, d < 24 → -1 ≤ level d ∧ level d < 24 := by
  intro d hd
  cases hh : h.getLsbD d
  · rw [m.rest d hh]; exact ctx.bd d hd
  · cases hl : left.getLsbD d
    · rw [(m.settled d hh hl).1]; exact lev_bd R hd
    · rw [m.wait d hl]; exact ctx.bd d hd
theorem Mend2.low (ctx : MCtx R rb h sick l0) (m : Mend2 R h sick l0 left ripe level need) (hz : ripe ≠ 0#32) : lo ripe < 24 :=
  ctx.cells _ (m.sub _ ((m.ripe _).1 (lo_spec hz).2.1).1)
/-- The level that a ripe cell is given is the right one. -/
theorem Mend2.top (ctx : MCtx R rb h sick l0) (m : Mend2 R h sick l0 left ripe level need) {d : Nat} (hd : ripe.getLsbD d = true) : topTo level (R d) 24 = lev R d ∧ 0 ≤ lev R d := by
  obtain ⟨h1, h2, h3⟩ := (m.ripe d).1 hd
  have hd24 := ctx.cells d (m.sub d h1)
  rw [and_zero_iff] at h2 h3
  have hgood : ∀ e, (R d).getLsbD e = true → level e = lev R e ∧ 0 ≤ lev R e := by
    intro e he
    have he24 := ctx.hR d hd24 e he
    cases hh : h.getLsbD e
    · rw [m.rest e hh]; exact ctx.out e he24 hh (h3 e he)
    · exact m.settled e hh (h2 e he)
  have hs : 0 ≤ lev R d := by
    rw [← sound_iff R hd24]
    exact sound_of R hd24 (fun e he => (sound_iff R (ctx.hR d hd24 e he)).2 (hgood e he).2)
  refine ⟨?_, hs⟩
  rw [topTo_congr (fun e _ he => (hgood e he).1)]
  exact (lev_top R ctx.hR hd24 hs).symm
/-- d has been settled; need and ripe have followed. -/
theorem Mend2.pop (ctx : MCtx R rb h sick l0) (m : Mend2 R h sick l0 left ripe level need) (hz : ripe ≠ 0#32) {need' : Nat → Int}
    (hn : ∀ r, r < 24 → need' r = if (rb (lo ripe) &&& h).getLsbD r then need r - 1 else need r) :
    Mend2 R h sick l0 (left &&& ~~~bit (lo ripe)) (accTo (fun r => (rb (lo ripe) &&& h).getLsbD r && (need r - 1 == 0) && (R r &&& sick == 0#32)) (ripe &&& (ripe - 1#32)) 24) (upd level (lo ripe) (lev R (lo ripe))) need' := by
  have hlo := m.low ctx hz
  have hsp := (lo_spec hz).2.1
  obtain ⟨hl, hrl, hrs⟩ := (m.ripe _).1 hsp
  have hself : (R (lo ripe)).getLsbD (lo ripe) = false := by
    cases hx : (R (lo ripe)).getLsbD (lo ripe)
    · rfl
    · rw [and_zero_iff.1 hrl _ hx] at hl; cases hl
  have hleft : ∀ i, (left &&& ~~~bit (lo ripe)).getLsbD i = (left.getLsbD i && decide (i ≠ lo ripe)) := by
    intro i
    rw [mem_andNot, mem_bit' (by omega)]
    by_cases e : i = lo ripe <;> simp [e]
  -- the count of a reader of d falls by one
  have hcnt : ∀ r, (cnt R left r : Int) = cnt R (left &&& ~~~bit (lo ripe)) r + if (R r).getLsbD (lo ripe) then 1 else 0 := by
    intro r
    unfold cnt
    cases hx : (R r).getLsbD (lo ripe)
    · have e : R r &&& left = R r &&& (left &&& ~~~bit (lo ripe)) := set_ext (fun i _ => by
        rw [mem_and, mem_and, hleft]
        by_cases e : i = lo ripe
        · rw [e, hx]; rfl
        · simp [e])
      rw [e]; simp
    · have e : R r &&& left = (R r &&& (left &&& ~~~bit (lo ripe))) ||| bit (lo ripe) := set_ext (fun i _ => by
        rw [mem_and, mem_or, mem_and, hleft, mem_bit' (by omega)]
        by_cases e : i = lo ripe
        · rw [e, hx, hl]; simp
        · simp [e])
      rw [e, pcTo_or, pcTo_bit (by omega), if_pos (by omega)]
      · simp
      · intro i hi
        rw [mem_and, hleft, Bool.and_eq_true, Bool.and_eq_true] at hi
        rw [mem_bit' (by omega)]
        simpa using hi.2.2
  have hsub : ∀ r, R r &&& left = 0#32 → R r &&& (left &&& ~~~bit (lo ripe)) = 0#32 := by
    intro r hr
    rw [and_zero_iff] at hr ⊢
    intro i hi
    rw [hleft, hr i hi]; rfl
  have hrd : ∀ r, r < 24 → h.getLsbD r = true → (rb (lo ripe) &&& h).getLsbD r = (R r).getLsbD (lo ripe) := by
    intro r hr hh
    rw [mem_and, hh, ctx.hT r (lo ripe) hr hlo, Bool.and_true]
  refine ⟨fun d hd => ?_, fun d hd => ?_, fun d => ?_, fun d h1 h2 => ?_, fun d hd => ?_, fun d hd => ?_, fun d h1 h2 => ?_⟩
  · rw [hleft, Bool.and_eq_true] at hd; exact m.sub d hd.1
  · have hd24 := ctx.cells d hd
    rw [hn d hd24, hrd d hd24 hd, m.need d hd]
    have := hcnt d
    cases hx : (R d).getLsbD (lo ripe)
    · rw [hx] at this; simp at this ⊢; omega
    · rw [hx] at this; simp at this ⊢; omega
  · rw [mem_acc _ _ 24 (by omega), Bool.or_eq_true, mem_drop hz]
    simp only [Bool.and_eq_true, decide_eq_true_eq, beq_iff_eq]
    constructor
    · rintro (⟨h1, h2⟩ | ⟨h1, ⟨h2, h3⟩, h4⟩)
      · obtain ⟨a, b, c⟩ := (m.ripe d).1 h1
        exact ⟨by rw [hleft, a]; simpa using h2, hsub d b, c⟩
      · rw [mem_and, Bool.and_eq_true] at h2
        have hx : (R d).getLsbD (lo ripe) = true := by rw [← ctx.hT d (lo ripe) h1 hlo]; exact h2.1
        have e1 := m.need d h2.2
        have e2 := hcnt d
        rw [hx] at e2
        simp at e2
        have hld : left.getLsbD d = true := by
          cases hl2 : left.getLsbD d
          · rw [and_zero_iff.1 (m.shut d h2.2 hl2) _ hx] at hl
            exact absurd hl (by simp)
          · rfl
        refine ⟨?_, cnt_zero.1 (by omega), h4⟩
        rw [hleft, hld]
        have : d ≠ lo ripe := fun e => by rw [e, hself] at hx; cases hx
        simpa using this
    · rintro ⟨h1, h2, h3⟩
      rw [hleft, Bool.and_eq_true] at h1
      have hd24 := ctx.cells d (m.sub d h1.1)
      by_cases hx : (R d).getLsbD (lo ripe) = true
      · right
        refine ⟨hd24, ⟨by rw [hrd d hd24 (m.sub d h1.1)]; exact hx, ?_⟩, h3⟩
        have e1 := m.need d (m.sub d h1.1)
        have e2 := hcnt d
        rw [hx, cnt_zero.2 h2] at e2
        simp at e2
        omega
      · left
        refine ⟨(m.ripe d).2 ⟨h1.1, ?_, h3⟩, by simpa using h1.2⟩
        rw [Bool.not_eq_true] at hx
        have e2 := hcnt d
        rw [hx, cnt_zero.2 h2] at e2
        simp at e2
        exact cnt_zero.1 e2
  · rw [hleft] at h2
    by_cases e : d = lo ripe
    · subst e
      rw [upd_same]
      exact ⟨rfl, (m.top ctx hsp).2⟩
    · rw [upd_other _ _ e]
      exact m.settled d h1 (by simpa [e] using h2)
  · rw [hleft, Bool.and_eq_true] at hd
    rw [upd_other _ _ (by simpa using hd.2)]
    exact m.wait d hd.1
  · have e : d ≠ lo ripe := fun e => by rw [e, m.sub _ hl] at hd; cases hd
    rw [upd_other _ _ e]
    exact m.rest d hd
  · rw [hleft] at h2
    by_cases e : d = lo ripe
    · subst e; exact hsub _ hrl
    · exact hsub d (m.shut d h1 (by simpa [e] using h2))
/-- What is left over is cyclic; all levels are right. -/
theorem Mend2.final (ctx : MCtx R rb h sick l0) (m : Mend2 R h sick l0 left 0#32 level need) :
    (∀ d, d < 24 → (if left.getLsbD d then -1 else level d) = lev R d) ∧ sick ||| left = cyc R := by
  have hcyc : ∀ d, d < 24 → (left.getLsbD d = true ∨ sick.getLsbD d = true) → lev R d < 0 := by
    intro d hd hz
    refine cyc_of R (Z := fun d => left.getLsbD d = true ∨ sick.getLsbD d = true) (fun d hz => ?_) hd hz
    rcases hz with hz | hz
    · have hn : ¬ (R d &&& left = 0#32 ∧ R d &&& sick = 0#32) := fun hc => by
        have := (m.ripe d).2 ⟨hz, hc.1, hc.2⟩
        simp at this
      by_cases h1 : R d &&& left = 0#32
      · have h2 : R d &&& sick ≠ 0#32 := fun h2 => hn ⟨h1, h2⟩
        obtain ⟨e, a, b⟩ := and_ne_iff.1 h2
        exact ⟨e, a, .inr b⟩
      · obtain ⟨e, a, b⟩ := and_ne_iff.1 h1
        exact ⟨e, a, .inl b⟩
    · obtain ⟨_, _, _, e, a, b⟩ := ctx.sick d hz
      exact ⟨e, a, .inr b⟩
  have hgood : ∀ d, d < 24 → left.getLsbD d = false → sick.getLsbD d = false → level d = lev R d ∧ 0 ≤ lev R d := by
    intro d hd h1 h2
    cases hh : h.getLsbD d
    · rw [m.rest d hh]; exact ctx.out d hd hh h2
    · exact m.settled d hh h1
  refine ⟨fun d hd => ?_, set_ext (fun d _ => ?_)⟩
  · cases h1 : left.getLsbD d
    · simp only [Bool.false_eq_true, if_false]
      cases h2 : sick.getLsbD d
      · exact (hgood d hd h1 h2).1
      · obtain ⟨_, b, c, _⟩ := ctx.sick d h2
        rw [m.rest d b, c]
        have := hcyc d hd (.inr h2)
        have := lev_bd R hd
        omega
    · simp only [if_true]
      have := hcyc d hd (.inl h1)
      have := lev_bd R hd
      omega
  · rw [mem_or, mem_cyc]
    by_cases hd : d < 24
    · cases h1 : left.getLsbD d
      · cases h2 : sick.getLsbD d
        · have := (hgood d hd h1 h2).2
          have : ¬ lev R d < 0 := by omega
          simp [this]
        · have := hcyc d hd (.inr h2)
          simp [hd, this]
      · have := hcyc d hd (.inl h1)
        simp [hd, this]
    · have h1 : left.getLsbD d = false := by
        cases hx : left.getLsbD d
        · rfl
        · exact absurd (ctx.cells d (m.sub d hx)) hd
      have h2 : sick.getLsbD d = false := by
        cases hx : sick.getLsbD d
        · rfl
        · exact absurd (ctx.sick d hx).1 hd
      simp [h1, h2, hd]
end
end Go.Proofs.Qxb6500326aGreat.Gr
