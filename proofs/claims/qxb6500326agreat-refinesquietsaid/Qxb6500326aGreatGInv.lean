import Derived.Test.Qxb6500326aGreatGMend
namespace Go.Proofs.Qxb6500326aGreat.Gr
set_option linter.unusedVariables false
set_option linter.unusedSimpArgs false
/-- The layer's state against the model's: what the invariant says. -/
structure XI (x : XS) (R : Nat → BitVec 32) : Prop where
  reads : x.reads = R
  hR : ∀ c, c < 24 → ∀ d, (R c).getLsbD d = true → d < 24
  hT : ∀ c d, c < 24 → d < 24 → (x.readBy d).getLsbD c = (R c).getLsbD d
  hrb : ∀ d, d < 24 → ∀ c, (x.readBy d).getLsbD c = true → c < 24
  level : ∀ c, c < 24 → x.level c = lev R c
  cyc : x.cyc = cyc R
/-- readBy behind the edges' turning. -/
def turned (rb : Nat → BitVec 32) (c : Nat) (old s : BitVec 32) (d : Nat) : BitVec 32 :=
  if (s &&& ~~~old).getLsbD d then (if (old &&& ~~~s).getLsbD d then rb d &&& ~~~bit c else rb d) ||| bit c else (if (old &&& ~~~s).getLsbD d then rb d &&& ~~~bit c else rb d)
theorem mem_turned {rb : Nat → BitVec 32} {c : Nat} {old s : BitVec 32} {d : Nat} (hc : c < 24) (h : (rb d).getLsbD c = old.getLsbD d) (r : Nat) :
    (turned rb c old s d).getLsbD r = if r = c then s.getLsbD d else (rb d).getLsbD r := by
  unfold turned
  rw [mem_andNot, mem_andNot]
  by_cases e : r = c
  · subst e
    rw [if_pos rfl]
    cases h1 : old.getLsbD d <;> cases h2 : s.getLsbD d <;> simp [mem_or, mem_andNot, mem_bit' (show r < 32 by omega), h, h1]
  · rw [if_neg e]
    cases h1 : old.getLsbD d <;> cases h2 : s.getLsbD d <;> simp [mem_or, mem_andNot, mem_bit' (show c < 32 by omega), e]
    exact fun h => mem_lt h
theorem upd_in {R : Nat → BitVec 32} {c : Nat} {s : BitVec 32} (hR : ∀ c, c < 24 → ∀ d, (R c).getLsbD d = true → d < 24) (hs : s &&& Out = 0#32) : ∀ k, k < 24 → ∀ d, (upd R c s k).getLsbD d = true → d < 24 := by
  intro k hk d hd
  unfold upd at hd
  split at hd
  · exact in_All.1 hs d hd
  · exact hR k hk d hd
theorem hang_bit_self (R : Nat → BitVec 32) {c : Nat} (hc : c < 24) : (hang R (bit c)).getLsbD c = true := hang_start R _ hc (by rw [mem_bit' (by omega)]; simp)
/-- What mend asks, behind the edges' turning. -/
theorem mctx {x : XS} {R : Nat → BitVec 32} (hi : XI x R) {c : Nat} {s : BitVec 32} (hc : c < 24) (hs : s &&& Out = 0#32) :
    MCtx (upd R c s) (turned x.readBy c (R c) s) (hang (upd R c s) (bit c)) (x.cyc &&& ~~~hang (upd R c s) (bit c)) x.level := by
  have hR' := upd_in (c := c) hi.hR hs
  have hself := hang_bit_self (upd R c s) hc
  have hsame : ∀ d, (hang (upd R c s) (bit c)).getLsbD d = false → upd R c s d = R d := by
    intro d hd
    refine upd_other _ _ (fun e => ?_)
    rw [e, hself] at hd; cases hd
  have hcl : ∀ a d, a < 24 → (upd R c s a).getLsbD d = true → (hang (upd R c s) (bit c)).getLsbD a = false → (hang (upd R c s) (bit c)).getLsbD d = false := by
    intro a d ha h1 h2
    cases hx : (hang (upd R c s) (bit c)).getLsbD d
    · rfl
    · rw [hang_closed _ _ ha h1 hx] at h2; cases h2
  have hloc : ∀ d, d < 24 → (hang (upd R c s) (bit c)).getLsbD d = false → lev R d = lev (upd R c s) d := by
    intro d hd hh
    refine lev_local (N := fun d => (hang (upd R c s) (bit c)).getLsbD d = false) (fun d h1 h2 => ⟨(hsame d h1).symm, fun e he => ?_⟩) hd hh
    rw [← hsame d h1] at he
    exact hcl d e h2 he h1
  have hT' : ∀ a d, a < 24 → d < 24 → (turned x.readBy c (R c) s d).getLsbD a = (upd R c s a).getLsbD d := by
    intro a d ha hd
    rw [mem_turned hc (hi.hT c d hc hd)]
    unfold upd
    split
    · rfl
    · exact hi.hT a d ha hd
  refine ⟨hR', hT', fun d hd a ha => ?_, fun d hd => hang_cells _ _ hd, fun a d ha h1 h2 => hang_closed _ _ ha h1 h2, fun d hd h1 h2 => ?_, fun d hd => ?_, fun d hd => ?_⟩
  · rw [mem_turned hc (hi.hT c d hc hd)] at ha
    split at ha
    · omega
    · exact hi.hrb d hd a ha
  · rw [hi.level d hd, hloc d hd h1]
    refine ⟨rfl, ?_⟩
    rw [mem_andNot, h1, hi.cyc, mem_cyc] at h2
    simp [hd] at h2
    rw [← hloc d hd h1]; exact h2
  · rw [mem_andNot, Bool.and_eq_true, hi.cyc] at hd
    obtain ⟨h1, h2⟩ := hd
    have h3 := h1
    rw [mem_cyc, Bool.and_eq_true, decide_eq_true_eq, decide_eq_true_eq] at h3
    have h2' : (hang (upd R c s) (bit c)).getLsbD d = false := by simpa using h2
    refine ⟨h3.1, h2', ?_, ?_⟩
    · rw [hi.level d h3.1]; have := lev_bd R h3.1; omega
    · obtain ⟨e, a, b⟩ := cyc_reads R hi.hR h1
      rw [← hsame d h2'] at a
      refine ⟨e, a, ?_⟩
      rw [mem_andNot, hi.cyc, b, hcl d e h3.1 a h2']; rfl
  · rw [hi.level d hd]; exact lev_bd R hd
/-- What hangs on no c keeps its level. -/
theorem lev_kept {R : Nat → BitVec 32} {c : Nat} {s : BitVec 32} (hc : c < 24) {d : Nat} (hd : d < 24) (hh : (hang (upd R c s) (bit c)).getLsbD d = false) : lev R d = lev (upd R c s) d := by
  have hself := hang_bit_self (upd R c s) hc
  have hsame : ∀ d, (hang (upd R c s) (bit c)).getLsbD d = false → upd R c s d = R d := by
    intro d hd
    refine upd_other _ _ (fun e => ?_)
    rw [e, hself] at hd; cases hd
  refine lev_local (N := fun d => (hang (upd R c s) (bit c)).getLsbD d = false) (fun d h1 h2 => ⟨(hsame d h1).symm, fun e he => ?_⟩) hd hh
  rw [← hsame d h1] at he
  cases hx : (hang (upd R c s) (bit c)).getLsbD e
  · rfl
  · rw [hang_closed _ _ h2 he hx] at h1; cases h1
theorem mend_hang {x : XS} {R : Nat → BitVec 32} (hi : XI x R) {c : Nat} {s : BitVec 32} (hc : c < 24) (hs : s &&& Out = 0#32) :
    ∀ h', HInv (turned x.readBy c (R c) s) (bit c &&& All) h' 0#32 → h' = hang (upd R c s) (bit c) := by
  intro h' hh
  have m := mctx hi hc hs
  exact hang_eq _ _ _ _ m.hT m.hR m.hrb hh
/-- Nothing reads anything. -/
theorem lev_none {c : Nat} (hc : c < 24) : lev (fun _ => 0#32) c = 0 := by
  have h1 : (lvs (fun _ => 0#32) 1).1 c = 0 := by
    rw [lvs_fst]
    have : ripens (fun _ => 0#32) (lvs (fun _ => 0#32) 0).1 (lvs (fun _ => 0#32) 0).2 c = true := by
      rw [ripens_iff]
      exact ⟨by simp [lvs], fun d hd => by simp at hd⟩
    rw [this]; rfl
  have := lvs_stay (fun _ => 0#32) (show 1 ≤ 24 by omega) hc (by omega)
  unfold lev
  rw [this, h1]
theorem cyc_none : cyc (fun _ => 0#32) = 0#32 := by
  rw [eq_zero_iff]
  intro i
  rw [mem_cyc]
  by_cases h : i < 24
  · rw [lev_none h]; simp
  · simp [h]
end Go.Proofs.Qxb6500326aGreat.Gr
