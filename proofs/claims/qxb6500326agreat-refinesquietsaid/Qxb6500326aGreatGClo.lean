import Derived.Test.Qxb6500326aGreatGLev
namespace Go.Proofs.Qxb6500326aGreat.Gr
set_option linter.unusedVariables false
set_option linter.unusedSimpArgs false
section
variable (R : Nat → BitVec 32)
theorem hangTo_succ (s : BitVec 32) (k : Nat) : hangTo R s (k + 1) = if R k &&& hangTo R s k != 0#32 then hangTo R s k ||| bit k else hangTo R s k := rfl
theorem hangTo_mono (s : BitVec 32) (k i : Nat) (h : s.getLsbD i = true) : (hangTo R s k).getLsbD i = true := by
  induction k with
  | zero => exact h
  | succ k ih =>
    rw [hangTo_succ]
    split
    · rw [mem_or, ih]; rfl
    · exact ih
theorem hangTo_le (s : BitVec 32) {k n : Nat} (hk : k ≤ n) (i : Nat) (h : (hangTo R s k).getLsbD i = true) : (hangTo R s n).getLsbD i = true := by
  induction n with
  | zero => rw [show k = 0 by omega] at h; exact h
  | succ n ih =>
    by_cases e : k = n + 1
    · subst e; exact h
    · rw [hangTo_succ]
      split
      · rw [mem_or, ih (by omega)]; rfl
      · exact ih (by omega)
theorem hangTo_least (s : BitVec 32) (k : Nat) (hk : k ≤ 24) (T : Nat → Prop) (h1 : ∀ i, s.getLsbD i = true → T i) (h2 : ∀ c d, c < 24 → (R c).getLsbD d = true → T d → T c) :
    ∀ i, (hangTo R s k).getLsbD i = true → T i := by
  induction k with
  | zero => exact h1
  | succ k ih =>
    intro i hi
    have ih := ih (by omega)
    rw [hangTo_succ] at hi
    split at hi
    · rename_i hc
      rw [mem_or, Bool.or_eq_true, mem_bit' (by omega)] at hi
      rcases hi with hi | hi
      · exact ih i hi
      · have e : i = k := by simpa using hi
        subst e
        rw [bne_iff_ne, and_ne_iff] at hc
        obtain ⟨d, a1, a2⟩ := hc
        exact h2 i d (by omega) a1 (ih d a2)
    · exact ih i hi
theorem hangTo_has (s : BitVec 32) {c k : Nat} (hc : c < k) (hk : k ≤ 24) {d : Nat} (h1 : (R c).getLsbD d = true) (h2 : s.getLsbD d = true) : (hangTo R s k).getLsbD c = true := by
  have : (hangTo R s (c + 1)).getLsbD c = true := by
    rw [hangTo_succ, if_pos]
    · rw [mem_or, mem_bit' (by omega)]; simp
    · rw [bne_iff_ne, and_ne_iff]; exact ⟨d, h1, hangTo_mono R s c d h2⟩
  exact hangTo_le R s (by omega) c this
theorem hangs_least (s : BitVec 32) (n : Nat) (T : Nat → Prop) (h1 : ∀ i, s.getLsbD i = true → T i) (h2 : ∀ c d, c < 24 → (R c).getLsbD d = true → T d → T c) :
    ∀ i, (hangs R s n).getLsbD i = true → T i := by
  induction n with
  | zero => exact h1
  | succ n ih => exact hangTo_least R _ 24 (Nat.le_refl _) T ih h2
theorem hangs_mono (s : BitVec 32) (n i : Nat) (h : s.getLsbD i = true) : (hangs R s n).getLsbD i = true := by
  induction n with
  | zero => exact h
  | succ n ih => exact hangTo_mono R _ 24 i ih
theorem and_All {s : BitVec 32} {i : Nat} (h : (s &&& All).getLsbD i = true) : s.getLsbD i = true ∧ i < 24 := by
  rw [mem_and, mem_All, Bool.and_eq_true] at h
  exact ⟨h.1, by simpa using h.2⟩
theorem hang_least (s : BitVec 32) (T : Nat → Prop) (h1 : ∀ i, i < 24 → s.getLsbD i = true → T i) (h2 : ∀ c d, c < 24 → (R c).getLsbD d = true → T d → T c) :
    ∀ i, (hang R s).getLsbD i = true → T i := hangs_least R _ 24 T (fun i hi => h1 i (and_All hi).2 (and_All hi).1) h2
theorem hang_start (s : BitVec 32) {i : Nat} (hi : i < 24) (h : s.getLsbD i = true) : (hang R s).getLsbD i = true := hangs_mono R _ 24 i (by rw [mem_and, mem_All, h]; simp [hi])
theorem hang_cells (s : BitVec 32) {i : Nat} (h : (hang R s).getLsbD i = true) : i < 24 := hang_least R s (fun i => i < 24) (fun i hi _ => hi) (fun c _ hc _ _ => hc) i h
theorem hang_closed (s : BitVec 32) {c d : Nat} (hc : c < 24) (h1 : (R c).getLsbD d = true) (h2 : (hang R s).getLsbD d = true) : (hang R s).getLsbD c = true := by
  have hs : hangs R (s &&& All) 25 = hangs R (s &&& All) 24 := by
    refine grows (s := fun n => hangs R (s &&& All) n) (fun r i h => hangTo_mono R _ 24 i h) (fun r i h => ?_) (fun r q h => ?_)
    · exact hangs_least R _ r (fun i => i < 24) (fun i hi => (and_All hi).2) (fun c _ hc _ _ => hc) i h
    · show hangTo R _ 24 = hangTo R _ 24
      rw [show hangs R (s &&& All) r = hangs R (s &&& All) q from h]
  unfold hang at h2 ⊢
  rw [← hs]
  exact hangTo_has R _ hc (Nat.le_refl _) h1 h2
/-- Two sets that hang on s, each the least that is closed, are one. -/
theorem hang_eq (s h : BitVec 32) (rb : Nat → BitVec 32) (hT : ∀ c d, c < 24 → d < 24 → (rb d).getLsbD c = (R c).getLsbD d) (hR : ∀ c, c < 24 → ∀ d, (R c).getLsbD d = true → d < 24)
    (hrb : ∀ d, d < 24 → ∀ c, (rb d).getLsbD c = true → c < 24) (hi : HInv rb (s &&& All) h 0#32) : h = hang R s := by
  refine set_ext (fun i _ => ?_)
  rw [Bool.eq_iff_iff]
  constructor
  · refine hi.least (fun i => (hang R s).getLsbD i = true) (fun i h1 => hang_start R s (and_All h1).2 (and_All h1).1) (fun d c hd h1 h2 => ?_) i
    have hc := hrb d hd c h2
    rw [hT c d hc hd] at h2
    exact hang_closed R s hc h2 h1
  · refine hang_least R s (fun i => h.getLsbD i = true) (fun i h24 h1 => hi.start i (by rw [mem_and, mem_All, h1]; simp [h24])) (fun c d hc h1 h2 => ?_) i
    refine hi.done d h2 (by simp) c ?_
    rw [hT c d hc (hR c hc d h1)]
    exact h1
/-! ### Under -/
theorem underTo_succ (s : BitVec 32) (k : Nat) : underTo R s (k + 1) = if (underTo R s k).getLsbD k then underTo R s k ||| R k else underTo R s k := rfl
theorem underTo_le (s : BitVec 32) {k n : Nat} (hk : k ≤ n) (i : Nat) (h : (underTo R s k).getLsbD i = true) : (underTo R s n).getLsbD i = true := by
  induction n with
  | zero => rw [show k = 0 by omega] at h; exact h
  | succ n ih =>
    by_cases e : k = n + 1
    · subst e; exact h
    · rw [underTo_succ]
      split
      · rw [mem_or, ih (by omega)]; rfl
      · exact ih (by omega)
theorem underTo_has (s : BitVec 32) {d k e : Nat} (hd : d < k) (h1 : s.getLsbD d = true) (h2 : (R d).getLsbD e = true) : (underTo R s k).getLsbD e = true := by
  have : (underTo R s (d + 1)).getLsbD e = true := by
    rw [underTo_succ, if_pos (underTo_le R s (Nat.zero_le d) d h1), mem_or, h2]; simp
  exact underTo_le R s (by omega) e this
theorem underTo_least (s : BitVec 32) (k : Nat) (hk : k ≤ 24) (T : Nat → Prop) (h1 : ∀ i, s.getLsbD i = true → T i) (h2 : ∀ c d, c < 24 → (R c).getLsbD d = true → T c → T d) :
    ∀ i, (underTo R s k).getLsbD i = true → T i := by
  induction k with
  | zero => exact h1
  | succ k ih =>
    intro i hi
    have ih := ih (by omega)
    rw [underTo_succ] at hi
    split at hi
    · rename_i hc
      rw [mem_or, Bool.or_eq_true] at hi
      rcases hi with hi | hi
      · exact ih i hi
      · exact h2 k i (by omega) hi (ih k hc)
    · exact ih i hi
theorem unders_least (s : BitVec 32) (n : Nat) (T : Nat → Prop) (h1 : ∀ i, s.getLsbD i = true → T i) (h2 : ∀ c d, c < 24 → (R c).getLsbD d = true → T c → T d) :
    ∀ i, (unders R s n).getLsbD i = true → T i := by
  induction n with
  | zero => exact h1
  | succ n ih => exact underTo_least R _ 24 (Nat.le_refl _) T ih h2
theorem unders_mono (s : BitVec 32) (n i : Nat) (h : s.getLsbD i = true) : (unders R s n).getLsbD i = true := by
  induction n with
  | zero => exact h
  | succ n ih => exact underTo_le R _ (Nat.zero_le 24) i ih
theorem under_self {c : Nat} (hc : c < 24) : (under R c).getLsbD c = true := unders_mono R _ 24 c (by rw [mem_bit' (by omega)]; simp)
theorem under_least {c : Nat} (hc : c < 24) (T : Nat → Prop) (h1 : T c) (h2 : ∀ c d, c < 24 → (R c).getLsbD d = true → T c → T d) : ∀ i, (under R c).getLsbD i = true → T i := by
  refine unders_least R _ 24 T (fun i hi => ?_) h2
  rw [mem_bit' (by omega)] at hi
  have e : i = c := by simpa using hi
  rw [e]; exact h1
theorem under_closed (hR : ∀ c, c < 24 → ∀ d, (R c).getLsbD d = true → d < 24) {c d e : Nat} (hc : c < 24) (h1 : (under R c).getLsbD d = true) (h2 : (R d).getLsbD e = true) : (under R c).getLsbD e = true := by
  have hcell : ∀ n i, (unders R (bit c) n).getLsbD i = true → i < 24 := fun n => unders_least R _ n (fun i => i < 24) (fun i hi => by
    rw [mem_bit' (by omega)] at hi
    have e : i = c := by simpa using hi
    rw [e]; exact hc) (fun c d hc h _ => hR c hc d h)
  have hs : unders R (bit c) 25 = unders R (bit c) 24 := by
    refine grows (s := fun n => unders R (bit c) n) (fun r i h => underTo_le R _ (Nat.zero_le 24) i h) hcell (fun r q h => ?_)
    show underTo R _ 24 = underTo R _ 24
    rw [show unders R (bit c) r = unders R (bit c) q from h]
  unfold under at h1 ⊢
  rw [← hs]
  exact underTo_has R _ (hcell 24 d h1) h1 h2
theorem hungLaw (hR : ∀ c, c < 24 → ∀ d, (R c).getLsbD d = true → d < 24) (s : BitVec 32) : HungLaw R s := by
  refine ⟨fun c hc => ?_, in_All.2 (fun i hi => hang_cells R s hi)⟩
  rw [and_bit_bne (by omega), Bool.eq_iff_iff, bne_iff_ne, and_ne_iff]
  constructor
  · refine fun h => hang_least R s (fun c => c < 24 ∧ ∃ i, (under R c).getLsbD i = true ∧ s.getLsbD i = true) (fun i hi h1 => ⟨hi, i, under_self R hi, h1⟩) ?_ c h |>.2
    rintro c d hc h1 ⟨hd, i, h2, h3⟩
    refine ⟨hc, i, ?_, h3⟩
    exact under_least R hd (fun i => (under R c).getLsbD i = true) (under_closed R hR hc (under_self R hc) h1) (fun a b _ h4 h5 => under_closed R hR hc h5 h4) i h2
  · rintro ⟨i, h1, h2⟩
    refine under_least R hc (fun e => e < 24 ∧ ((hang R s).getLsbD e = true → (hang R s).getLsbD c = true)) ⟨hc, fun h => h⟩ ?_ i h1 |>.2 ?_
    · rintro a b ha h3 ⟨-, h4⟩
      exact ⟨hR a ha b h3, fun h5 => h4 (hang_closed R s ha h3 h5)⟩
    · have hi : i < 24 := under_least R hc (fun e => e < 24) hc (fun a b ha h3 _ => hR a ha b h3) i h1
      exact hang_start R s hi h2
end
end Go.Proofs.Qxb6500326aGreat.Gr
