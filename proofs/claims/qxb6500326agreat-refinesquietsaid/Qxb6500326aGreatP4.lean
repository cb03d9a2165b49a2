/-
  DERIVED. PLAIN: the machine with two stacks answers as the recursive descent: first part: the machine's own small laws.
-/
import Derived.Test.Qxb6500326aGreatP3
namespace Go.Proofs.Qxb6500326aGreat
set_option linter.unusedVariables false
set_option linter.unusedSimpArgs false

def mkR (i : Nat) (l : List Nd) (V : List Int) (O : List Mk) (h : Bool) : RS := ⟨i, l, V, O, h, false, 0, 0⟩
def errTr (s : PS) : Tr := ⟨[], -1, s.err, s.pos⟩
/-- A fault stands. -/
structure Failed (st : RS) (e p : Int) : Prop where
  ne : e ≠ 0
  err : st.err = e
  bad : st.bad = p
section
variable {b : Nat → Int} {n : Nat} {e p : Int}
theorem Failed.fail {st : RS} (h : Failed st e p) (e' p' : Int) : Failed (st.fail e' p') e p := by
  have : st.err ≠ 0 := by rw [h.err]; exact h.ne
  unfold RS.fail; rw [if_neg this]; exact h
theorem Failed.of {st st' : RS} (h : Failed st e p) (he : st'.err = st.err) (hb : st'.bad = st.bad) : Failed st' e p := ⟨h.ne, he.trans h.err, hb.trans h.bad⟩
theorem Failed.look {st : RS} (h : Failed st e p) : Failed (st.look b n) e p := by
  unfold RS.look RS.lookAt; split
  · exact Failed.fail (Failed.of h (by rfl) (by rfl)) _ _
  · exact ⟨h.ne, h.err, h.bad⟩
theorem Failed.take {st : RS} (h : Failed st e p) : Failed (st.take b n) e p := ⟨h.ne, h.err, h.bad⟩
theorem Failed.push {st : RS} (h : Failed st e p) (m : Mk) : Failed (st.push m) e p := ⟨h.ne, h.err, h.bad⟩
theorem Failed.add {st : RS} (h : Failed st e p) (x : Nd) : Failed (st.add x).1 e p := by
  have : st.err ≠ 0 := by rw [h.err]; exact h.ne
  unfold RS.add; rw [if_pos this]; exact h
theorem Failed.vo {st : RS} (h : Failed st e p) (V : List Int) (O : List Mk) : Failed (st.vo V O) e p := ⟨h.ne, h.err, h.bad⟩
theorem Failed.addTo {st : RS} (h : Failed st e p) (x : Nd) : Failed (st.addTo x) e p := (h.add x).vo _ _
theorem Failed.join {st : RS} (h : Failed st e p) : Failed st.join e p := by
  unfold RS.join; split
  · exact (h.vo _ _).addTo _
  · exact h
theorem failed_negs : ∀ (O : List Mk) {st : RS} (h : Failed st e p), Failed (negs O st) e p
  | [], st, h => h
  | m :: O', st, h => by
    unfold negs; split
    · split
      · exact h
      · exact failed_negs O' ((h.vo _ _).addTo _)
    · exact h
theorem Failed.settle {st : RS} (h : Failed st e p) : Failed st.settle e p := by
  unfold RS.settle; simp only []
  have := failed_negs st.O (st := { st with hav := true }) ⟨h.ne, h.err, h.bad⟩
  split
  · exact this.join
  · exact this
theorem Failed.whole {st : RS} (h : Failed st e p) (x : Nd) : Failed (st.whole x) e p := (h.addTo x).settle
theorem Failed.closeTail {st : RS} (h : Failed st e p) (t : Tok) (m : Mk) (O' : List Mk) : Failed (st.closeTail b n t m O') e p := by
  have h2 : Failed ((st.take b n).vo st.V O') e p := (h.take).vo _ _
  unfold RS.closeTail; split
  · exact h.fail _ _
  · simp only []; split
    · exact h2.settle
    · split
      · exact h2.whole _
      · exact h2.fail _ _
theorem failed_closeArg {r : RS × Int} (h : Failed r.1 e p) (t : Tok) (m : Mk) (O' : List Mk) : Failed (closeArg b n r t m O') e p := by
  unfold closeArg; simp only []; split
  · exact ⟨h.ne, h.err, h.bad⟩
  · exact (h.vo _ _).closeTail _ _ _
theorem Failed.close {st : RS} (h : Failed st e p) (t : Tok) : Failed (st.close b n t) e p := by
  unfold RS.close; split
  · split
    · exact ⟨h.ne, (h.fail _ _).err, (h.fail _ _).bad⟩
    · exact ⟨h.ne, h.err, h.bad⟩
  · split
    · split
      · exact h
      · exact failed_closeArg ((h.vo _ _).add _) _ _ _
    · exact h.closeTail _ _ _
theorem Failed.after2 {st : RS} (h : Failed st e p) (t : Tok) (s : Int) : Failed (st.after2 b n t s) e p := by
  unfold RS.after2; split
  · exact h.join.close t
  · split
    · exact h.close t
    · unfold RS.after3; split
      · exact h
      · split
        · exact h.fail _ _
        · exact ⟨h.ne, h.err, h.bad⟩
theorem Failed.join2 {st : RS} (h : Failed st e p) (s : Int) : Failed (st.join2 s) e p := by
  unfold RS.join2; split
  · exact h.join
  · exact h
theorem Failed.new {st : RS} (h : st.err = 0) (he : e ≠ 0) : Failed (st.fail e p) e p := by
  unfold RS.fail; rw [if_pos h]; exact ⟨he, rfl, rfl⟩

/-! ### How a run ends -/
theorem ends_failed {st : RS} (h : Failed st e p) : Ends b n st ⟨[], -1, e, p⟩ :=
  ⟨0, by have := h.ne; simp [runN, RS.out, h.err, h.bad, this]⟩
theorem ends_step {st : RS} {R : Tr} (h0 : st.err = 0) (hd : st.done = false) (h : Ends b n (st.step b n) R) : Ends b n st R := by
  obtain ⟨m, hm⟩ := h
  exact ⟨m + 1, by simp [runN, h0, hd, hm]⟩
theorem ends_same {st st' : RS} {R : Tr} (h0 : st.err = 0) (hd : st.done = false) (h0' : st'.err = 0) (hd' : st'.done = false) (he : st'.step b n = st.step b n) (h : Ends b n st' R) : Ends b n st R := by
  obtain ⟨m, hm⟩ := h
  cases m with
  | zero => simp [runN, h0', hd'] at hm
  | succ m => exact ends_step h0 hd ⟨m, by simpa [runN, h0', hd', he] using hm⟩
theorem ends_mk {i : Nat} {l : List Nd} {V : List Int} {O : List Mk} {h : Bool} {R : Tr} (g : Ends b n ((mkR i l V O h).step b n) R) : Ends b n (mkR i l V O h) R := ends_step rfl rfl g
theorem ends_stepFailed {i : Nat} {l : List Nd} {V : List Int} {O : List Mk} {h : Bool} (g : Failed ((mkR i l V O h).step b n) e p) : Ends b n (mkR i l V O h) ⟨[], -1, e, p⟩ := ends_mk (ends_failed g)

theorem lookR_ok {i : Nat} (hi : i ≤ n) (hk : (lex b n i).kind ≠ 1) (l : List Nd) (V : List Int) (O : List Mk) (h : Bool) :
    (mkR i l V O h).look b n = mkR (skip b n i) l V O h := by
  simp [RS.look, RS.lookAt, mkR, hk, lex_st hi]
theorem lookR_bad {i : Nat} (hi : i ≤ n) (hk : (lex b n i).kind = 1) (l : List Nd) (V : List Int) (O : List Mk) (h : Bool) :
    Failed ((mkR i l V O h).look b n) 2 (skip b n i) ∧ ((mkR i l V O h).look b n).pos = skip b n i := by
  simp only [RS.look, RS.lookAt, mkR, hk, if_true, RS.fail]
  exact ⟨⟨by decide, rfl, by show ((lex b n i).st : Int) = _; rw [lex_st hi]⟩, lex_st hi⟩
theorem takeR (i : Nat) (l : List Nd) (V : List Int) (O : List Mk) (h : Bool) : (mkR i l V O h).take b n = mkR (lex b n i).fin l V O h := rfl
theorem lookR_skip {i : Nat} (hi : i ≤ n) (l : List Nd) (V : List Int) (O : List Mk) (h : Bool) :
    (mkR (skip b n i) l V O h).look b n = (mkR i l V O h).look b n := by
  show RS.lookAt _ (lex b n (skip b n i)) = RS.lookAt _ (lex b n i)
  rw [lex_idem]; rfl
theorem step_skip {i : Nat} (hi : i ≤ n) (l : List Nd) (V : List Int) (O : List Mk) (h : Bool) :
    (mkR (skip b n i) l V O h).step b n = (mkR i l V O h).step b n := by
  cases h
  · show RS.atom b n _ = RS.atom b n _
    unfold RS.atom; rw [lookR_skip hi]
  · show RS.after b n _ = RS.after b n _
    unfold RS.after; rw [lookR_skip hi]
theorem ends_skip {i : Nat} (hi : i ≤ n) {l : List Nd} {V : List Int} {O : List Mk} {h : Bool} {R : Tr} (g : Ends b n (mkR (skip b n i) l V O h) R) : Ends b n (mkR i l V O h) R :=
  ends_same rfl rfl rfl rfl (step_skip hi l V O h) g
/-- A byte that opens no token: the step fails. -/
theorem step_char {i : Nat} (hi : i ≤ n) (hk : (lex b n i).kind = 1) (l : List Nd) (V : List Int) (O : List Mk) (h : Bool) :
    Failed ((mkR i l V O h).step b n) 2 (skip b n i) := by
  obtain ⟨h1, h2⟩ := lookR_bad hi hk l V O h
  cases h
  · show Failed (RS.atom b n _) _ _
    unfold RS.atom
    simp only [h2, lex_idem, hk]
    simp only [show ¬ ((1 : Int) = 2) from by decide, show ¬ ((1 : Int) = 4) from by decide, show ¬ ((1 : Int) = 5) from by decide, show ¬ ((1 : Int) = 40) from by decide, show ¬ ((1 : Int) = 3) from by decide, if_false]
    rw [if_pos (.inl (by decide))]
    exact h1.fail _ _
  · show Failed (RS.after b n _) _ _
    unfold RS.after
    exact (h1.join2 _).after2 _ _
theorem atom_ok {i : Nat} (hi : i ≤ n) (hk : (lex b n i).kind ≠ 1) (l : List Nd) (V : List Int) (O : List Mk) :
    (mkR i l V O false).step b n = (
      let st := mkR (skip b n i) l V O false
      let t := lex b n i
      if t.kind = 2 then (st.take b n).whole ⟨t.op, 0, -1, -1, t.n, rz, rz⟩
      else if t.kind = 4 then st.ref b n t
      else if t.kind = 5 then st.call b n t
      else if t.kind = 40 then (st.take b n).push ⟨3, 0, 0, 0, 0⟩
      else if t.kind = 3 then st.fail t.n t.st
      else if t.kind ≠ 6 ∨ t.n ≠ 8 then st.fail 3 t.st
      else (st.take b n).push ⟨1, 0, 0, 0, 0⟩) := by
  show RS.atom b n _ = _
  unfold RS.atom
  rw [lookR_ok hi hk]
  simp only [show (mkR (skip b n i) l V O false).pos = skip b n i from rfl, lex_idem]
theorem after_ok {i : Nat} (hi : i ≤ n) (hk : (lex b n i).kind ≠ 1) (l : List Nd) (V : List Int) (O : List Mk) :
    (mkR i l V O true).step b n = ((mkR (skip b n i) l V O true).join2 (strOf (lex b n i))).after2 b n (lex b n i) (strOf (lex b n i)) := by
  show RS.after b n _ = _
  unfold RS.after
  rw [lookR_ok hi hk]
  simp only [show (mkR (skip b n i) l V O true).pos = skip b n i from rfl, lex_idem]

theorem add_two {st : PS} (h0 : st.err = 0) (x : Nd) :
    (st.n.length < 24 ∧ st.add x = (⟨st.i, st.n ++ [x], 0, st.pos⟩, (st.n.length : Int)) ∧ ∀ V O h, (mkR st.i st.n V O h).add x = (mkR st.i (st.n ++ [x]) V O h, (st.n.length : Int))) ∨
    (st.add x = (⟨st.i, st.n, 7, st.i⟩, -1) ∧ ∀ V O h, Failed ((mkR st.i st.n V O h).add x).1 7 st.i) := by
  by_cases h : 24 ≤ st.n.length
  · refine .inr ⟨by simp [PS.add, PS.fail, h0, h], fun V O hh => ?_⟩
    unfold RS.add
    rw [if_neg (by simp [mkR]), if_pos (by exact h)]
    show Failed ((mkR st.i st.n V O hh).fail 7 st.i) 7 st.i
    exact Failed.new rfl (by decide)
  · refine .inl ⟨by omega, by cases st; simp_all [PS.add], fun V O hh => ?_⟩
    unfold RS.add
    rw [if_neg (by simp [mkR]), if_neg (by exact h)]
    rfl
end

/-! ### What is claimed of a part of the recursive descent -/
section
variable (b : Nat → Int) (n : Nat)
/-- r: what the part answers; st0: the machine's state where the part begins; k: its state where the part is at its end. -/
def Sim (lo : Nat) (r : PS × Int) (st0 : RS) (Q : PS → Prop) (k : PS → Int → RS) : Prop :=
  (r.1.err ≠ 0 → Ends b n st0 (errTr r.1)) ∧ (r.1.err = 0 → lo ≤ r.1.i ∧ r.1.i ≤ n ∧ Q r.1 ∧ ∀ R, Ends b n (k r.1 r.2) R → Ends b n st0 R)
end
section
variable {b : Nat → Int} {n : Nat}
theorem sim_bad {lo : Nat} {r : PS × Int} {st0 : RS} {Q : PS → Prop} {k : PS → Int → RS} (h : r.1.err ≠ 0) (g : Ends b n st0 (errTr r.1)) : Sim b n lo r st0 Q k :=
  ⟨fun _ => g, fun h' => absurd h' h⟩
theorem sim_good {lo : Nat} {r : PS × Int} {st0 : RS} {Q : PS → Prop} {k : PS → Int → RS} (h : r.1.err = 0) (h1 : lo ≤ r.1.i) (h2 : r.1.i ≤ n) (h3 : Q r.1)
    (g : ∀ R, Ends b n (k r.1 r.2) R → Ends b n st0 R) : Sim b n lo r st0 Q k :=
  ⟨fun h' => absurd h h', fun _ => ⟨h1, h2, h3, g⟩⟩
/-- Both sides fail alike at this step. -/
theorem sim_fail {lo : Nat} {st : PS} {v : Int} {st0 : RS} {Q : PS → Prop} {k : PS → Int → RS} (h : Failed (st0.step b n) st.err st.pos) (h0 : st0.err = 0) (hd : st0.done = false) : Sim b n lo (st, v) st0 Q k :=
  sim_bad h.ne (ends_step h0 hd (ends_failed h))
/-- The way into the part. -/
theorem Sim.from {lo lo' : Nat} {r : PS × Int} {st0 st1 : RS} {Q : PS → Prop} {k : PS → Int → RS} (h : Sim b n lo r st1 Q k) (hl : lo' ≤ lo) (g : ∀ R, Ends b n st1 R → Ends b n st0 R) : Sim b n lo' r st0 Q k :=
  ⟨fun e => g _ (h.1 e), fun e => by obtain ⟨h1, h2, h3, h4⟩ := h.2 e; exact ⟨by omega, h2, h3, fun R hR => g R (h4 R hR)⟩⟩
def QT : PS → Prop := fun _ => True
/-- An atom is read to its end: both add it. -/
theorem sim_whole {lo : Nat} {st : PS} (h0 : st.err = 0) (h1 : lo ≤ st.i) (h2 : st.i ≤ n) (x : Nd) {st0 : RS} {V : List Int} {O : List Mk} {h : Bool}
    (g : ∀ R, Ends b n ((mkR st.i st.n V O h).whole x) R → Ends b n st0 R) :
    Sim b n lo (st.add x) st0 QT (fun s v => (mkR s.i s.n (v :: V) O false).settle) := by
  rcases add_two h0 x with ⟨_, e1, e2⟩ | ⟨e1, e2⟩
  · rw [e1]
    refine sim_good rfl h1 h2 trivial (fun R hR => g R ?_)
    unfold RS.whole RS.addTo; rw [e2]; exact hR
  · rw [e1]
    refine sim_bad (show (7 : Int) ≠ 0 by decide) (g _ ?_)
    exact ends_failed (((e2 V O h).vo _ _).settle)
end
end Go.Proofs.Qxb6500326aGreat
