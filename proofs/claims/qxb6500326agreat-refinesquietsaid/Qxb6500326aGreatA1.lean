/-
  DERIVED. THE PLAIN TEXT OF LAYER val: values, their arithmetic, folds and tallies.
-/
import Derived.WalkKit
import Derived.Test.Qxb6500326aGreatP9
namespace Go.Proofs.Qxb6500326aGreat
set_option linter.unusedVariables false
set_option linter.unusedSimpArgs false
structure Vl where
  kind : Int
  n : Int
  s : ByteArray
abbrev es : ByteArray := ⟨#[]⟩
def v0 : Vl := ⟨0, 0, es⟩
def vInt (n : Int) : Vl := ⟨1, n, es⟩
def vErr (c : Int) : Vl := ⟨4, c, es⟩
def vBool (b : Bool) : Vl := ⟨3, if b = true then 1 else 0, es⟩
def vNum (n : Int) : Vl := if 999999999 < n ∨ n < -999999999 then vErr 4 else vInt n
/-- What a cell can show. -/
inductive Lw : Vl → Prop
  | none : Lw ⟨0, 0, es⟩
  | int (n : Int) (h1 : -999999999 ≤ n) (h2 : n ≤ 999999999) : Lw ⟨1, n, es⟩
  | text (s : ByteArray) (h : s.size ≤ 40) : Lw ⟨2, 0, s⟩
  | bool (n : Int) (h : n = 0 ∨ n = 1) : Lw ⟨3, n, es⟩
  | err (n : Int) (h1 : 1 ≤ n) (h2 : n ≤ 6) : Lw ⟨4, n, es⟩
theorem lw_bool (b : Bool) : Lw (vBool b) := by
  unfold vBool; cases b
  · exact .bool _ (.inl rfl)
  · exact .bool _ (.inr rfl)
theorem lw_num (n : Int) : Lw (vNum n) := by
  unfold vNum
  split
  · exact .err _ (by decide) (by decide)
  · exact .int _ (by omega) (by omega)
def cnt (x : Vl) : Bool := x.kind == 1 || x.kind == 0
def amt (x : Vl) : Int := if (x.kind == 1) = true then x.n else 0
def wrd (x : Vl) : Bool := x.kind == 2 || x.kind == 0
theorem amt_bd {x : Vl} (h : Lw x) : -999999999 ≤ amt x ∧ amt x ≤ 999999999 := by
  cases h <;> simp [amt] <;> omega
def reckP (op a b : Int) : Vl :=
  if (op == 7) = true then vNum (a + b) else if (op == 8) = true then vNum (a - b) else if (op == 9) = true then vNum (a * b)
  else if (b == 0) = true then vErr 3 else vNum (a.tdiv b)
def judgeP (op s : Int) : Vl :=
  if (op == 1) = true then vBool (s == 0) else if (op == 2) = true then vBool (s != 0) else if (op == 3) = true then vBool (decide (s < 0))
  else if (op == 4) = true then vBool (decide (s ≤ 0)) else if (op == 5) = true then vBool (decide (0 < s)) else vBool (decide (0 ≤ s))
def cmpI (a b : Int) : Int := if decide (a < b) = true then -1 else if decide (b < a) = true then 1 else 0
/-- The order of texts, as the model of Go has it (a letter: both layers ask the same). -/
def cmpS (a b : ByteArray) : Int := if Op.bytesLess a.toList b.toList = true then -1 else if (!a.toList == b.toList) = true then 1 else 0
def binP (op : Int) (x y : Vl) : Vl :=
  if (x.kind == 4) = true then x else if (y.kind == 4) = true then y
  else if (cnt x && cnt y) = true then (if decide (7 ≤ op) = true then reckP op (amt x) (amt y) else judgeP op (cmpI (amt x) (amt y)))
  else if decide (7 ≤ op) = true then vErr 5
  else if (wrd x && wrd y) = true then judgeP op (cmpS x.s y.s)
  else if (x.kind == 3 && y.kind == 3) = true then judgeP op (x.n - y.n)
  else vErr 5
def unaryP (f : Int) (v : Vl) : Vl :=
  if (v.kind == 4) = true then v
  else if (f == 8) = true then (if (v.kind == 3) = true then vBool (v.n == 0) else vErr 5)
  else if (f == 10) = true then (if wrd v = true then vInt v.s.size else vErr 5)
  else if cnt v = true then (if (f == 9 && decide (0 ≤ amt v)) = true then vInt (amt v) else vInt (-amt v))
  else vErr 5
def chooseP (c x y : Vl) : Vl :=
  if (c.kind == 4) = true then c else if (c.kind == 3) = true then (if (c.n == 1) = true then x else y) else vErr 5
theorem lw_err5 : Lw (vErr 5) := .err _ (by decide) (by decide)
theorem lw_judge (op s : Int) : Lw (judgeP op s) := by
  unfold judgeP; repeat' split
  all_goals exact lw_bool _
theorem lw_reck (op a b : Int) : Lw (reckP op a b) := by
  unfold reckP; repeat' split
  all_goals first | exact lw_num _ | exact .err _ (by decide) (by decide)
theorem lw_bin {op : Int} {x y : Vl} (hx : Lw x) (hy : Lw y) : Lw (binP op x y) := by
  unfold binP; repeat' split
  all_goals first | exact hx | exact hy | exact lw_reck _ _ _ | exact lw_judge _ _ | exact lw_err5
theorem lw_choose {c x y : Vl} (hc : Lw c) (hx : Lw x) (hy : Lw y) : Lw (chooseP c x y) := by
  unfold chooseP; repeat' split
  all_goals first | exact hx | exact hy | exact hc | exact lw_err5
theorem lw_unary {f : Int} {v : Vl} (hv : Lw v) : Lw (unaryP f v) := by
  have ha := amt_bd hv
  unfold unaryP; repeat' split
  all_goals first | exact hv | exact lw_bool _ | exact lw_err5 | exact .int _ (by omega) (by omega) | skip
  refine .int _ (by omega) ?_
  cases hv <;> simp_all [wrd, es] <;> first | omega | (show ((ByteArray.size ⟨#[]⟩ : Nat) : Int) ≤ _; decide)
/-! ### folds -/
structure Fd where
  bad : Vl
  sum : Int
  mn : Int
  mx : Int
  cnt : Int
  all : Bool
  some : Bool
def fd0 : Fd := ⟨v0, 0, 0, 0, 0, true, false⟩
def takeM (s : Fd) (f : Int) (v : Vl) (r : Bool) : Fd :=
  if (s.bad.kind == 4) = true then s
  else if (v.kind == 4) = true then { s with bad := v }
  else if (f == 6 || f == 7) = true then
    (if (v.kind == 3) = true then { s with all := s.all && v.n == 1, some := s.some || v.n == 1 } else { s with bad := vErr 5 })
  else if (v.kind == 0) = true then s
  else if (v.kind == 1) = true then
    ⟨s.bad, s.sum + v.n, if (s.cnt == 0 || decide (v.n < s.mn)) = true then v.n else s.mn, if (s.cnt == 0 || decide (s.mx < v.n)) = true then v.n else s.mx, s.cnt + 1, s.all, s.some⟩
  else if r = true then s else { s with bad := vErr 5 }
def foldedM (s : Fd) (f : Int) : Vl :=
  if (s.bad.kind == 4) = true then s.bad
  else if (f == 1) = true then vNum s.sum else if (f == 2) = true then vInt s.mn else if (f == 3) = true then vInt s.mx else if (f == 4) = true then vInt s.cnt
  else if (f == 6) = true then vBool s.all else vBool s.some
/-- So many have counted at most. -/
structure FI (k : Nat) (s : Fd) : Prop where
  bad : Lw s.bad
  bz : s.bad.kind = 4 ∨ s.bad = v0
  c0 : 0 ≤ s.cnt
  ck : s.cnt ≤ k
  s1 : -(999999999 * (k : Int)) ≤ s.sum
  s2 : s.sum ≤ 999999999 * (k : Int)
  m1 : -999999999 ≤ s.mn
  m2 : s.mn ≤ 999999999
  x1 : -999999999 ≤ s.mx
  x2 : s.mx ≤ 999999999
theorem FI.zero : FI 0 fd0 := ⟨.none, .inr rfl, by decide, by decide, by decide, by decide, by decide, by decide, by decide, by decide⟩
theorem FI.up {k m : Nat} {s : Fd} (h : FI k s) (hk : k ≤ m) : FI m s :=
  ⟨h.bad, h.bz, h.c0, by have := h.ck; omega, by have := h.s1; omega, by have := h.s2; omega, h.m1, h.m2, h.x1, h.x2⟩
theorem FI.take {k : Nat} {s : Fd} (h : FI k s) (f : Int) {v : Vl} (hv : Lw v) (r : Bool) : FI (k + 1) (takeM s f v r) := by
  have h' := h.up (Nat.le_succ k)
  unfold takeM
  by_cases c1 : (s.bad.kind == 4) = true
  · rw [if_pos c1]; exact h'
  rw [if_neg c1]
  by_cases c2 : (v.kind == 4) = true
  · rw [if_pos c2]; exact { h' with bad := hv, bz := .inl (by simpa using c2) }
  rw [if_neg c2]
  by_cases c3 : (f == 6 || f == 7) = true
  · rw [if_pos c3]
    by_cases c4 : (v.kind == 3) = true
    · rw [if_pos c4]; exact { h' with }
    · rw [if_neg c4]; exact { h' with bad := lw_err5, bz := .inl rfl }
  rw [if_neg c3]
  by_cases c4 : (v.kind == 0) = true
  · rw [if_pos c4]; exact h'
  rw [if_neg c4]
  by_cases c5 : (v.kind == 1) = true
  · rw [if_pos c5]
    have hb : -999999999 ≤ v.n ∧ v.n ≤ 999999999 := by cases hv <;> simp at c5 <;> constructor <;> assumption
    obtain ⟨b1, b2⟩ := hb
    obtain ⟨a1, a2, a3, a4, a5, a6, a7, a8, a9, a10⟩ := h
    refine ⟨a1, a2, ?_, ?_, ?_, ?_, ?_, ?_, ?_, ?_⟩ <;> simp only [] <;> first | omega | (split <;> omega)
  rw [if_neg c5]
  by_cases c6 : r = true
  · rw [if_pos c6]; exact h'
  · rw [if_neg c6]; exact { h' with bad := lw_err5, bz := .inl rfl }
theorem lw_folded {k : Nat} {s : Fd} (h : FI k s) (hk : k ≤ 999999) (f : Int) : Lw (foldedM s f) := by
  obtain ⟨a1, a2, a3, a4, a5, a6, a7, a8, a9, a10⟩ := h
  unfold foldedM; repeat' split
  all_goals first | exact a1 | exact lw_num _ | exact lw_bool _ | exact .int _ (by omega) (by omega)
/-! ### tallies -/
structure Tl where
  bad : Vl
  acc : Int
  cnt : Int
def tl0 : Tl := ⟨v0, 0, 0⟩
def takeT (f : Int) (t : Tl) (v : Vl) (r : Bool) : Tl :=
  if (t.bad.kind == 4) = true then t
  else if (v.kind == 4) = true then { t with bad := v }
  else if (f == 6 || f == 7) = true then
    (if (v.kind == 3) = true then (if ((v.n == 1) == (f == 7)) = true then { t with acc := 1 } else t) else { t with bad := vErr 5 })
  else if (v.kind == 0) = true then t
  else if (v.kind == 1) = true then
    (if (f == 1) = true then ⟨t.bad, t.acc + v.n, t.cnt + 1⟩
     else if (f == 2) = true then ⟨t.bad, if (t.cnt == 0 || decide (v.n < t.acc)) = true then v.n else t.acc, t.cnt + 1⟩
     else if (f == 3) = true then ⟨t.bad, if (t.cnt == 0 || decide (t.acc < v.n)) = true then v.n else t.acc, t.cnt + 1⟩
     else ⟨t.bad, t.acc, t.cnt + 1⟩)
  else if r = true then t else { t with bad := vErr 5 }
def shutT (f : Int) (t : Tl) : Vl :=
  if (t.bad.kind == 4) = true then t.bad
  else if (f == 1) = true then vNum t.acc else if (f == 2 || f == 3) = true then vInt t.acc else if (f == 4) = true then vInt t.cnt
  else vBool ((t.acc == 1) == (f == 7))
/-- The tally that holds what the fold holds. -/
def tl (f : Int) (s : Fd) : Tl :=
  ⟨s.bad, if (f == 1) = true then s.sum else if (f == 2) = true then s.mn else if (f == 3) = true then s.mx else if (f == 6) = true then (if s.all = true then 0 else 1) else if (f == 7) = true then (if s.some = true then 1 else 0) else 0, s.cnt⟩
def tallies (f : Int) : Bool := f != 5 && decide (f < 8)
theorem tl_zero (f : Int) : tl f fd0 = tl0 := by
  unfold tl fd0 tl0; simp
theorem tal_cases {f : Int} (h : 1 ≤ f) (ht : tallies f = true) : f = 1 ∨ f = 2 ∨ f = 3 ∨ f = 4 ∨ f = 6 ∨ f = 7 := by
  simp [tallies] at ht; omega
theorem take_eq {f : Int} (h : 1 ≤ f) (ht : tallies f = true) {v : Vl} (hv : Lw v) (s : Fd) (r : Bool) : takeT f (tl f s) v r = tl f (takeM s f v r) := by
  rcases tal_cases h ht with e | e | e | e | e | e <;> subst e <;> unfold takeT takeM tl <;> simp only [] <;>
    by_cases c1 : (s.bad.kind == 4) = true <;> simp only [c1, if_true, if_false, Bool.false_eq_true] <;>
    by_cases c2 : (v.kind == 4) = true <;> simp only [c2, if_true, if_false, Bool.false_eq_true]
  all_goals first | rfl | skip
  all_goals cases hv <;> simp at c2 ⊢
  all_goals first | rfl | skip
  all_goals first | (split <;> simp_all) | skip
  all_goals rename_i n hn; rcases hn with rfl | rfl <;> cases s.all <;> cases s.some <;> simp
theorem shut_eq {f : Int} (h : 1 ≤ f) (ht : tallies f = true) (s : Fd) : shutT f (tl f s) = foldedM s f := by
  rcases tal_cases h ht with e | e | e | e | e | e <;> subst e <;> unfold shutT foldedM tl <;> simp only [] <;>
    by_cases c1 : (s.bad.kind == 4) = true <;> simp only [c1, if_true, if_false, Bool.false_eq_true]
  all_goals first | rfl | skip
  all_goals simp
  all_goals cases s.all <;> cases s.some <;> rfl
end Go.Proofs.Qxb6500326aGreat
