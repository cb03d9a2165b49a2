/-
  DERIVED. THE PLAIN TEXT OF LAYER val: what a tree is worth; the program of a tree; the machine.
-/
import Derived.Test.Qxb6500326aGreatA1
namespace Go.Proofs.Qxb6500326aGreat
set_option linter.unusedVariables false
set_option linter.unusedSimpArgs false
def inGrid (r : Ref) : Bool := decide (0 ≤ r.col) && decide (r.col < 4) && decide (0 ≤ r.row) && decide (r.row < 6)
def cellOf (r : Ref) : Int := r.row * 4 + r.col
def bit (c : Nat) : BitVec 32 := 1#32 <<< c
theorem cellOf_bd {r : Ref} (h : inGrid r = true) : 0 ≤ cellOf r ∧ cellOf r < 24 := by
  simp [inGrid] at h; unfold cellOf; omega
/-- One row of a rectangle. -/
def rowSet (r c0 : Int) : Nat → BitVec 32 → BitVec 32
  | 0, s => s
  | k + 1, s => rowSet r (c0 + 1) k (s ||| bit (r * 4 + c0).toNat)
def rectSet (c0 c1 r0 : Int) : Nat → BitVec 32 → BitVec 32
  | 0, s => s
  | k + 1, s => rectSet c0 c1 (r0 + 1) k (rowSet r0 c0 (c1 + 1 - c0).toNat s)
def lesser (a b : Int) : Int := if decide (b < a) = true then b else a
def greater (a b : Int) : Int := if decide (b < a) = true then a else b
def blockOK (a b : Ref) : Bool := inGrid a && inGrid b
def blockS (a b : Ref) : BitVec 32 :=
  if blockOK a b = true then rectSet (lesser a.col b.col) (greater a.col b.col) (lesser a.row b.row) (greater a.row b.row + 1 - lesser a.row b.row).toNat 0#32 else 0#32
/-- The cells of a set go into a fold, from cell c on, k of them. -/
def sweepM (f : Int) (set : BitVec 32) (env : Nat → Vl) (c : Nat) : Nat → Fd → Fd
  | 0, s => s
  | k + 1, s => sweepM f set env (c + 1) k (if set.getLsbD c = true then takeM s f (env c) true else s)
def sweepT (f : Int) (set : BitVec 32) (env : Nat → Vl) (c : Nat) : Nat → Tl → Tl
  | 0, t => t
  | k + 1, t => sweepT f set env (c + 1) k (if set.getLsbD c = true then takeT f t (env c) true else t)
def LwE (env : Nat → Vl) : Prop := ∀ c, c < 24 → Lw (env c)
theorem sweep_eq {f : Int} (h : 1 ≤ f) (ht : tallies f = true) (set : BitVec 32) {env : Nat → Vl} (he : LwE env) : ∀ (k c : Nat) (s : Fd), c + k ≤ 24 → sweepT f set env c k (tl f s) = tl f (sweepM f set env c k s)
  | 0, c, s, hc => rfl
  | k + 1, c, s, hc => by
    unfold sweepT sweepM
    cases hs : set.getLsbD c
    · exact sweep_eq h ht set he k (c + 1) s (by omega)
    · simp only [if_true]
      rw [take_eq h ht (he c (by omega))]
      exact sweep_eq h ht set he k (c + 1) _ (by omega)
theorem FI.sweep {f : Int} {set : BitVec 32} {env : Nat → Vl} (he : LwE env) : ∀ (k c : Nat) (s : Fd) (m : Nat), c + k ≤ 24 → FI m s → FI (m + k) (sweepM f set env c k s)
  | 0, c, s, m, hc, h => h
  | k + 1, c, s, m, hc, h => by
    unfold sweepM
    rw [show m + (k + 1) = (m + 1) + k from by omega]
    refine FI.sweep he k (c + 1) _ (m + 1) (by omega) ?_
    split
    · exact h.take f (he c (by omega)) true
    · exact h.up (by omega)
theorem sweep_agree {f : Int} {set : BitVec 32} {env env' : Nat → Vl} : ∀ (k c : Nat) (s : Fd), (∀ j, set.getLsbD j = true → env j = env' j) → sweepM f set env c k s = sweepM f set env' c k s
  | 0, c, s, h => rfl
  | k + 1, c, s, h => by
    unfold sweepM
    cases hs : set.getLsbD c
    · exact sweep_agree k (c + 1) s h
    · simp only [if_true]; rw [h c hs]; exact sweep_agree k (c + 1) _ h

/-! ### What a tree is worth: the definition, as a relation -/
mutual
inductive Wo (L : List Nd) (env : Nat → Vl) : Nat → Vl → Prop
  | num (i : Nat) (v : Int) (hi : i < L.length) (h : nd L i = nNum v) : Wo L env i (vInt v)
  | bool (i : Nat) (v : Int) (hi : i < L.length) (h : nd L i = nBool v) : Wo L env i ⟨3, v, es⟩
  | bad (i : Nat) (hi : i < L.length) (h : nd L i = nBad) : Wo L env i (vErr 2)
  | refOut (i : Nat) (r : Ref) (hi : i < L.length) (h : nd L i = nRef r) (hg : inGrid r = false) : Wo L env i (vErr 2)
  | ref (i : Nat) (r : Ref) (hi : i < L.length) (h : nd L i = nRef r) (hg : inGrid r = true) : Wo L env i (env (cellOf r).toNat)
  | neg (i : Nat) (v : Vl) (hi : i + 1 < L.length) (h : nd L (i + 1) = nNeg i) (hv : Wo L env i v) (lv : Lw v) : Wo L env (i + 1) (unaryP 0 v)
  | bin (i m : Nat) (op : Int) (x y : Vl) (hi : i + 1 < L.length) (ho : 1 ≤ op ∧ op ≤ 10) (h : nd L (i + 1) = nBin op m i) (hm : m < i) (hx : Wo L env m x) (hy : Wo L env i y) (lx : Lw x) (ly : Lw y) : Wo L env (i + 1) (binP op x y)
  | cond (i j1 j2 j3 : Nat) (k : Int) (c x y : Vl) (hi : i < L.length) (h : nd L i = nCall 5 ((j3 + 1 : Nat) : Int) k) (h3 : nd L (j3 + 1) = nArg j3 ((j2 + 1 : Nat) : Int)) (h2 : nd L (j2 + 1) = nArg j2 ((j1 + 1 : Nat) : Int)) (h1 : nd L (j1 + 1) = nArg j1 (-1))
      (l1 : j1 + 1 < j2) (l2 : j2 + 1 < j3) (l3 : j3 + 1 < i) (hc : Wo L env j1 c) (hx : Wo L env j2 x) (hy : Wo L env j3 y) (lc : Lw c) (lx : Lw x) (ly : Lw y) : Wo L env i (chooseP c x y)
  | one (i j : Nat) (op k : Int) (v : Vl) (hi : i < L.length) (ho : op = 8 ∨ op = 9 ∨ op = 10) (h : nd L i = nCall op ((j + 1 : Nat) : Int) k) (h1 : nd L (j + 1) = nArg j (-1)) (l1 : j + 1 < i) (hv : Wo L env j v) (lv : Lw v) : Wo L env i (unaryP op v)
  | fold (i : Nat) (op k : Int) (m : Nat) (s : Fd) (hi : i + 1 < L.length) (ho : op = 1 ∨ op = 2 ∨ op = 3 ∨ op = 4 ∨ op = 6 ∨ op = 7) (h : nd L (i + 1) = nCall op i k) (hs : Fo L env op m i s) (hm : m ≤ 600) : Wo L env (i + 1) (foldedM s op)
/-- The links up to i: so many (at most) have counted. -/
inductive Fo (L : List Nd) (env : Nat → Vl) : Int → Nat → Int → Fd → Prop
  | nil (op : Int) : Fo L env op 0 (-1) fd0
  | arg (op : Int) (m i : Nat) (b : Int) (s : Fd) (v : Vl) (hi : i + 1 < L.length) (h : nd L (i + 1) = nArg i b) (hb : b < i) (hs : Fo L env op m b s) (fs : FI m s) (hk : (nd L i).kind ≠ 4) (hv : Wo L env i v) (lv : Lw v) : Fo L env op (m + 24) ((i + 1 : Nat) : Int) (takeM s op v false)
  | lost (op : Int) (m i : Nat) (b : Int) (s : Fd) (p q : Ref) (hi : i + 1 < L.length) (h : nd L (i + 1) = nArg i b) (hb : b < i) (hs : Fo L env op m b s) (fs : FI m s) (hk : nd L i = nRange p q) (ho : blockOK p q = false) : Fo L env op (m + 24) ((i + 1 : Nat) : Int) (takeM s op (vErr 2) true)
  | range (op : Int) (m i : Nat) (b : Int) (s : Fd) (p q : Ref) (hi : i + 1 < L.length) (h : nd L (i + 1) = nArg i b) (hb : b < i) (hs : Fo L env op m b s) (fs : FI m s) (hk : nd L i = nRange p q) (ho : blockOK p q = true) : Fo L env op (m + 24) ((i + 1 : Nat) : Int) (sweepM op (blockS p q) env 0 24 s)
end

/-! ### The machine -/
structure Ins where
  op : Int
  a : Int
  v : Vl
  set : BitVec 32
structure Mc where
  st : List Vl
  fo : List Tl
structure TB (k : Nat) (t : Tl) : Prop where
  bad : Lw t.bad
  a1 : -(999999999 * (k : Int)) - 1000000000 ≤ t.acc
  a2 : t.acc ≤ 999999999 * (k : Int) + 1000000000
  c0 : 0 ≤ t.cnt
  c1 : t.cnt ≤ k
inductive StepM (env : Nat → Vl) : Ins → Mc → Mc → Prop
  | push (a : Int) (v : Vl) (set : BitVec 32) (S : List Vl) (T : List Tl) (h : S.length < 24) : StepM env ⟨1, a, v, set⟩ ⟨S, T⟩ ⟨v :: S, T⟩
  | cell (c : Nat) (v : Vl) (set : BitVec 32) (S : List Vl) (T : List Tl) (hc : c < 24) (h : S.length < 24) : StepM env ⟨2, c, v, set⟩ ⟨S, T⟩ ⟨env c :: S, T⟩
  | unary (a : Int) (v x : Vl) (set : BitVec 32) (S : List Vl) (T : List Tl) (h : S.length < 24) (lx : Lw x) : StepM env ⟨3, a, v, set⟩ ⟨x :: S, T⟩ ⟨unaryP a x :: S, T⟩
  | bin (a : Int) (v x y : Vl) (set : BitVec 32) (S : List Vl) (T : List Tl) (ha : 1 ≤ a ∧ a ≤ 10) (h : S.length + 1 < 24) (lx : Lw x) (ly : Lw y) : StepM env ⟨4, a, v, set⟩ ⟨y :: x :: S, T⟩ ⟨binP a x y :: S, T⟩
  | choose (a : Int) (v c x y : Vl) (set : BitVec 32) (S : List Vl) (T : List Tl) (h : S.length + 2 < 24) (lc : Lw c) : StepM env ⟨5, a, v, set⟩ ⟨y :: x :: c :: S, T⟩ ⟨chooseP c x y :: S, T⟩
  | opn (a : Int) (v : Vl) (set : BitVec 32) (S : List Vl) (T : List Tl) (h : T.length < 24) : StepM env ⟨6, a, v, set⟩ ⟨S, T⟩ ⟨S, tl0 :: T⟩
  | take (a : Int) (v x : Vl) (set : BitVec 32) (S : List Vl) (t : Tl) (T : List Tl) (k : Nat) (ha : 1 ≤ a ∧ tallies a = true) (hs : S.length < 24) (h : T.length < 24) (hk : k ≤ 600) (ht : TB k t) (lx : Lw x) : StepM env ⟨7, a, v, set⟩ ⟨x :: S, t :: T⟩ ⟨S, takeT a t x false :: T⟩
  | range (a : Int) (v : Vl) (set : BitVec 32) (S : List Vl) (t : Tl) (T : List Tl) (k : Nat) (ha : 1 ≤ a ∧ tallies a = true) (h : T.length < 24) (hk : k ≤ 600) (ht : TB k t) : StepM env ⟨8, a, v, set⟩ ⟨S, t :: T⟩ ⟨S, sweepT a set env 0 24 t :: T⟩
  | lost (a : Int) (v : Vl) (set : BitVec 32) (S : List Vl) (t : Tl) (T : List Tl) (k : Nat) (ha : 1 ≤ a ∧ tallies a = true) (h : T.length < 24) (hk : k ≤ 600) (ht : TB k t) : StepM env ⟨9, a, v, set⟩ ⟨S, t :: T⟩ ⟨S, takeT a t (vErr 2) true :: T⟩
  | close (a : Int) (v : Vl) (set : BitVec 32) (S : List Vl) (t : Tl) (T : List Tl) (k : Nat) (ha : 1 ≤ a ∧ tallies a = true) (hs : S.length < 24) (h : T.length < 24) (hk : k ≤ 600) (ht : TB k t) : StepM env ⟨10, a, v, set⟩ ⟨S, t :: T⟩ ⟨shutT a t :: S, T⟩
inductive RunM (env : Nat → Vl) : List Ins → Mc → Mc → Prop
  | nil (m : Mc) : RunM env [] m m
  | cons (i : Ins) (l : List Ins) (a b c : Mc) (h : StepM env i a b) (r : RunM env l b c) : RunM env (i :: l) a c
theorem RunM.append {env : Nat → Vl} : ∀ {l k : List Ins} {a b c : Mc}, RunM env l a b → RunM env k b c → RunM env (l ++ k) a c
  | [], k, a, b, c, h, r => by cases h; exact r
  | i :: l, k, a, b, c, h, r => by
    cases h with
    | cons _ _ _ b' _ h1 h2 => exact .cons _ _ _ b' _ h1 (RunM.append h2 r)
theorem RunM.one {env : Nat → Vl} {i : Ins} {a b : Mc} (h : StepM env i a b) : RunM env [i] a b := .cons _ _ _ _ _ h (.nil _)
theorem FI.tb {k : Nat} {s : Fd} (h : FI k s) (f : Int) : TB k (tl f s) := by
  obtain ⟨a1, a2, a3, a4, a5, a6, a7, a8, a9, a10⟩ := h
  refine ⟨a1, ?_, ?_, a3, a4⟩ <;> unfold tl <;> simp only [] <;> repeat' split
  all_goals omega

/-! ### The compiler -/
structure Cm where
  ow : Nat → Int
  code : List Ins
  cells : BitVec 32
def Cm.emit (s : Cm) (op a : Int) (v : Vl) (set : BitVec 32) : Cm := ⟨s.ow, ⟨op, a, v, set⟩ :: s.code, s.cells ||| set⟩
def Cm.own (s : Cm) (j : Nat) (f : Int) : Cm := { s with ow := fun i => if i = j then f else s.ow i }
def referC (r : Ref) (s : Cm) : Cm := if inGrid r = true then s.emit 2 (cellOf r) v0 (bit (cellOf r).toNat) else s.emit 1 0 (vErr 2) 0#32
def callC (f : Int) (s : Cm) : Cm := s.emit (if (f == 5) = true then 5 else if tallies f = true then 10 else 3) f v0 0#32
def linkD (y : Nd) : Int := if (y.kind == 4) = true then (if blockOK y.r1 y.r2 = true then 8 else 9) else 7
def linkS (y : Nd) : BitVec 32 := if (y.kind == 4) = true then blockS y.r1 y.r2 else 0#32
def linkC (L : List Nd) (i : Nat) (s : Cm) : Cm :=
  let x := nd L i
  let f := s.ow i
  let s1 := if decide (0 ≤ x.b) = true then s.own x.b.toNat f else s
  if tallies f = true then
    (let s2 := s1.emit (linkD (nd L x.a.toNat)) f v0 (linkS (nd L x.a.toNat))
     if decide (x.b < 0) = true then s2.emit 6 f v0 0#32 else s2)
  else s1
def cmp1 (L : List Nd) (i : Nat) (s : Cm) : Cm :=
  let x := nd L i
  if (x.kind == 1) = true then s.emit 1 0 (vInt x.n) 0#32
  else if (x.kind == 2) = true then s.emit 1 0 ⟨3, x.n, es⟩ 0#32
  else if (x.kind == 5) = true then s.emit 1 0 (vErr 2) 0#32
  else if (x.kind == 3) = true then referC x.r1 s
  else if (x.kind == 6) = true then s.emit 3 0 v0 0#32
  else if (x.kind == 7) = true then s.emit 4 x.op v0 0#32
  else if (x.kind == 8) = true then callC x.op (s.own x.a.toNat x.op)
  else if (x.kind == 9) = true then linkC L i s
  else s
/-- The nodes lo + k - 1 .. lo, from the last down. -/
def desc (L : List Nd) (lo : Nat) : Nat → Cm → Cm
  | 0, s => s
  | k + 1, s => desc L lo k (cmp1 L (lo + k) s)
theorem desc_add (L : List Nd) (lo : Nat) : ∀ (k j : Nat) (s : Cm), desc L lo (j + k) s = desc L lo j (desc L (lo + j) k s)
  | 0, j, s => rfl
  | k + 1, j, s => by
    show desc L lo (j + k) (cmp1 L (lo + (j + k)) s) = desc L lo j (desc L (lo + j) k (cmp1 L (lo + j + k) s))
    rw [desc_add L lo k j, show lo + (j + k) = lo + j + k from by omega]
/-- The cells that a node reads. -/
def rdN (x : Nd) : BitVec 32 :=
  if (x.kind == 3) = true then (if inGrid x.r1 = true then bit (cellOf x.r1).toNat else 0#32)
  else if (x.kind == 4) = true then blockS x.r1 x.r2 else 0#32
def rdS (L : List Nd) (lo : Nat) : Nat → BitVec 32
  | 0 => 0#32
  | k + 1 => rdS L lo k ||| rdN (nd L (lo + k))
theorem rdS_add (L : List Nd) (lo : Nat) : ∀ (k j : Nat), rdS L lo (j + k) = rdS L lo j ||| rdS L (lo + j) k
  | 0, j => by simp [rdS]
  | k + 1, j => by
    show rdS L lo (j + k) ||| rdN (nd L (lo + (j + k))) = rdS L lo j ||| (rdS L (lo + j) k ||| rdN (nd L (lo + j + k)))
    rw [rdS_add L lo k j, show lo + (j + k) = lo + j + k from by omega, BitVec.or_assoc]
end Go.Proofs.Qxb6500326aGreat
