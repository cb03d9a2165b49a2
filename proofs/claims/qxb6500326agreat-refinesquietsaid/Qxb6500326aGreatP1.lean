/-
  DERIVED. THE PLAIN TEXT OF LAYER form: what Go's two parsers compute, with no Go in sight.
  A text is a function b (its bytes as numbers) and its length n.
-/
namespace Go.Proofs.Qxb6500326aGreat
set_option linter.unusedVariables false
set_option linter.unusedSimpArgs false

structure Ref where
  col : Int
  row : Int
  absC : Bool
  absR : Bool
structure Nd where
  kind : Int
  op : Int
  a : Int
  b : Int
  n : Int
  r1 : Ref
  r2 : Ref
def rz : Ref := ⟨0, 0, false, false⟩
def nNum (v : Int) : Nd := ⟨1, 0, -1, -1, v, rz, rz⟩
def nBool (v : Int) : Nd := ⟨2, 0, -1, -1, v, rz, rz⟩
def nRef (r : Ref) : Nd := ⟨3, 0, -1, -1, 0, r, rz⟩
def nRange (r s : Ref) : Nd := ⟨4, 0, -1, -1, 0, r, s⟩
def nBad : Nd := ⟨5, 0, -1, -1, 0, rz, rz⟩
def nNeg (a : Int) : Nd := ⟨6, 0, a, -1, 0, rz, rz⟩
def nBin (op a b : Int) : Nd := ⟨7, op, a, b, 0, rz, rz⟩
def nCall (op a n : Int) : Nd := ⟨8, op, a, -1, n, rz, rz⟩
def nArg (a b : Int) : Nd := ⟨9, 0, a, b, 0, rz, rz⟩

/-! ### bytes -/
def isDig (c : Int) : Bool := decide (48 ≤ c) && decide (c ≤ 57)
def isCap (c : Int) : Bool := decide (65 ≤ c) && decide (c ≤ 90)
def wordy (c : Int) : Bool := isCap c || isDig c || c == 36
def isCmp (c : Int) : Bool := c == 61 || c == 60 || c == 62
def isSgn (c : Int) : Bool := c == 35 || c == 40 || c == 41 || c == 44 || c == 58 || c == 43 || c == 45 || c == 42 || c == 47 || isCmp c
def known (c : Int) : Bool := wordy c || isSgn c

/-- Blanks are passed over. -/
def skipF (b : Nat → Int) (n : Nat) : Nat → Nat → Nat
  | 0, i => i
  | f + 1, i => if i < n ∧ b i = 32 then skipF b n f (i + 1) else i
def skip (b : Nat → Int) (n i : Nat) : Nat := skipF b n (n - i) i
/-- The end of the run of bytes that p lets by. -/
def runF (p : Int → Bool) (b : Nat → Int) (n : Nat) : Nat → Nat → Nat
  | 0, i => i
  | f + 1, i => if i < n ∧ p (b i) = true then runF p b n f (i + 1) else i
def digEnd (b : Nat → Int) (n i : Nat) : Nat := runF isDig b n (n - i) i
def wordEnd (b : Nat → Int) (n i : Nat) : Nat := runF wordy b n (n - i) i
/-- The number of the first nine digits of k digits from i on. -/
def numVal (b : Nat → Int) (i : Nat) : Nat → Int
  | 0 => 0
  | k + 1 => if k < 9 then numVal b i k * 10 + (b (i + k) - 48) else numVal b i k
/-- The bytes from a to before e. -/
def cut (b : Nat → Int) (a e : Nat) : List Int := (List.range (e - a)).map (fun k => b (a + k))

/-! ### words -/
def refTail (ac ar : Bool) (col : Int) : List Int → Option Ref
  | [d] => if (decide (49 ≤ d) && decide (d ≤ 57)) = true then some ⟨col, d - 49, ac, ar⟩ else none
  | [d, e] => if (decide (49 ≤ d) && decide (d ≤ 57) && isDig e) = true then some ⟨col, (d - 48) * 10 + (e - 48) - 1, ac, ar⟩ else none
  | _ => none
def refCol (ac : Bool) : List Int → Option Ref
  | [] => none
  | c :: t => if isCap c = true then (match t with | [] => none | x :: u => if x = 36 then refTail ac true (c - 65) u else refTail ac false (c - 65) t) else none
def refOf : List Int → Option Ref
  | [] => none
  | c :: t => if c = 36 then refCol true t else refCol false (c :: t)

def wTrue : List Int := [84, 82, 85, 69]
def wFalse : List Int := [70, 65, 76, 83, 69]
def fnName (f : Int) : List Int :=
  if f = 1 then [83, 85, 77] else if f = 2 then [77, 73, 78] else if f = 3 then [77, 65, 88] else if f = 4 then [67, 79, 85, 78, 84] else if f = 5 then [73, 70]
  else if f = 6 then [65, 78, 68] else if f = 7 then [79, 82] else if f = 8 then [78, 79, 84] else if f = 9 then [65, 66, 83] else if f = 10 then [76, 69, 78] else []
def fnOf (w : List Int) : Int :=
  if w = [83, 85, 77] then 1 else if w = [77, 73, 78] then 2 else if w = [77, 65, 88] then 3 else if w = [67, 79, 85, 78, 84] then 4 else if w = [73, 70] then 5
  else if w = [65, 78, 68] then 6 else if w = [79, 82] then 7 else if w = [78, 79, 84] then 8 else if w = [65, 66, 83] then 9 else if w = [76, 69, 78] then 10 else 0
def arity (f n : Int) : Bool :=
  if f = 1 ∨ f = 2 ∨ f = 3 ∨ f = 4 ∨ f = 6 ∨ f = 7 then decide (1 ≤ n) else if f = 5 then n == 3 else if f = 8 ∨ f = 9 ∨ f = 10 then n == 1 else false
def rangeOK (f : Int) : Bool := f == 1 || f == 2 || f == 3 || f == 4

/-! ### The model's parser: the state of one Parse -/
structure PS where
  i : Nat
  n : List Nd
  err : Int
  pos : Int
def PS.go (st : PS) (i : Nat) : PS := { st with i := i }
def PS.fail (st : PS) (e : Int) (at_ : Nat) : PS := if st.err = 0 then { st with err := e, pos := at_ } else st
def PS.look (b : Nat → Int) (n : Nat) (st : PS) : PS × Int :=
  let st1 := st.go (skip b n st.i)
  if st.err ≠ 0 ∨ n ≤ st1.i then (st1, 0)
  else if known (b st1.i) = true then (st1, b st1.i) else (st1.fail 2 st1.i, 0)
def PS.add (st : PS) (x : Nd) : PS × Int :=
  if st.err ≠ 0 then (st, -1)
  else if 24 ≤ st.n.length then (st.fail 7 st.i, -1)
  else ({ st with n := st.n ++ [x] }, (st.n.length : Int))
def isRange (l : List Nd) (x : Int) : Bool := decide (0 ≤ x) && (match l[x.toNat]? with | some y => y.kind == 4 | none => false)

section
variable (b : Nat → Int) (n : Nat) (ex : Bool → PS → PS × Int)
/-- The loop over a call's arguments: where it ends, the last link, how many. -/
def callLoop (f : Int) : Nat → PS → Int → Int → PS × Int × Int
  | 0, st, link, k => (st, link, k)
  | m + 1, st, link, k =>
    if st.err ≠ 0 then (st, link, k) else
    let r := ex (rangeOK f) st
    let s := r.1.add (nArg r.2 link)
    let l := s.1.look b n
    if l.2 = 44 then callLoop f m (l.1.go (l.1.i + 1)) s.2 (k + 1)
    else if l.2 = 41 then (l.1.go (l.1.i + 1), s.2, k + 1)
    else (l.1.fail 3 l.1.i, s.2, k + 1)
def callM (F : Nat) (f : Int) (at_ : Nat) (st : PS) : PS × Int :=
  let l := (st.go (st.i + 1)).look b n
  if l.2 = 41 then ((l.1.go (l.1.i + 1)).fail 6 at_, -1) else
  let r := callLoop b n ex f F l.1 (-1) 0
  if arity f r.2.2 = true then r.1.add (nCall f r.2.1 r.2.2) else (r.1.fail 6 at_, -1)
def nameM (F : Nat) (ranges : Bool) (st : PS) : PS × Int :=
  let e := wordEnd b n st.i
  let w := cut b st.i e
  let st1 := st.go e
  if w = wTrue then st1.add (nBool 1) else if w = wFalse then st1.add (nBool 0) else
  match refOf w with
  | none =>
    if fnOf w = 0 then (st1.fail 5 st.i, -1) else
    let l := st1.look b n
    if l.2 = 40 then callM b n ex F (fnOf w) st.i l.1 else (l.1.fail 5 st.i, -1)
  | some r =>
    let l := st1.look b n
    if l.2 = 58 then
      let l2 := (l.1.go (l.1.i + 1)).look b n
      let e2 := wordEnd b n l2.1.i
      match refOf (cut b l2.1.i e2) with
      | none => ((l2.1.go e2).fail 3 l2.1.i, -1)
      | some r2 => if ranges = true then (l2.1.go e2).add (nRange r r2) else ((l2.1.go e2).fail 6 st.i, -1)
    else l.1.add (nRef r)
def atomM (F : Nat) (ranges : Bool) (st : PS) : PS × Int :=
  let l := st.look b n
  let c := l.2
  if isDig c = true then
    let e := digEnd b n l.1.i
    if 9 < e - l.1.i then ((l.1.go e).fail 4 l.1.i, -1) else (l.1.go e).add (nNum (numVal b l.1.i (e - l.1.i)))
  else if isCap c = true ∨ c = 36 then nameM b n ex F ranges l.1
  else if c = 35 then
    if l.1.i + 1 < n ∧ b (l.1.i + 1) = 35 then (l.1.go (l.1.i + 2)).add nBad else (l.1.fail 2 l.1.i, -1)
  else if c = 40 then
    let r := ex false (l.1.go (l.1.i + 1))
    let l2 := r.1.look b n
    if l2.2 = 41 then (l2.1.go (l2.1.i + 1), r.2) else (l2.1.fail 3 l2.1.i, -1)
  else (l.1.fail 3 l.1.i, -1)
def unaryM (F : Nat) : Nat → Bool → PS → PS × Int
  | 0, _, st => (st, -1)
  | m + 1, ranges, st =>
    let l := st.look b n
    if l.2 = 45 then
      let r := unaryM F m false (l.1.go (l.1.i + 1))
      r.1.add (nNeg r.2)
    else atomM b n ex F ranges l.1
def mulOp (c : Int) : Int := if c = 42 then 9 else if c = 47 then 10 else 0
def addOp (c : Int) : Int := if c = 43 then 7 else if c = 45 then 8 else 0
/-- The loop of a chain: opOf says which byte is an operator of this level, nxt reads an operand. -/
def chainLoop (opOf : Int → Int) (nxt : PS → PS × Int) : Nat → PS → Int → PS × Int
  | 0, st, a => (st, a)
  | m + 1, st, a =>
    if st.err ≠ 0 then (st, -1) else
    let l := st.look b n
    if opOf l.2 = 0 then (l.1, a)
    else if isRange l.1.n a = true then (l.1.fail 3 l.1.i, -1) else
    let r := nxt (l.1.go (l.1.i + 1))
    let s := r.1.add (nBin (opOf l.2) a r.2)
    chainLoop opOf nxt m s.1 s.2
def chain3 (F : Nat) (ranges : Bool) (st : PS) : PS × Int :=
  let r := unaryM b n ex F F ranges st
  chainLoop b n mulOp (unaryM b n ex F F false) F r.1 r.2
def chain2 (F : Nat) (ranges : Bool) (st : PS) : PS × Int :=
  let r := chain3 b n ex F ranges st
  chainLoop b n addOp (chain3 b n ex F false) F r.1 r.2
/-- The comparison that opens with byte c, followed by d: its operator and its width. -/
def cmpOp (c d : Int) : Int × Nat :=
  if c = 60 then (if d = 61 then (4, 2) else if d = 62 then (2, 2) else (3, 1)) else if c = 62 then (if d = 61 then (6, 2) else (5, 1)) else (1, 1)
def nextB (i : Nat) : Int := if i + 1 < n then b (i + 1) else 0
def exprM (F : Nat) (ranges : Bool) (st : PS) : PS × Int :=
  let r := chain2 b n ex F ranges st
  let l := r.1.look b n
  if isCmp l.2 = true then
    if isRange l.1.n r.2 = true then (l.1.fail 3 l.1.i, -1) else
    let o := cmpOp l.2 (nextB b n l.1.i)
    let s := chain2 b n ex F false (l.1.go (l.1.i + o.2))
    s.1.add (nBin o.1 r.2 s.2)
  else (l.1, r.2)
end
/-- An expression, to this depth of brackets. -/
def exprD (b : Nat → Int) (n : Nat) : Nat → Bool → PS → PS × Int
  | 0, _, st => (st, -1)
  | f + 1, ranges, st => exprM b n (exprD b n f) (n + 1) ranges st

structure Tr where
  nodes : List Nd
  root : Int
  err : Int
  pos : Int
def ps0 : PS := ⟨0, [], 0, 0⟩
def parseM (b : Nat → Int) (n : Nat) : Tr :=
  if 40 < n then ⟨[], -1, 1, 0⟩ else
  let r := exprD b n (n + 1) false ps0
  let l := r.1.look b n
  let s := if l.2 = 0 then l.1 else l.1.fail 3 l.1.i
  if s.err = 0 then ⟨s.n, r.2, 0, 0⟩ else ⟨[], -1, s.err, s.pos⟩
end Go.Proofs.Qxb6500326aGreat
