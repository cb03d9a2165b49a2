/-
  DERIVED. THE PLAIN TEXT OF THE REAL PARSER: tokens, and a machine with two stacks.
-/
import Derived.Test.Qxb6500326aGreatP1
namespace Go.Proofs.Qxb6500326aGreat
set_option linter.unusedVariables false
set_option linter.unusedSimpArgs false

structure Tok where
  kind : Int
  st : Nat
  fin : Nat
  op : Int
  n : Int
  r : Ref
def lexNum (b : Nat → Int) (n i : Nat) : Tok :=
  let e := digEnd b n i
  if 9 < e - i then ⟨3, i, e, 1, 4, rz⟩ else ⟨2, i, e, 1, numVal b i (e - i), rz⟩
def lexWord (b : Nat → Int) (n i : Nat) : Tok :=
  let e := wordEnd b n i
  let w := cut b i e
  match refOf w with
  | some r => ⟨4, i, e, 0, 0, r⟩
  | none => if w = wTrue then ⟨2, i, e, 2, 1, rz⟩ else if w = wFalse then ⟨2, i, e, 2, 0, rz⟩ else if fnOf w = 0 then ⟨3, i, e, 0, 5, rz⟩ else ⟨5, i, e, 0, fnOf w, rz⟩
def lexSgn (c d : Int) (i : Nat) : Tok :=
  if c = 40 ∨ c = 41 ∨ c = 44 ∨ c = 58 then ⟨c, i, i + 1, 0, 0, rz⟩
  else if addOp c ≠ 0 then ⟨6, i, i + 1, 0, addOp c, rz⟩
  else if mulOp c ≠ 0 then ⟨6, i, i + 1, 0, mulOp c, rz⟩
  else if isCmp c = true then ⟨6, i, i + (cmpOp c d).2, 0, (cmpOp c d).1, rz⟩
  else if c = 35 then (if d = 35 then ⟨2, i, i + 2, 5, 0, rz⟩ else ⟨3, i, i + 1, 0, 2, rz⟩)
  else ⟨1, i, i + 1, 0, 0, rz⟩
/-- The token that opens at i. -/
def lexAt (b : Nat → Int) (n i : Nat) : Tok :=
  if n ≤ i then ⟨0, n, n, 0, 0, rz⟩ else if isDig (b i) = true then lexNum b n i else if wordy (b i) = true then lexWord b n i else lexSgn (b i) (nextB b n i) i
/-- The token at hand where the text has been read up to i. -/
def lex (b : Nat → Int) (n i : Nat) : Tok := lexAt b n (skip b n i)

structure Mk where
  kind : Int
  op : Int
  st : Int
  n : Int
  link : Int
structure RS where
  pos : Nat
  nodes : List Nd
  V : List Int
  O : List Mk
  hav : Bool
  done : Bool
  err : Int
  bad : Int
def RS.fail (st : RS) (e : Int) (p : Int) : RS := if st.err = 0 then { st with err := e, bad := p } else st
def RS.lookAt (st : RS) (t : Tok) : RS := if t.kind = 1 then RS.fail { st with pos := t.st } 2 t.st else { st with pos := t.st }
def RS.look (b : Nat → Int) (n : Nat) (st : RS) : RS := st.lookAt (lex b n st.pos)
def RS.take (b : Nat → Int) (n : Nat) (st : RS) : RS := { st with pos := (lex b n st.pos).fin }
def RS.add (st : RS) (x : Nd) : RS × Int :=
  if st.err ≠ 0 then (st, -1)
  else if 24 ≤ st.nodes.length then (st.fail 7 st.pos, -1)
  else ({ st with nodes := st.nodes ++ [x] }, (st.nodes.length : Int))
def RS.vo (st : RS) (V : List Int) (O : List Mk) : RS := { st with V := V, O := O }
/-- The node's place becomes an operand. -/
def RS.addTo (st : RS) (x : Nd) : RS := (st.add x).1.vo ((st.add x).2 :: (st.add x).1.V) (st.add x).1.O
def RS.push (st : RS) (m : Mk) : RS := { st with O := m :: st.O }
def strength (op : Int) : Int := if op ≤ 6 then 1 else if op ≤ 8 then 2 else 3
def topOf : List Mk → Int
  | [] => 0
  | m :: _ => if m.kind = 2 then strength m.op else 0
def RS.join (st : RS) : RS :=
  match st.O, st.V with
  | m :: O', y :: x :: V' => (st.vo V' O').addTo (nBin m.op x y)
  | _, _ => st
def negs : List Mk → RS → RS
  | [], st => st
  | m :: O', st => if m.kind = 1 then (match st.V with
      | [] => st
      | a :: V' => negs O' ((st.vo V' O').addTo (nNeg a))) else st
def RS.settle (st : RS) : RS :=
  let s := negs st.O { st with hav := true }
  if topOf s.O = 3 then s.join else s
def RS.whole (st : RS) (x : Nd) : RS := (st.addTo x).settle
def rangesOf : List Mk → Bool
  | [] => false
  | m :: _ => if m.kind = 4 then rangeOK m.op else false
section
variable (b : Nat → Int) (n : Nat)
def RS.ref (st : RS) (t : Tok) : RS :=
  let ranges := rangesOf st.O
  let s := (st.take b n).look b n
  if (lex b n s.pos).kind ≠ 58 then s.whole (nRef t.r) else
  let u := (s.take b n).look b n
  let ut := lex b n u.pos
  if ut.kind ≠ 4 then u.fail 3 ut.st else
  let v := u.take b n
  if ranges = true then v.whole (nRange t.r ut.r) else v.fail 6 t.st
def RS.call (st : RS) (t : Tok) : RS :=
  let s := (st.take b n).look b n
  if (lex b n s.pos).kind ≠ 40 then s.fail 5 t.st else
  let u := (s.take b n).look b n
  if (lex b n u.pos).kind = 41 then u.fail 6 t.st else
  u.push ⟨4, t.n, t.st, 0, -1⟩
def RS.atom (st0 : RS) : RS :=
  let st := st0.look b n
  let t := lex b n st.pos
  if t.kind = 2 then (st.take b n).whole ⟨t.op, 0, -1, -1, t.n, rz, rz⟩
  else if t.kind = 4 then st.ref b n t
  else if t.kind = 5 then st.call b n t
  else if t.kind = 40 then (st.take b n).push ⟨3, 0, 0, 0, 0⟩
  else if t.kind = 3 then st.fail t.n t.st
  else if t.kind ≠ 6 ∨ t.n ≠ 8 then st.fail 3 t.st
  else (st.take b n).push ⟨1, 0, 0, 0, 0⟩
def RS.closeTail (st : RS) (t : Tok) (m : Mk) (O' : List Mk) : RS :=
  if t.kind ≠ 41 then st.fail 3 t.st else
  let s : RS := (st.take b n).vo st.V O'
  if m.kind = 3 then s.settle
  else if arity m.op m.n = true then s.whole (nCall m.op m.link m.n) else s.fail 6 m.st
/-- The part of 'close' behind the link of an argument. -/
def closeArg (r : RS × Int) (t : Tok) (m : Mk) (O' : List Mk) : RS :=
  let m' : Mk := ⟨m.kind, m.op, m.st, m.n + 1, r.2⟩
  let s : RS := r.1.vo r.1.V (m' :: O')
  if t.kind = 44 then { s.take b n with hav := false } else s.closeTail b n t m' O'
def RS.close (st : RS) (t : Tok) : RS :=
  match st.O with
  | [] => { (if t.kind ≠ 0 then st.fail 3 t.st else st) with done := true }
  | m :: O' =>
    if m.kind = 4 then
      match st.V with
      | [] => st
      | a :: V' => closeArg b n ((st.vo V' (m :: O')).add (nArg a m.link)) t m O'
    else st.closeTail b n t m O'
def strOf (t : Tok) : Int := if t.kind = 6 then strength t.n else 0
/-- after's three parts: what binds as + is joined; a comparison is joined; the end. -/
def RS.join2 (st : RS) (s : Int) : RS := if s < 3 ∧ topOf st.O = 2 then st.join else st
def RS.after3 (st : RS) (t : Tok) : RS :=
  match st.V with
  | [] => st
  | v :: _ =>
    if isRange st.nodes v = true then st.fail 3 t.st else
    { (st.take b n).push ⟨2, t.n, 0, 0, 0⟩ with hav := false }
def RS.after2 (st : RS) (t : Tok) (s : Int) : RS :=
  if s < 2 ∧ topOf st.O = 1 then st.join.close b n t
  else if s = 0 then st.close b n t else st.after3 b n t
def RS.after (st0 : RS) : RS :=
  let st := st0.look b n
  let t := lex b n st.pos
  (st.join2 (strOf t)).after2 b n t (strOf t)
def RS.step (st : RS) : RS := if st.hav = true then st.after b n else st.atom b n
def RS.out (st : RS) : Tr := if st.err = 0 then ⟨st.nodes, (st.nodes.length : Int) - 1, 0, 0⟩ else ⟨[], -1, st.err, st.bad⟩
def runN : Nat → RS → Option Tr
  | 0, st => if st.err ≠ 0 ∨ st.done = true then some st.out else none
  | m + 1, st => if st.err ≠ 0 ∨ st.done = true then some st.out else runN m (st.step b n)
def Ends (st : RS) (t : Tr) : Prop := ∃ m, runN b n m st = some t
end
def rs0 : RS := ⟨0, [], [], [], false, false, 0, 0⟩
end Go.Proofs.Qxb6500326aGreat
