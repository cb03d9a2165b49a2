/-
  DERIVED. THE PLAIN LAW OF LAYER edit, 2: what becomes of a node at a structural edit, and at a copy: the definition and the layer's own arithmetic.
-/
import Derived.Test.Qxb6500326aGreatS1
namespace Go.Proofs.Qxb6500326aGreat
set_option linter.unusedVariables false
set_option linter.unusedSimpArgs false

/-! ### the definition -/
def pointP (x n at_ : Int) (ins : Bool) : Int :=
  if ins = true then (if x < at_ then x else if n ≤ x + 1 then -1 else x + 1) else if x = at_ then -1 else if at_ < x then x - 1 else x
def stretchP (lo hi n at_ : Int) (ins : Bool) : Int × Int :=
  if ins = true then
    (if n ≤ (if at_ ≤ lo then lo + 1 else lo) then (-1, -1)
     else ((if at_ ≤ lo then lo + 1 else lo), if n ≤ (if at_ ≤ hi then hi + 1 else hi) then n - 1 else (if at_ ≤ hi then hi + 1 else hi)))
  else if lo = at_ ∧ hi = at_ then (-1, -1)
  else ((if at_ < lo then lo - 1 else lo), if at_ ≤ hi then hi - 1 else hi)
/-- The line of a reference along the axis; the reference with another line. -/
def ax (rows : Bool) (r : Ref) : Int := if rows = true then r.row else r.col
def setAx (rows : Bool) (r : Ref) (v : Int) : Ref := if rows = true then ⟨r.col, v, r.absC, r.absR⟩ else ⟨v, r.row, r.absC, r.absR⟩
def nAx (rows : Bool) : Int := if rows = true then 6 else 4
def moveRf (rows ins : Bool) (at_ : Int) (x : Nd) : Nd :=
  if pointP (ax rows x.r1) (nAx rows) at_ ins < 0 then nBad else ⟨x.kind, x.op, x.a, x.b, x.n, setAx rows x.r1 (pointP (ax rows x.r1) (nAx rows) at_ ins), x.r2⟩
def moveRg (rows ins : Bool) (at_ : Int) (x : Nd) : Nd :=
  if ax rows x.r2 < ax rows x.r1 then
    (if (stretchP (ax rows x.r2) (ax rows x.r1) (nAx rows) at_ ins).1 < 0 then nBad
     else ⟨x.kind, x.op, x.a, x.b, x.n, setAx rows x.r1 (stretchP (ax rows x.r2) (ax rows x.r1) (nAx rows) at_ ins).2, setAx rows x.r2 (stretchP (ax rows x.r2) (ax rows x.r1) (nAx rows) at_ ins).1⟩)
  else
    (if (stretchP (ax rows x.r1) (ax rows x.r2) (nAx rows) at_ ins).1 < 0 then nBad
     else ⟨x.kind, x.op, x.a, x.b, x.n, setAx rows x.r1 (stretchP (ax rows x.r1) (ax rows x.r2) (nAx rows) at_ ins).1, setAx rows x.r2 (stretchP (ax rows x.r1) (ax rows x.r2) (nAx rows) at_ ins).2⟩)
def moveN (rows ins : Bool) (at_ : Int) (x : Nd) : Nd :=
  if x.kind = 3 ∧ inGrid x.r1 = true then moveRf rows ins at_ x
  else if x.kind = 4 ∧ blockOK x.r1 x.r2 = true then moveRg rows ins at_ x
  else x
/-! ### the layer's own arithmetic -/
def lowP (step at_ x : Int) : Int := if 0 < step then (if at_ ≤ x then x + 1 else x) else if at_ < x then x - 1 else x
def highP (step at_ x : Int) : Int := if at_ ≤ x then x + step else x
def spanG (n step at_ lo hi : Int) : Int × Int := (lowP step at_ lo, if n ≤ highP step at_ hi then n - 1 else highP step at_ hi)
def stepOf (ins : Bool) : Int := if ins = true then 1 else -1
/-- A single reference: the two agree. -/
theorem point_span {x n at_ : Int} {ins : Bool} (h0 : 0 ≤ x) (hn : x < n) (ha : 0 ≤ at_) (han : at_ < n) :
    (pointP x n at_ ins < 0 ↔ ¬ (spanG n (stepOf ins) at_ x x).1 ≤ (spanG n (stepOf ins) at_ x x).2) ∧ (0 ≤ pointP x n at_ ins → pointP x n at_ ins = (spanG n (stepOf ins) at_ x x).1) := by
  unfold pointP spanG lowP highP stepOf
  cases ins <;> simp <;> constructor <;> (repeat' split) <;> omega
theorem stretch_span {lo hi n at_ : Int} {ins : Bool} (h0 : 0 ≤ lo) (hl : lo ≤ hi) (hn : hi < n) (ha : 0 ≤ at_) (han : at_ < n) :
    ((stretchP lo hi n at_ ins).1 < 0 ↔ ¬ (spanG n (stepOf ins) at_ lo hi).1 ≤ (spanG n (stepOf ins) at_ lo hi).2) ∧ (0 ≤ (stretchP lo hi n at_ ins).1 → stretchP lo hi n at_ ins = spanG n (stepOf ins) at_ lo hi) := by
  unfold stretchP spanG lowP highP stepOf
  cases ins <;> simp <;> constructor <;> (repeat' split) <;> simp <;> omega
end Go.Proofs.Qxb6500326aGreat
