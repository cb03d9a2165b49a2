/-
  DERIVED. PLAIN: lawful trees and their texts.
-/
import Derived.Test.Qxb6500326aGreatP3
namespace Go.Proofs.Qxb6500326aGreat
set_option linter.unusedVariables false
set_option linter.unusedSimpArgs false

def nd (L : List Nd) (i : Nat) : Nd := (L[i]?).getD nBad
theorem nd_app {L M : List Nd} {i : Nat} (h : i < L.length) : nd (L ++ M) i = nd L i := by
  unfold nd; rw [List.getElem?_append_left h]
theorem nd_last (L : List Nd) (x : Nd) : nd (L ++ [x]) L.length = x := by
  unfold nd; simp
def refEq (r s : Ref) : Bool := r.col == s.col && r.row == s.row && r.absC == s.absC && r.absR == s.absR
def ndEq (x y : Nd) : Bool := x.kind == y.kind && x.op == y.op && x.a == y.a && x.b == y.b && x.n == y.n && refEq x.r1 y.r1 && refEq x.r2 y.r2
theorem refEq_iff {r s : Ref} : refEq r s = true ↔ r = s := by
  cases r; cases s; simp [refEq, and_assoc]
theorem ndEq_iff {x y : Nd} : ndEq x y = true ↔ x = y := by
  cases x; cases y; simp [ndEq, refEq_iff, and_assoc]
/-- The node with every field that its kind does not name at rest. -/
def named (x : Nd) : Nd :=
  if x.kind = 1 ∨ x.kind = 2 then ⟨x.kind, 0, -1, -1, x.n, rz, rz⟩
  else if x.kind = 3 then ⟨x.kind, 0, -1, -1, 0, x.r1, rz⟩
  else if x.kind = 4 then ⟨x.kind, 0, -1, -1, 0, x.r1, x.r2⟩
  else if x.kind = 6 then ⟨x.kind, 0, x.a, -1, 0, rz, rz⟩
  else if x.kind = 7 then ⟨x.kind, x.op, x.a, x.b, 0, rz, rz⟩
  else if x.kind = 8 then ⟨x.kind, x.op, x.a, -1, x.n, rz, rz⟩
  else if x.kind = 9 then ⟨x.kind, 0, x.a, x.b, 0, rz, rz⟩
  else ⟨x.kind, 0, -1, -1, 0, rz, rz⟩
def refIn (r : Ref) : Prop := 0 ≤ r.col ∧ r.col ≤ 25 ∧ 0 ≤ r.row ∧ r.row ≤ 98

/-! ### Go's span and links -/
def linksP (sp : Int → Bool → Int) (L : List Nd) (rg : Bool) : Nat → Int → Int → Int
  | 0, _, _ => -1
  | m + 1, i, k =>
    if i < 0 ∨ (L.length : Int) ≤ i ∨ (nd L i.toNat).kind ≠ 9 ∨ (nd L i.toNat).a ≠ i - 1 then -1
    else if ndEq (nd L i.toNat) (named (nd L i.toNat)) = false then -1
    else
      let lo := sp (nd L i.toNat).a rg
      if lo < 0 then -1
      else if k = 1 then (if (nd L i.toNat).b ≠ -1 then -1 else lo)
      else if (nd L i.toNat).b ≠ lo - 1 then -1 else linksP sp L rg m (nd L i.toNat).b (k - 1)
def spanP (L : List Nd) : Nat → Int → Bool → Int
  | 0, _, _ => -1
  | f + 1, i, arg =>
    if i < 0 ∨ (L.length : Int) ≤ i then -1
    else
      let x := nd L i.toNat
      if ndEq x (named x) = false then -1
      else if x.kind = 1 then (if x.n < 0 ∨ 999999999 < x.n then -1 else i)
      else if x.kind = 2 then (if x.n < 0 ∨ 1 < x.n then -1 else i)
      else if x.kind = 3 ∨ x.kind = 5 then i
      else if x.kind = 4 then (if arg = true then i else -1)
      else if x.kind = 6 then (if x.a ≠ i - 1 then -1 else spanP L f x.a false)
      else if x.kind = 7 then
        (if x.op < 1 ∨ 10 < x.op ∨ x.b ≠ i - 1 then -1
        else
          let lo := spanP L f x.b false
          if lo < 0 ∨ x.a ≠ lo - 1 then -1 else spanP L f x.a false)
      else if x.kind = 8 then
        (if arity x.op x.n = false ∨ x.a ≠ i - 1 then -1 else linksP (spanP L f) L (rangeOK x.op) f x.a x.n)
      else -1
def refsOK (L : List Nd) : Prop := ∀ x, x ∈ L → refIn x.r1 ∧ refIn x.r2
structure TreeOK (t : Tr) : Prop where
  err : t.err = 0
  pos : t.pos = 0
  one : 1 ≤ t.nodes.length
  max : t.nodes.length ≤ 24
  root : t.root = (t.nodes.length : Int) - 1
  refs : refsOK t.nodes
  span : spanP t.nodes t.nodes.length t.root false = 0

/-! ### A lawful span as a proposition -/
def Lk (S : Nat → Nat → Bool → Prop) (L : List Nd) (rg : Bool) : Nat → Nat → Nat → Prop
  | 0, _, _ => False
  | k + 1, i, lo => 1 ≤ i ∧ i < L.length ∧ ∃ m, S (i - 1) m rg ∧
      ((k = 0 ∧ nd L i = nArg ((i : Int) - 1) (-1) ∧ lo = m) ∨ (0 < k ∧ 1 ≤ m ∧ nd L i = nArg ((i : Int) - 1) ((m : Int) - 1) ∧ Lk S L rg k (m - 1) lo))
/-- Node i is a leaf. -/
def Leaf (x : Nd) (arg : Bool) : Prop :=
  (∃ v, x = nNum v ∧ 0 ≤ v ∧ v ≤ 999999999) ∨ x = nBool 0 ∨ x = nBool 1 ∨ (∃ r, x = nRef r ∧ refIn r) ∨ x = nBad ∨ (arg = true ∧ ∃ r s, x = nRange r s ∧ refIn r ∧ refIn s)
def Sp (L : List Nd) : Nat → Nat → Nat → Bool → Prop
  | 0, _, _, _ => False
  | f + 1, i, lo, arg => i < L.length ∧
      ((lo = i ∧ Leaf (nd L i) arg) ∨
       (1 ≤ i ∧ nd L i = nNeg ((i : Int) - 1) ∧ Sp L f (i - 1) lo false) ∨
       (∃ (op : Int) (m : Nat), 1 ≤ op ∧ op ≤ 10 ∧ 1 ≤ i ∧ 1 ≤ m ∧ nd L i = nBin op ((m : Int) - 1) ((i : Int) - 1) ∧ Sp L f (i - 1) m false ∧ Sp L f (m - 1) lo false) ∨
       (∃ (op k : Int), 1 ≤ i ∧ nd L i = nCall op ((i : Int) - 1) k ∧ arity op k = true ∧ Lk (Sp L f) L (rangeOK op) k.toNat (i - 1) lo))

theorem Lk.mono {S S' : Nat → Nat → Bool → Prop} {L : List Nd} {rg : Bool} (h : ∀ i lo a, S i lo a → S' i lo a) : ∀ (k i lo : Nat), Lk S L rg k i lo → Lk S' L rg k i lo
  | 0, _, _, h' => h'
  | k + 1, i, lo, h' => by
    obtain ⟨h1, h2, m, h3, h4⟩ := h'
    refine ⟨h1, h2, m, h _ _ _ h3, ?_⟩
    rcases h4 with h4 | ⟨a, b, c, d⟩
    · exact .inl h4
    · exact .inr ⟨a, b, c, Lk.mono h k _ _ d⟩
theorem Sp.succ {L : List Nd} : ∀ (f i lo : Nat) (arg : Bool), Sp L f i lo arg → Sp L (f + 1) i lo arg
  | 0, _, _, _, h => h.elim
  | f + 1, i, lo, arg, h => by
    obtain ⟨h0, h⟩ := h
    refine ⟨h0, ?_⟩
    rcases h with h | ⟨h1, h2, h3⟩ | ⟨op, m, h1, h2, h3, h4, h5, h6, h7⟩ | ⟨op, k, h1, h2, h3, h4⟩
    · exact .inl h
    · exact .inr (.inl ⟨h1, h2, Sp.succ f _ _ _ h3⟩)
    · exact .inr (.inr (.inl ⟨op, m, h1, h2, h3, h4, h5, Sp.succ f _ _ _ h6, Sp.succ f _ _ _ h7⟩))
    · exact .inr (.inr (.inr ⟨op, k, h1, h2, h3, Lk.mono (Sp.succ f) _ _ _ h4⟩))
theorem Sp.mono {L : List Nd} {f g i lo : Nat} {arg : Bool} (h : Sp L f i lo arg) (hfg : f ≤ g) : Sp L g i lo arg := by
  induction hfg with
  | refl => exact h
  | step _ ih => exact Sp.succ _ _ _ _ ih
theorem Leaf.arg {x : Nd} {arg : Bool} (h : Leaf x false) : Leaf x arg := by
  rcases h with h | h | h | h | h | h
  · exact .inl h
  · exact .inr (.inl h)
  · exact .inr (.inr (.inl h))
  · exact .inr (.inr (.inr (.inl h)))
  · exact .inr (.inr (.inr (.inr (.inl h))))
  · exact absurd h.1 (by decide)
theorem Leaf.noarg {x : Nd} {arg : Bool} (h : Leaf x arg) (hk : x.kind ≠ 4) : Leaf x false := by
  rcases h with h | h | h | h | h | ⟨_, r, s, rfl, _⟩
  · exact .inl h
  · exact .inr (.inl h)
  · exact .inr (.inr (.inl h))
  · exact .inr (.inr (.inr (.inl h)))
  · exact .inr (.inr (.inr (.inr (.inl h))))
  · exact absurd rfl hk
theorem Sp.arg {L : List Nd} {f i lo : Nat} {arg : Bool} (h : Sp L f i lo false) : Sp L f i lo arg := by
  cases f with
  | zero => exact h
  | succ f =>
    obtain ⟨h0, h⟩ := h
    refine ⟨h0, ?_⟩
    rcases h with h | h
    · exact .inl ⟨h.1, h.2.arg⟩
    · exact .inr h
theorem Sp.noarg {L : List Nd} {f i lo : Nat} {arg : Bool} (h : Sp L f i lo arg) (hk : (nd L i).kind ≠ 4) : Sp L f i lo false := by
  cases f with
  | zero => exact h
  | succ f =>
    obtain ⟨h0, h⟩ := h
    refine ⟨h0, ?_⟩
    rcases h with h | h
    · exact .inl ⟨h.1, h.2.noarg hk⟩
    · exact .inr h
theorem Sp.lt {L : List Nd} {f i lo : Nat} {arg : Bool} (h : Sp L f i lo arg) : i < L.length := by
  cases f with
  | zero => exact h.elim
  | succ f => exact h.1
theorem Lk.lt {S : Nat → Nat → Bool → Prop} {L : List Nd} {rg : Bool} {k i lo : Nat} (h : Lk S L rg k i lo) : 1 ≤ i ∧ i < L.length := by
  cases k with
  | zero => exact h.elim
  | succ k => exact ⟨h.1, h.2.1⟩
theorem Lk.le {S : Nat → Nat → Bool → Prop} {L : List Nd} {rg : Bool} (hS : ∀ i lo a, S i lo a → lo ≤ i) : ∀ (k i lo : Nat), Lk S L rg k i lo → lo < i
  | 0, _, _, h => h.elim
  | k + 1, i, lo, h => by
    obtain ⟨h1, h2, m, h3, h4⟩ := h
    have := hS _ _ _ h3
    rcases h4 with ⟨_, _, e⟩ | ⟨a, b, c, d⟩
    · omega
    · have := Lk.le hS k _ _ d; omega
theorem Sp.le {L : List Nd} : ∀ (f i lo : Nat) (arg : Bool), Sp L f i lo arg → lo ≤ i
  | 0, _, _, _, h => h.elim
  | f + 1, i, lo, arg, h => by
    obtain ⟨h0, h⟩ := h
    rcases h with h | ⟨h1, h2, h3⟩ | ⟨op, m, h1, h2, h3, h4, h5, h6, h7⟩ | ⟨op, k, h1, h2, h3, h4⟩
    · omega
    · have := Sp.le f _ _ _ h3; omega
    · have := Sp.le f _ _ _ h6; have := Sp.le f _ _ _ h7; omega
    · have := Lk.le (Sp.le f) _ _ _ h4; omega
/-- What stands behind the span does not matter. -/
theorem Lk.app {S S' : Nat → Nat → Bool → Prop} {L M : List Nd} {rg : Bool} (hS : ∀ i lo a, S i lo a → S' i lo a) : ∀ (k i lo : Nat), Lk S L rg k i lo → Lk S' (L ++ M) rg k i lo
  | 0, _, _, h => h
  | k + 1, i, lo, h => by
    obtain ⟨h1, h2, m, h3, h4⟩ := h
    refine ⟨h1, by rw [List.length_append]; omega, m, hS _ _ _ h3, ?_⟩
    rw [nd_app h2]
    rcases h4 with h4 | ⟨a, b, c, d⟩
    · exact .inl h4
    · exact .inr ⟨a, b, c, Lk.app hS k _ _ d⟩
theorem Sp.app {L M : List Nd} : ∀ (f i lo : Nat) (arg : Bool), Sp L f i lo arg → Sp (L ++ M) f i lo arg
  | 0, _, _, _, h => h.elim
  | f + 1, i, lo, arg, h => by
    obtain ⟨h0, h⟩ := h
    refine ⟨by rw [List.length_append]; omega, ?_⟩
    rw [nd_app h0]
    rcases h with h | ⟨h1, h2, h3⟩ | ⟨op, m, h1, h2, h3, h4, h5, h6, h7⟩ | ⟨op, k, h1, h2, h3, h4⟩
    · exact .inl h
    · exact .inr (.inl ⟨h1, h2, Sp.app f _ _ _ h3⟩)
    · exact .inr (.inr (.inl ⟨op, m, h1, h2, h3, h4, h5, Sp.app f _ _ _ h6, Sp.app f _ _ _ h7⟩))
    · exact .inr (.inr (.inr ⟨op, k, h1, h2, h3, Lk.app (Sp.app f) _ _ _ h4⟩))

/-! ### The text of a tree -/
def opTxt (op : Int) : List Int :=
  if op = 1 then [61] else if op = 2 then [60, 62] else if op = 3 then [60] else if op = 4 then [60, 61] else if op = 5 then [62] else if op = 6 then [62, 61] else if op = 7 then [43] else if op = 8 then [45] else if op = 9 then [42] else [47]
def level (x : Nd) : Int := if x.kind = 6 then 4 else if x.kind ≠ 7 then 5 else if x.op ≤ 6 then 1 else if x.op ≤ 8 then 2 else 3
/-- The digits of v ahead of T. -/
def decF : Nat → Nat → List Int → List Int
  | 0, _, T => T
  | f + 1, v, T => if v / 10 = 0 then ((48 + v % 10 : Nat) : Int) :: T else decF f (v / 10) (((48 + v % 10 : Nat) : Int) :: T)
def dec (v : Int) : List Int := decF 20 v.toNat []
def refTxt (r : Ref) : List Int := (if r.absC = true then [36] else []) ++ (65 + r.col) :: ((if r.absR = true then [36] else []) ++ dec (r.row + 1))
def bracket (lv need : Int) (s : List Int) : List Int := if lv < need then 40 :: (s ++ [41]) else s
def argsS (sh : Nat → Int → List Int) (L : List Nd) : Nat → Nat → List Int
  | 0, _ => []
  | m + 1, i => if (nd L i).b < 0 then sh (nd L i).a.toNat 1 else argsS sh L m (nd L i).b.toNat ++ 44 :: sh (nd L i).a.toNat 1
def leftNeed (lv : Int) : Int := if lv = 1 then 2 else lv
def leafTxt (x : Nd) : List Int :=
  if x.kind = 1 then dec x.n
  else if x.kind = 2 then (if x.n = 1 then wTrue else wFalse)
  else if x.kind = 3 then refTxt x.r1
  else if x.kind = 4 then refTxt x.r1 ++ 58 :: refTxt x.r2
  else if x.kind = 5 then [35, 35]
  else []
def showS (L : List Nd) : Nat → Nat → Int → List Int
  | 0, _, _ => []
  | f + 1, i, need =>
    let x := nd L i
    bracket (level x) need
      (if x.kind = 6 then 45 :: showS L f x.a.toNat 4
       else if x.kind = 7 then showS L f x.a.toNat (leftNeed (level x)) ++ opTxt x.op ++ showS L f x.b.toNat (level x + 1)
       else if x.kind = 8 then fnName x.op ++ 40 :: (argsS (showS L f) L f x.a.toNat ++ [41])
       else leafTxt x)
/-- The text of node i, in its place. -/
def tx (L : List Nd) (i : Nat) (need : Int) : List Int := showS L (i + 1) i need
/-- The text of the links up to i. -/
def axt (L : List Nd) (i : Nat) : List Int := argsS (showS L i) L (i + 1) i

theorem args_fuel {L L' : List Nd} {S : Nat → Nat → Bool → Prop} {rg : Bool} {s s' : Nat → Int → List Int} (hlt : ∀ j lo a, S j lo a → lo ≤ j) :
    ∀ (k i lo : Nat), (∀ j lo a need, j < i → S j lo a → s j need = s' j need) → (∀ j, j ≤ i → nd L j = nd L' j) → Lk S L rg k i lo → ∀ g h, i < g → i < h → argsS s L g i = argsS s' L' h i
  | 0, i, lo, hs, hL, hk, g, h, hg, hh => hk.elim
  | k + 1, i, lo, hs, hL, hk, g, h, hg, hh => by
    obtain ⟨h1, h2, m, h3, h4⟩ := hk
    obtain ⟨g, rfl⟩ : ∃ g', g = g' + 1 := ⟨g - 1, by omega⟩
    obtain ⟨h, rfl⟩ : ∃ h', h = h' + 1 := ⟨h - 1, by omega⟩
    have hm := hlt _ _ _ h3
    unfold argsS
    rw [← hL i (Nat.le_refl _)]
    rcases h4 with ⟨_, e, _⟩ | ⟨a, b, e, d⟩
    · have ea : (nd L i).a = (i : Int) - 1 := by rw [e]; rfl
      have eb : (nd L i).b = -1 := by rw [e]; rfl
      rw [ea, eb, if_pos (by decide), if_pos (by decide), show ((i : Int) - 1).toNat = i - 1 from by omega]
      exact hs _ _ _ _ (by omega) h3
    · have ea : (nd L i).a = (i : Int) - 1 := by rw [e]; rfl
      have eb : (nd L i).b = (m : Int) - 1 := by rw [e]; rfl
      rw [ea, eb, if_neg (by omega), if_neg (by omega), show ((i : Int) - 1).toNat = i - 1 from by omega, show ((m : Int) - 1).toNat = m - 1 from by omega, hs _ _ _ _ (by omega) h3,
        args_fuel hlt k (m - 1) lo (fun j lo a need hj => hs j lo a need (by omega)) (fun j hj => hL j (by omega)) d g h (by omega) (by omega)]
theorem show_two {L L' : List Nd} : ∀ (f i lo : Nat) (arg : Bool), Sp L f i lo arg → (∀ j, j ≤ i → nd L j = nd L' j) → ∀ g h need, i < g → i < h → showS L g i need = showS L' h i need
  | 0, _, _, _, h, _, _, _, _, _, _ => h.elim
  | f + 1, i, lo, arg, hsp, hL, g, h, need, hg, hh => by
    obtain ⟨g, rfl⟩ : ∃ g', g = g' + 1 := ⟨g - 1, by omega⟩
    obtain ⟨h, rfl⟩ : ∃ h', h = h' + 1 := ⟨h - 1, by omega⟩
    obtain ⟨h0, hsp⟩ := hsp
    unfold showS
    simp only []
    rw [← hL i (Nat.le_refl _)]
    congr 1
    rcases hsp with ⟨_, hl⟩ | ⟨h1, h2, h3⟩ | ⟨op, m, h1, h2, h3, h4, h5, h6, h7⟩ | ⟨op, k, h1, h2, h3, h4⟩
    · have : (nd L i).kind ≠ 6 ∧ (nd L i).kind ≠ 7 ∧ (nd L i).kind ≠ 8 := by
        rcases hl with ⟨v, e, _⟩ | e | e | ⟨r, e, _⟩ | e | ⟨_, r, s, e, _⟩ <;> rw [e] <;> refine ⟨?_, ?_, ?_⟩ <;> (intro hh; cases hh)
      rw [if_neg this.1, if_neg this.2.1, if_neg this.2.2, if_neg this.1, if_neg this.2.1, if_neg this.2.2]
    · have ek : (nd L i).kind = 6 := by rw [h2]; rfl
      have ea : (nd L i).a = (i : Int) - 1 := by rw [h2]; rfl
      rw [if_pos ek, if_pos ek, ea, show ((i : Int) - 1).toNat = i - 1 from by omega, show_two f _ _ _ h3 (fun j hj => hL j (by omega)) g h 4 (by omega) (by omega)]
    · have := Sp.le _ _ _ _ h6
      have ek : (nd L i).kind = 7 := by rw [h5]; rfl
      have ea : (nd L i).a = (m : Int) - 1 := by rw [h5]; rfl
      have eb : (nd L i).b = (i : Int) - 1 := by rw [h5]; rfl
      rw [if_neg (by rw [ek]; decide), if_pos ek, if_neg (by rw [ek]; decide), if_pos ek, ea, eb, show ((i : Int) - 1).toNat = i - 1 from by omega, show ((m : Int) - 1).toNat = m - 1 from by omega,
        show_two f _ _ _ h6 (fun j hj => hL j (by omega)) g h _ (by omega) (by omega), show_two f _ _ _ h7 (fun j hj => hL j (by omega)) g h _ (by omega) (by omega)]
    · have ek : (nd L i).kind = 8 := by rw [h2]; rfl
      have ea : (nd L i).a = (i : Int) - 1 := by rw [h2]; rfl
      rw [if_neg (by rw [ek]; decide), if_neg (by rw [ek]; decide), if_pos ek, if_neg (by rw [ek]; decide), if_neg (by rw [ek]; decide), if_pos ek, ea, show ((i : Int) - 1).toNat = i - 1 from by omega]
      rw [args_fuel (L' := L') (S := Sp L f) (Sp.le f) _ _ _ (fun j lo a need hj hS => show_two f j lo a hS (fun j' hj' => hL j' (by omega)) g h need (by omega) (by omega)) (fun j hj => hL j (by omega)) h4 g h (by omega) (by omega)]
theorem tx_fuel {L : List Nd} {f i lo : Nat} {arg : Bool} (hs : Sp L f i lo arg) (g : Nat) (need : Int) (hg : i < g) : showS L g i need = tx L i need :=
  show_two f i lo arg hs (fun _ _ => rfl) g (i + 1) need hg (Nat.lt_succ_self i)
theorem tx_app {L : List Nd} {f i lo : Nat} {arg : Bool} (hs : Sp L f i lo arg) (M : List Nd) (need : Int) : tx (L ++ M) i need = tx L i need :=
  (show_two f i lo arg hs (fun j hj => (nd_app (by have := hs.lt; omega)).symm) (i + 1) (i + 1) need (Nat.lt_succ_self i) (Nat.lt_succ_self i)).symm
theorem axt_fuel {L : List Nd} {f k i lo : Nat} {rg : Bool} (hs : Lk (Sp L f) L rg k i lo) (g g' : Nat) (hg : i ≤ g) (hg' : i < g') : argsS (showS L g) L g' i = axt L i :=
  args_fuel (Sp.le f) k i lo (fun j lo a need hj hS => show_two f j lo a hS (fun _ _ => rfl) g i need (by omega) hj) (fun _ _ => rfl) hs g' (i + 1) hg' (Nat.lt_succ_self i)
theorem axt_app {L : List Nd} {f k i lo : Nat} {rg : Bool} (hs : Lk (Sp L f) L rg k i lo) (M : List Nd) : axt (L ++ M) i = axt L i :=
  (args_fuel (L' := L ++ M) (Sp.le f) k i lo (fun j lo a need hj hS => show_two f j lo a hS (fun j' hj' => (nd_app (by have := hs.lt; omega)).symm) i i need hj hj)
    (fun j hj => (nd_app (by have := hs.lt; omega)).symm) hs (i + 1) (i + 1) (Nat.lt_succ_self i) (Nat.lt_succ_self i)).symm

theorem bracket_no {lv need : Int} (h : need ≤ lv) (s : List Int) : bracket lv need s = s := by unfold bracket; rw [if_neg (by omega)]
theorem leaf_kind {x : Nd} {arg : Bool} (h : Leaf x arg) : x.kind ≠ 6 ∧ x.kind ≠ 7 ∧ x.kind ≠ 8 ∧ level x = 5 := by
  rcases h with ⟨v, e, _⟩ | e | e | ⟨r, e, _⟩ | e | ⟨_, r, s, e, _⟩ <;> rw [e] <;> refine ⟨?_, ?_, ?_, rfl⟩ <;> (intro hh; cases hh)
theorem tx_leaf {L : List Nd} {i : Nat} {arg : Bool} {need : Int} (h : Leaf (nd L i) arg) (hn : need ≤ 5) : tx L i need = leafTxt (nd L i) := by
  obtain ⟨h1, h2, h3, h4⟩ := leaf_kind h
  unfold tx showS
  simp only []
  rw [h4, bracket_no hn, if_neg h1, if_neg h2, if_neg h3]
theorem tx_neg {L : List Nd} {i : Nat} {need : Int} (h1 : 1 ≤ i) (h2 : nd L i = nNeg ((i : Int) - 1)) : tx L i need = bracket 4 need (45 :: tx L (i - 1) 4) := by
  have ek : (nd L i).kind = 6 := by rw [h2]; rfl
  have ea : (nd L i).a = (i : Int) - 1 := by rw [h2]; rfl
  have el : level (nd L i) = 4 := by unfold level; rw [if_pos ek]
  unfold tx
  conv => lhs; unfold showS
  simp only []
  rw [el, if_pos ek, ea, show ((i : Int) - 1).toNat = i - 1 from by omega, show i - 1 + 1 = i from by omega]
theorem tx_bin {L : List Nd} {f i m lo : Nat} {op need : Int} (h1 : 1 ≤ i) (hm : 1 ≤ m) (h5 : nd L i = nBin op ((m : Int) - 1) ((i : Int) - 1)) (h6 : Sp L f (i - 1) m false) (h7 : Sp L f (m - 1) lo false) :
    tx L i need = bracket (level (nd L i)) need (tx L (m - 1) (leftNeed (level (nd L i))) ++ opTxt op ++ tx L (i - 1) (level (nd L i) + 1)) := by
  have ek : (nd L i).kind = 7 := by rw [h5]; rfl
  have ea : (nd L i).a = (m : Int) - 1 := by rw [h5]; rfl
  have eb : (nd L i).b = (i : Int) - 1 := by rw [h5]; rfl
  have eo : (nd L i).op = op := by rw [h5]; rfl
  have := Sp.le _ _ _ _ h6
  conv => lhs; unfold tx showS
  simp only []
  rw [if_neg (by rw [ek]; decide), if_pos ek, ea, eb, eo, show ((i : Int) - 1).toNat = i - 1 from by omega, show ((m : Int) - 1).toNat = m - 1 from by omega, tx_fuel h6 _ _ (by omega), tx_fuel h7 _ _ (by omega)]
theorem tx_call {L : List Nd} {f i k lo : Nat} {op kk need : Int} {rg : Bool} (h1 : 1 ≤ i) (h2 : nd L i = nCall op ((i : Int) - 1) kk) (h4 : Lk (Sp L f) L rg k (i - 1) lo) (hn : need ≤ 5) :
    tx L i need = fnName op ++ 40 :: (axt L (i - 1) ++ [41]) := by
  have ek : (nd L i).kind = 8 := by rw [h2]; rfl
  have ea : (nd L i).a = (i : Int) - 1 := by rw [h2]; rfl
  have eo : (nd L i).op = op := by rw [h2]; rfl
  have el : level (nd L i) = 5 := by unfold level; rw [if_neg (by rw [ek]; decide), if_pos (by rw [ek]; decide)]
  conv => lhs; unfold tx showS
  simp only []
  rw [el, bracket_no hn, if_neg (by rw [ek]; decide), if_neg (by rw [ek]; decide), if_pos ek, ea, eo, show ((i : Int) - 1).toNat = i - 1 from by omega, axt_fuel h4 i i (by omega) (by omega)]
theorem axt_one {L : List Nd} {i : Nat} (h1 : 1 ≤ i) (h2 : nd L i = nArg ((i : Int) - 1) (-1)) : axt L i = tx L (i - 1) 1 := by
  have ea : (nd L i).a = (i : Int) - 1 := by rw [h2]; rfl
  have eb : (nd L i).b = -1 := by rw [h2]; rfl
  unfold axt argsS tx
  rw [ea, eb, if_pos (by decide), show ((i : Int) - 1).toNat = i - 1 from by omega, show i - 1 + 1 = i from by omega]
theorem axt_more {L : List Nd} {f k i m lo : Nat} {rg : Bool} (h1 : 1 ≤ i) (hm : 1 ≤ m) (hmi : m ≤ i - 1) (h2 : nd L i = nArg ((i : Int) - 1) ((m : Int) - 1)) (h4 : Lk (Sp L f) L rg k (m - 1) lo) :
    axt L i = axt L (m - 1) ++ 44 :: tx L (i - 1) 1 := by
  have ea : (nd L i).a = (i : Int) - 1 := by rw [h2]; rfl
  have eb : (nd L i).b = (m : Int) - 1 := by rw [h2]; rfl
  conv => lhs; unfold axt argsS
  rw [ea, eb, if_neg (by omega), show ((i : Int) - 1).toNat = i - 1 from by omega, show ((m : Int) - 1).toNat = m - 1 from by omega, axt_fuel h4 i i (by omega) (by omega)]
  unfold tx
  rw [show i - 1 + 1 = i from by omega]

/-! ### The two readings of a lawful span are one -/
theorem links_of_lk {L : List Nd} {sp : Int → Bool → Int} {S : Nat → Nat → Bool → Prop} {rg : Bool} (hle : ∀ j lo a, S j lo a → lo ≤ j) :
    ∀ (k i lo : Nat), (∀ j lo a, j < i → S j lo a → sp j a = lo) → Lk S L rg k i lo → ∀ g, i < g → linksP sp L rg g i k = lo
  | 0, _, _, _, h, _, _ => h.elim
  | k + 1, i, lo, hs, h, g, hg => by
    obtain ⟨h1, h2, m, h3, h4⟩ := h
    obtain ⟨g, rfl⟩ : ∃ g', g = g' + 1 := ⟨g - 1, by omega⟩
    have hm := hle _ _ _ h3
    unfold linksP
    rw [show ((i : Int)).toNat = i from by omega]
    have hsp := hs (i - 1) m rg (by omega) h3
    rcases h4 with ⟨e0, e, el⟩ | ⟨a, b, e, d⟩
    · have ek : (nd L i).kind = 9 := by rw [e]; rfl
      have ea : (nd L i).a = (i : Int) - 1 := by rw [e]; rfl
      have eb : (nd L i).b = -1 := by rw [e]; rfl
      have en : ndEq (nd L i) (named (nd L i)) = true := by rw [ndEq_iff, e]; rfl
      rw [if_neg (by rw [ek, ea]; omega), if_neg (by rw [en]; decide)]
      simp only []
      rw [ea, show ((i : Int) - 1) = ((i - 1 : Nat) : Int) from by omega, hsp, if_neg (by omega), if_pos (by omega), if_neg (by rw [eb]; decide), el]
    · have ek : (nd L i).kind = 9 := by rw [e]; rfl
      have ea : (nd L i).a = (i : Int) - 1 := by rw [e]; rfl
      have eb : (nd L i).b = (m : Int) - 1 := by rw [e]; rfl
      have en : ndEq (nd L i) (named (nd L i)) = true := by rw [ndEq_iff, e]; rfl
      rw [if_neg (by rw [ek, ea]; omega), if_neg (by rw [en]; decide)]
      simp only []
      rw [ea, show ((i : Int) - 1) = ((i - 1 : Nat) : Int) from by omega, hsp, if_neg (by omega), if_neg (by omega), if_neg (by rw [eb]; simp), eb, show (m : Int) - 1 = ((m - 1 : Nat) : Int) from by omega, show ((k + 1 : Nat) : Int) - 1 = (k : Int) from by omega]
      exact links_of_lk hle k (m - 1) lo (fun j lo a hj => hs j lo a (by omega)) d g (by omega)
theorem arity_pos {op k : Int} (h : arity op k = true) : 1 ≤ k := by
  unfold arity at h
  repeat' split at h
  all_goals simp at h <;> omega
theorem leaf_span {x : Nd} {arg : Bool} (h : Leaf x arg) : ndEq x (named x) = true ∧ (
    (x.kind = 1 ∧ 0 ≤ x.n ∧ x.n ≤ 999999999) ∨ (x.kind = 2 ∧ 0 ≤ x.n ∧ x.n ≤ 1) ∨ (x.kind = 3 ∨ x.kind = 5) ∨ (x.kind = 4 ∧ arg = true)) := by
  rw [ndEq_iff]
  rcases h with ⟨v, e, h1, h2⟩ | e | e | ⟨r, e, _⟩ | e | ⟨ha, r, s, e, _⟩ <;> rw [e]
  · exact ⟨rfl, .inl ⟨rfl, h1, h2⟩⟩
  · exact ⟨rfl, .inr (.inl ⟨rfl, by decide, by decide⟩)⟩
  · exact ⟨rfl, .inr (.inl ⟨rfl, by decide, by decide⟩)⟩
  · exact ⟨rfl, .inr (.inr (.inl (.inl rfl)))⟩
  · exact ⟨rfl, .inr (.inr (.inl (.inr rfl)))⟩
  · exact ⟨rfl, .inr (.inr (.inr ⟨rfl, ha⟩))⟩
theorem span_of_sp {L : List Nd} : ∀ (f i lo : Nat) (arg : Bool), Sp L f i lo arg → ∀ g, i < g → spanP L g i arg = lo
  | 0, _, _, _, h, _, _ => h.elim
  | f + 1, i, lo, arg, h, g, hg => by
    obtain ⟨g, rfl⟩ : ∃ g', g = g' + 1 := ⟨g - 1, by omega⟩
    obtain ⟨h0, h⟩ := h
    unfold spanP
    rw [if_neg (by omega), show ((i : Int)).toNat = i from by omega]
    simp only []
    rcases h with ⟨el, hl⟩ | ⟨h1, h2, h3⟩ | ⟨op, m, h1, h2, h3, h4, h5, h6, h7⟩ | ⟨op, k, h1, h2, h3, h4⟩
    · obtain ⟨en, hl⟩ := leaf_span hl
      rw [if_neg (by rw [en]; decide), el]
      rcases hl with ⟨k, p, q⟩ | ⟨k, p, q⟩ | k | ⟨k, ha⟩
      · rw [if_pos k, if_neg (by omega)]
      · rw [if_neg (by omega), if_pos k, if_neg (by omega)]
      · rw [if_neg (by omega), if_neg (by omega), if_pos k]
      · rw [if_neg (by omega), if_neg (by omega), if_neg (by omega), if_pos k, if_pos ha]
    · have ek : (nd L i).kind = 6 := by rw [h2]; rfl
      have ea : (nd L i).a = (i : Int) - 1 := by rw [h2]; rfl
      have en : ndEq (nd L i) (named (nd L i)) = true := by rw [ndEq_iff, h2]; rfl
      rw [if_neg (by rw [en]; decide), if_neg (by omega), if_neg (by omega), if_neg (by omega), if_neg (by omega), if_pos ek, if_neg (by rw [ea]; simp), ea, show ((i : Int) - 1) = ((i - 1 : Nat) : Int) from by omega]
      exact span_of_sp f _ _ _ h3 g (by omega)
    · have ek : (nd L i).kind = 7 := by rw [h5]; rfl
      have ea : (nd L i).a = (m : Int) - 1 := by rw [h5]; rfl
      have eb : (nd L i).b = (i : Int) - 1 := by rw [h5]; rfl
      have eo : (nd L i).op = op := by rw [h5]; rfl
      have en : ndEq (nd L i) (named (nd L i)) = true := by rw [ndEq_iff, h5]; rfl
      have hle := Sp.le _ _ _ _ h6
      rw [if_neg (by rw [en]; decide), if_neg (by omega), if_neg (by omega), if_neg (by omega), if_neg (by omega), if_neg (by omega), if_pos ek, if_neg (by rw [eo, eb]; omega)]
      rw [eb, show ((i : Int) - 1) = ((i - 1 : Nat) : Int) from by omega, span_of_sp f _ _ _ h6 g (by omega), ea, if_neg (by omega), show ((m : Int) - 1) = ((m - 1 : Nat) : Int) from by omega]
      exact span_of_sp f _ _ _ h7 g (by omega)
    · have ek : (nd L i).kind = 8 := by rw [h2]; rfl
      have ea : (nd L i).a = (i : Int) - 1 := by rw [h2]; rfl
      have eo : (nd L i).op = op := by rw [h2]; rfl
      have ekk : (nd L i).n = k := by rw [h2]; rfl
      have en : ndEq (nd L i) (named (nd L i)) = true := by rw [ndEq_iff, h2]; rfl
      have hp := arity_pos h3
      rw [if_neg (by rw [en]; decide), if_neg (by omega), if_neg (by omega), if_neg (by omega), if_neg (by omega), if_neg (by omega), if_neg (by omega), if_pos ek, if_neg (by rw [eo, ekk, h3, ea]; simp), eo, ekk, ea,
        show ((i : Int) - 1) = ((i - 1 : Nat) : Int) from by omega]
      have := links_of_lk (sp := spanP L g) (Sp.le f) k.toNat (i - 1) lo (fun j lo a hj hS => span_of_sp f j lo a hS g (by omega)) h4 g (by omega)
      rw [show ((k.toNat : Nat) : Int) = k from by omega] at this
      exact this
theorem named_arg {x : Nd} (hk : x.kind = 9) (h : x = named x) : x = nArg x.a x.b := by
  rw [h]; unfold named; simp [hk, nArg]
theorem lk_of_links {L : List Nd} {sp : Int → Bool → Int} {S : Nat → Nat → Bool → Prop} {rg : Bool} (hs : ∀ (x : Int) a, 0 ≤ sp x a → ∃ j : Nat, x = j ∧ S j (sp x a).toNat a) :
    ∀ (g : Nat) (i k : Int), 1 ≤ k → 0 ≤ linksP sp L rg g i k → ∃ j : Nat, (i = j) ∧ Lk S L rg k.toNat j (linksP sp L rg g i k).toNat
  | 0, i, k, hk, h => by simp [linksP] at h
  | g + 1, i, k, hk, h => by
    unfold linksP at h ⊢
    by_cases c1 : i < 0 ∨ (L.length : Int) ≤ i ∨ (nd L i.toNat).kind ≠ 9 ∨ (nd L i.toNat).a ≠ i - 1
    · rw [if_pos c1] at h; omega
    rw [if_neg c1] at h ⊢
    by_cases c2 : ndEq (nd L i.toNat) (named (nd L i.toNat)) = false
    · rw [if_pos c2] at h; omega
    rw [if_neg c2] at h ⊢
    simp only [] at h ⊢
    by_cases c3 : sp (nd L i.toNat).a rg < 0
    · rw [if_pos c3] at h; omega
    rw [if_neg c3] at h ⊢
    obtain ⟨j, rfl⟩ : ∃ j : Nat, i = j := ⟨i.toNat, by omega⟩
    rw [show ((j : Int)).toNat = j from by omega] at c1 c2 c3 h ⊢
    have hn : nd L j = nArg (nd L j).a (nd L j).b := named_arg (by omega) (by simpa [ndEq_iff] using c2)
    have hja : (nd L j).a = (j : Int) - 1 := by omega
    obtain ⟨j', ej, hS⟩ := hs _ _ (Int.not_lt.1 c3)
    generalize hlo : sp (nd L j).a rg = lo at *
    have hjj : j = j' + 1 := by omega
    refine ⟨j, rfl, ?_⟩
    by_cases ck : k = 1
    · rw [if_pos ck] at h ⊢
      by_cases cb : (nd L j).b ≠ -1
      · rw [if_pos cb] at h; omega
      rw [if_neg cb] at h ⊢
      rw [show k.toNat = 0 + 1 from by omega]
      refine ⟨by omega, by omega, lo.toNat, by rw [show j - 1 = j' from by omega]; exact hS, .inl ⟨rfl, ?_, rfl⟩⟩
      rw [hn, hja, show (nd L j).b = -1 from by omega]
    · rw [if_neg ck] at h ⊢
      by_cases cb : (nd L j).b ≠ lo - 1
      · rw [if_pos cb] at h; omega
      rw [if_neg cb] at h ⊢
      obtain ⟨q, eq, hq⟩ := lk_of_links hs g (nd L j).b (k - 1) (by omega) h
      rw [show k.toNat = (k - 1).toNat + 1 from by omega]
      refine ⟨by omega, by omega, lo.toNat, by rw [show j - 1 = j' from by omega]; exact hS, .inr ⟨by omega, by omega, ?_, by rw [show lo.toNat - 1 = q from by omega]; exact hq⟩⟩
      rw [hn, hja, show (nd L j).b = lo.toNat - 1 from by omega]
theorem nd_mem {L : List Nd} {i : Nat} (h : i < L.length) : nd L i ∈ L := by
  unfold nd; rw [List.getElem?_eq_getElem h]; exact List.getElem_mem h
theorem sp_of_span {L : List Nd} (hR : refsOK L) : ∀ (g : Nat) (i : Int) (arg : Bool), 0 ≤ spanP L g i arg → ∃ j : Nat, i = j ∧ Sp L g j (spanP L g i arg).toNat arg
  | 0, i, arg, h => by simp [spanP] at h
  | g + 1, i, arg, h => by
    unfold spanP at h ⊢
    by_cases c1 : i < 0 ∨ (L.length : Int) ≤ i
    · rw [if_pos c1] at h; omega
    rw [if_neg c1] at h ⊢
    simp only [] at h ⊢
    by_cases c2 : ndEq (nd L i.toNat) (named (nd L i.toNat)) = false
    · rw [if_pos c2] at h; omega
    rw [if_neg c2] at h ⊢
    obtain ⟨j, rfl⟩ : ∃ j : Nat, i = j := ⟨i.toNat, by omega⟩
    rw [show ((j : Int)).toNat = j from by omega] at c2 h ⊢
    have hn : nd L j = named (nd L j) := by simpa [ndEq_iff] using c2
    have hj : j < L.length := by omega
    have hRj := hR _ (nd_mem hj)
    refine ⟨j, rfl, hj, ?_⟩
    generalize hx : nd L j = x at *
    have hk : x.kind = (named x).kind := by rw [← hn]
    by_cases k1 : x.kind = 1
    · rw [if_pos k1] at h ⊢
      by_cases c : x.n < 0 ∨ 999999999 < x.n
      · rw [if_pos c] at h; omega
      rw [if_neg c]
      refine .inl ⟨by omega, .inl ⟨x.n, ?_, by omega, by omega⟩⟩
      rw [hn]; unfold named; simp [k1, nNum]
    rw [if_neg k1] at h ⊢
    by_cases k2 : x.kind = 2
    · rw [if_pos k2] at h ⊢
      by_cases c : x.n < 0 ∨ 1 < x.n
      · rw [if_pos c] at h; omega
      rw [if_neg c]
      have hxx : x = nBool x.n := by conv => lhs; rw [hn]; unfold named
                                     simp [k2, nBool]
      refine .inl ⟨by omega, ?_⟩
      rcases (by omega : x.n = 0 ∨ x.n = 1) with e | e
      · exact .inr (.inl (by rw [hxx, e]))
      · exact .inr (.inr (.inl (by rw [hxx, e])))
    rw [if_neg k2] at h ⊢
    by_cases k3 : x.kind = 3 ∨ x.kind = 5
    · rw [if_pos k3] at h ⊢
      refine .inl ⟨by omega, ?_⟩
      rcases k3 with k3 | k5
      · refine .inr (.inr (.inr (.inl ⟨x.r1, ?_, hRj.1⟩)))
        conv => lhs; rw [hn]; unfold named
        simp [k3, nRef]
      · refine .inr (.inr (.inr (.inr (.inl ?_))))
        rw [hn]; unfold named; simp [k5, nBad]
    rw [if_neg k3] at h ⊢
    by_cases k4 : x.kind = 4
    · rw [if_pos k4] at h ⊢
      by_cases ha : arg = true
      · rw [if_pos ha]
        refine .inl ⟨by omega, .inr (.inr (.inr (.inr (.inr ⟨ha, x.r1, x.r2, ?_, hRj.1, hRj.2⟩))))⟩
        conv => lhs; rw [hn]; unfold named
        simp [k4, nRange]
      · rw [if_neg ha] at h; omega
    rw [if_neg k4] at h ⊢
    by_cases k6 : x.kind = 6
    · rw [if_pos k6] at h ⊢
      by_cases c : x.a ≠ (j : Int) - 1
      · rw [if_pos c] at h; omega
      rw [if_neg c] at h ⊢
      obtain ⟨q, eq, hq⟩ := sp_of_span hR g _ _ h
      refine .inr (.inl ⟨by omega, ?_, by rw [show j - 1 = q from by omega]; exact hq⟩)
      conv => lhs; rw [hn]; unfold named
      simp [k6, nNeg]; omega
    rw [if_neg k6] at h ⊢
    by_cases k7 : x.kind = 7
    · rw [if_pos k7] at h ⊢
      by_cases c : x.op < 1 ∨ 10 < x.op ∨ x.b ≠ (j : Int) - 1
      · rw [if_pos c] at h; omega
      rw [if_neg c] at h ⊢
      by_cases c' : spanP L g x.b false < 0 ∨ x.a ≠ spanP L g x.b false - 1
      · rw [if_pos c'] at h; omega
      rw [if_neg c'] at h ⊢
      obtain ⟨q, eq, hq⟩ := sp_of_span hR g _ _ (show 0 ≤ spanP L g x.b false by omega)
      obtain ⟨p, ep, hp⟩ := sp_of_span hR g _ _ h
      refine .inr (.inr (.inl ⟨x.op, (spanP L g x.b false).toNat, by omega, by omega, by omega, by omega, ?_, by rw [show j - 1 = q from by omega]; exact hq, by rw [show (spanP L g x.b false).toNat - 1 = p from by omega]; exact hp⟩))
      conv => lhs; rw [hn]; unfold named
      simp [k7, nBin]; omega
    rw [if_neg k7] at h ⊢
    by_cases k8 : x.kind = 8
    · rw [if_pos k8] at h ⊢
      by_cases c : arity x.op x.n = false ∨ x.a ≠ (j : Int) - 1
      · rw [if_pos c] at h; omega
      rw [if_neg c] at h ⊢
      have har : arity x.op x.n = true := by
        cases hh : arity x.op x.n
        · exact absurd (.inl hh) c
        · rfl
      have hp := arity_pos har
      obtain ⟨q, eq, hq⟩ := lk_of_links (S := Sp L g) (sp_of_span hR g) g x.a x.n hp h
      refine .inr (.inr (.inr ⟨x.op, x.n, by have := hq.lt; omega, ?_, har, by rw [show j - 1 = q from by omega]; exact hq⟩))
      conv => lhs; rw [hn]; unfold named
      simp [k8, nCall]; omega
    rw [if_neg k8] at h
    omega
/-- What a lawful tree is. -/
theorem TreeOK.sp {t : Tr} (h : TreeOK t) : Sp t.nodes t.nodes.length (t.nodes.length - 1) 0 false := by
  obtain ⟨j, e1, e2⟩ := sp_of_span h.refs _ _ _ (show 0 ≤ spanP t.nodes t.nodes.length t.root false by rw [h.span]; decide)
  rw [h.span] at e2
  have := h.one
  have := h.root
  rw [show t.nodes.length - 1 = j from by omega]
  exact e2
theorem treeOK_of_sp {L : List Nd} {f : Nat} (h1 : 1 ≤ L.length) (h2 : L.length ≤ 24) (hR : refsOK L) (hs : Sp L f (L.length - 1) 0 false) : TreeOK ⟨L, (L.length : Int) - 1, 0, 0⟩ :=
  ⟨rfl, rfl, h1, h2, rfl, hR, by
    have := span_of_sp f _ _ _ hs L.length (by omega)
    rw [show ((L.length - 1 : Nat) : Int) = (L.length : Int) - 1 from by omega] at this
    exact this⟩
end Go.Proofs.Qxb6500326aGreat
