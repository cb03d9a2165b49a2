import Derived.Test.Qxb6500326aGreatW18
import Derived.BigRegion
import Derived.Deep.RegionHeld3
import Derived.Handy
namespace Go.Proofs.Qxb6500326aGreat
set_option maxRecDepth 100000
set_option linter.unusedVariables false
set_option linter.unusedSimpArgs false
open Go.RowKit Go.PlainAid
/-! ### Several cells in a row -/
def sets (w : World) (b : Nat) : Nat → List Value → World
  | _, [] => w
  | o, v :: vs => sets (w.setCell ⟨b, o, none⟩ v) b (o + 1) vs
theorem sets_fr {S : Nat → Prop} {a : World} {b : Nat} (hS : S b ∨ a.heap.size ≤ b) : ∀ (vs : List Value) (w : World) (o : Nat), Fr S a w → Fr S a (sets w b o vs)
  | [], w, o, h => h
  | v :: vs, w, o, h => sets_fr hS vs _ _ (h.setCell (p := ⟨b, o, none⟩) hS v)
theorem sets_row {b N : Nat} : ∀ (vs : List Value) (w : World) (o : Nat) (f : Nat → Value), Row w b N f → Row (sets w b o vs) b N (fun j => if o ≤ j ∧ j < o + vs.length then (vs[j - o]?).getD undef else f j)
  | [], w, o, f, h => h.congr (fun i _ => by rw [if_neg (by simp)])
  | v :: vs, w, o, f, h => (sets_row vs _ _ _ (h.set o v)).congr (fun j _ => by
      by_cases e : j = o
      · subst e
        rw [if_neg (by omega), if_pos (by simp)]; simp [upd]
      · by_cases e2 : o ≤ j ∧ j < o + (v :: vs).length
        · have e3 : o + 1 ≤ j ∧ j < o + 1 + vs.length := by simp at e2; omega
          rw [if_pos e2, if_pos e3, show j - o = (j - (o + 1)) + 1 from by omega]; simp
        · have e3 : ¬ (o + 1 ≤ j ∧ j < o + 1 + vs.length) := by simp at e2; omega
          rw [if_neg e2, if_neg e3, upd_other _ _ e])
/-- n things of m cells each. -/
def Grid (w : World) (b n m : Nat) (c : Nat → Nat → Value) : Prop := Row w b (n * m) (fun j => c (j / m) (j % m))
theorem Grid.row {w : World} {b n m : Nat} {c : Nat → Nat → Value} (h : Grid w b n m c) : Row w b (n * m) (fun j => c (j / m) (j % m)) := h
theorem grid_ix {i k m : Nat} (hk : k < m) : (i * m + k) / m = i ∧ (i * m + k) % m = k := by
  constructor
  · rw [Nat.mul_comm, Nat.mul_add_div (by omega), Nat.div_eq_of_lt hk, Nat.add_zero]
  · rw [Nat.mul_comm, Nat.mul_add_mod, Nat.mod_eq_of_lt hk]
theorem grid_lt {i k n m : Nat} (hi : i < n) (hk : k < m) : i * m + k < n * m := by
  have : (i + 1) * m ≤ n * m := Nat.mul_le_mul_right _ hi
  rw [Nat.add_mul] at this; omega
theorem Grid.cell {w : World} {b n m : Nat} {c : Nat → Nat → Value} (h : Grid w b n m c) (i k : Nat) (hi : i < n) (hk : k < m) : w.cell? ⟨b, i * m + k, none⟩ = some (c i k) := by
  have := Row.cell h (i * m + k) (grid_lt hi hk)
  rw [(grid_ix hk).1, (grid_ix hk).2] at this
  exact this
theorem Grid.cell0 {w : World} {b n m : Nat} {c : Nat → Nat → Value} (h : Grid w b n m c) (i : Nat) (hi : i < n) (hm : 0 < m) : w.cell? ⟨b, i * m, none⟩ = some (c i 0) := h.cell i 0 hi hm
theorem Grid.frozen {w : World} {b n m : Nat} {c : Nat → Nat → Value} (h : Grid w b n m c) (i : Nat) : w.frozen? ⟨b, i, none⟩ = false := Row.frozen h i
theorem Grid.put {w : World} {b n m : Nat} {c : Nat → Nat → Value} (h : Grid w b n m c) (i : Nat) (hm : 0 < m) (vs : List Value) (hv : vs.length = m) (d : Nat → Value) (hd : ∀ k, k < m → vs[k]? = some (d k)) :
    Grid (sets w b (i * m) vs) b n m (upd c i d) := by
  refine (sets_row vs w (i * m) _ h.row).congr ?_
  intro j _
  have hj := Nat.div_add_mod j m
  have hlt := Nat.mod_lt j hm
  by_cases e : j / m = i
  · rw [if_pos (by rw [hv, ← e, Nat.mul_comm]; omega), e, upd_same, show j - i * m = j % m from by rw [← e, Nat.mul_comm]; omega, hd _ hlt]; rfl
  · rw [if_neg ?_, upd_other _ _ e]
    rw [hv]
    rintro ⟨h1, h2⟩
    apply e
    exact Nat.div_eq_of_lt_le h1 (by rw [Nat.add_mul]; omega)
theorem Grid.of {w w' : World} {b n m : Nat} {c : Nat → Nat → Value} (h : Grid w b n m c) {S : Nat → Prop} (f : Fr S w w') (hb : ¬ S b) : Grid w' b n m c := Fr.row f h hb

/-! ### The former -/
structure FB where
  f : Nat
  t : Nat
  a : Nat
  v : Nat
  o : Nat
  n : Nat
  u : Nat
structure FB.OK (B : FB) : Prop where
  ft : B.f ≠ B.t
  fa : B.f ≠ B.a
  fv : B.f ≠ B.v
  fo : B.f ≠ B.o
  fn : B.f ≠ B.n
  fu : B.f ≠ B.u
  ta : B.t ≠ B.a
  tv : B.t ≠ B.v
  to : B.t ≠ B.o
  tn : B.t ≠ B.n
  tu : B.t ≠ B.u
  av : B.a ≠ B.v
  ao : B.a ≠ B.o
  an : B.a ≠ B.n
  au : B.a ≠ B.u
  vo : B.v ≠ B.o
  vn : B.v ≠ B.n
  vu : B.v ≠ B.u
  on : B.o ≠ B.n
  ou : B.o ≠ B.u
  nu : B.n ≠ B.u
/-- A former's numbers and buffers. -/
structure Fmr where
  nt : Nat
  k : Nat
  pos : Nat
  nn : Nat
  nv : Nat
  no : Nat
  hav : Bool
  done : Bool
  err : Int
  bad : Int
  wp : Nat
  toks : Nat → Tok
  arena : Nat → Nd
  opnd : Nat → Int
  ops : Nat → Mk
  nup : Nat → Int
  nbrk : Nat → Bool
  out : Nat → Int
def fmC (B : FB) (F : Fmr) : Nat → Value
  | 0 => sl B.t 41 41
  | 1 => I F.nt
  | 2 => I F.k
  | 3 => I F.pos
  | 4 => sl B.a 24 24
  | 5 => I F.nn
  | 6 => sl B.v 41 41
  | 7 => I F.nv
  | 8 => sl B.o 41 41
  | 9 => I F.no
  | 10 => .bool F.hav
  | 11 => .bool F.done
  | 12 => I F.err
  | 13 => I F.bad
  | 14 => sl B.n 24 24
  | 15 => sl B.u 288 288
  | _ => I F.wp
def tkC (t : Tok) : Nat → Value
  | 0 => I t.kind
  | 1 => I t.st
  | 2 => I t.fin
  | 3 => I t.op
  | 4 => I t.n
  | 5 => I t.r.col
  | 6 => I t.r.row
  | 7 => .bool t.r.absC
  | _ => .bool t.r.absR
def mkC (m : Mk) : Nat → Value
  | 0 => I m.kind
  | 1 => I m.op
  | 2 => I m.st
  | 3 => I m.n
  | _ => I m.link
def ntC (up : Int) (brk : Bool) : Nat → Value
  | 0 => I up
  | _ => .bool brk
structure FM (w : World) (B : FB) (F : Fmr) : Prop where
  ok : B.OK
  row : Row w B.f 17 (fmC B F)
  toks : Grid w B.t 41 9 (fun i => tkC (F.toks i))
  arena : Grid w B.a 24 13 (fun i => ndC (F.arena i))
  opnd : Row w B.v 41 (fun i => I (F.opnd i))
  ops : Grid w B.o 41 5 (fun i => mkC (F.ops i))
  notes : Grid w B.n 24 2 (fun i => ntC (F.nup i) (F.nbrk i))
  out : Row w B.u 288 (fun i => Y (F.out i))
/-- The former's blocks. -/
abbrev FmS (B : FB) : Nat → Prop := fun k => k = B.f ∨ k = B.t ∨ k = B.a ∨ k = B.v ∨ k = B.o ∨ k = B.n ∨ k = B.u
theorem FM.fr {w w' : World} {B : FB} {F : Fmr} (h : FM w B F) {S : Nat → Prop} (f : Fr S w w') (hS : ∀ k, FmS B k → ¬ S k) : FM w' B F :=
  ⟨h.ok, f.row h.row (hS _ (.inl rfl)), h.toks.of f (hS _ (.inr (.inl rfl))), h.arena.of f (hS _ (.inr (.inr (.inl rfl)))), f.row h.opnd (hS _ (.inr (.inr (.inr (.inl rfl))))), h.ops.of f (hS _ (.inr (.inr (.inr (.inr (.inl rfl)))))),
    h.notes.of f (hS _ (.inr (.inr (.inr (.inr (.inr (.inl rfl))))))), f.row h.out (hS _ (.inr (.inr (.inr (.inr (.inr (.inr rfl))))))) ⟩
theorem FM.fr0 {w w' : World} {B : FB} {F : Fmr} (h : FM w B F) (f : Fr S0 w w') : FM w' B F := h.fr f (fun _ _ => id)
theorem FM.drew {w : World} {B : FB} {F : Fmr} (h : FM w B F) : FM w.drew B F := h.fr0 (Fr.refl _ _).drew
theorem FM.drewN {w : World} {B : FB} {F : Fmr} (h : FM w B F) (n : Nat) : FM (w.drewN n) B F := h.fr0 ((Fr.refl _ _).drewN n)
theorem FM.alloc {w : World} {B : FB} {F : Fmr} (h : FM w B F) (o : Obj) : FM (w.alloc o) B F := h.fr0 ((Fr.refl _ _).alloc o)
/-- A number or a flag of the former is set. -/
theorem FM.set {w : World} {B : FB} {F F' : Fmr} (h : FM w B F) (k : Nat) (x : Value) (hx : ∀ i, i < 17 → upd (fmC B F) k x i = fmC B F' i)
    (e1 : F'.toks = F.toks) (e2 : F'.arena = F.arena) (e3 : F'.opnd = F.opnd) (e4 : F'.ops = F.ops) (e5 : F'.nup = F.nup) (e6 : F'.nbrk = F.nbrk) (e7 : F'.out = F.out) : FM (w.setCell ⟨B.f, k, none⟩ x) B F' := by
  have f : Fr (fun j => j = B.f) w (w.setCell ⟨B.f, k, none⟩ x) := (Fr.refl (fun j => j = B.f) _).setCell (p := ⟨B.f, k, none⟩) (.inl rfl) x
  refine ⟨h.ok, (h.row.set k x).congr hx, ?_, ?_, ?_, ?_, ?_, ?_⟩
  · rw [e1]; exact h.toks.of f (fun e => h.ok.ft e.symm)
  · rw [e2]; exact h.arena.of f (fun e => h.ok.fa e.symm)
  · rw [e3]; exact f.row h.opnd (fun e => h.ok.fv e.symm)
  · rw [e4]; exact h.ops.of f (fun e => h.ok.fo e.symm)
  · rw [e5, e6]; exact h.notes.of f (fun e => h.ok.fn e.symm)
  · rw [e7]; exact f.row h.out (fun e => h.ok.fu e.symm)
theorem Fr.fm {B : FB} {a w : World} (h : Fr (FmS B) a w) (k : Nat) (x : Value) : Fr (FmS B) a (w.setCell ⟨B.f, k, none⟩ x) := h.setCell (p := ⟨B.f, k, none⟩) (.inl (.inl rfl)) x
end Go.Proofs.Qxb6500326aGreat
