import Derived.Test.Qxb6500326aGreatD2
import Derived.Test.Qxb6500326aGreatC3
namespace Go.Proofs.Qxb6500326aGreat
set_option maxRecDepth 100000
set_option linter.unusedVariables false
set_option linter.unusedSimpArgs false
open Go.RowKit Go.PlainAid

structure VB where
  e : Nat
  c : Nat
  o : Nat
  s : Nat
  t : Nat
structure VB.OK (V : VB) : Prop where
  ec : V.e ≠ V.c
  eo : V.e ≠ V.o
  es : V.e ≠ V.s
  et : V.e ≠ V.t
  co : V.c ≠ V.o
  cs : V.c ≠ V.s
  ct : V.c ≠ V.t
  os : V.o ≠ V.s
  ot : V.o ≠ V.t
  st : V.s ≠ V.t
def VS (V : VB) : Nat → Prop := fun k => k = V.e ∨ k = V.c ∨ k = V.o ∨ k = V.s ∨ k = V.t
/-- The evaluator's numbers and buffers. -/
structure Evr where
  start : Nat
  cells : BitVec 32
  top : Nat
  deep : Nat
  code : Nat → Ins
  ow : Nat → Int
  stk : Nat → Vl
  fol : Nat → Tl
def evC (V : VB) (fb : Nat) (E : Evr) : Nat → Value
  | 0 => pt fb
  | 1 => sl V.c 48 48
  | 2 => I E.start
  | 3 => U E.cells
  | 4 => sl V.o 24 24
  | 5 => sl V.s 24 24
  | 6 => I E.top
  | 7 => sl V.t 24 24
  | _ => I E.deep
abbrev inA (x : Ins) : Array Value := #[I x.op, I x.a, I x.v.kind, I x.v.n, .string x.v.s, U x.set]
def inC (x : Ins) : Nat → Value
  | 0 => I x.op
  | 1 => I x.a
  | 2 => I x.v.kind
  | 3 => I x.v.n
  | 4 => .string x.v.s
  | _ => U x.set
abbrev inV (x : Ins) : Value := .agg #[I x.op, I x.a, I x.v.kind, I x.v.n, .string x.v.s, U x.set]
abbrev tlA (x : Tl) : Array Value := #[I x.bad.kind, I x.bad.n, .string x.bad.s, I x.acc, I x.cnt]
def tlC (x : Tl) : Nat → Value
  | 0 => I x.bad.kind
  | 1 => I x.bad.n
  | 2 => .string x.bad.s
  | 3 => I x.acc
  | _ => I x.cnt
structure EM (w : World) (V : VB) (fb : Nat) (E : Evr) : Prop where
  row : Row w V.e 9 (evC V fb E)
  code : Grid w V.c 48 6 (fun i => inC (E.code i))
  ow : Row w V.o 24 (fun i => I (E.ow i))
  stk : Grid w V.s 24 3 (fun i => vC (E.stk i))
  fol : Grid w V.t 24 5 (fun i => tlC (E.fol i))
  ok : V.OK
theorem EM.lts {w : World} {V : VB} {fb : Nat} {E : Evr} (h : EM w V fb E) : V.e < w.heap.size ∧ V.c < w.heap.size ∧ V.o < w.heap.size ∧ V.s < w.heap.size ∧ V.t < w.heap.size :=
  ⟨h.row.lt, Row.lt h.code, h.ow.lt, Row.lt h.stk, Row.lt h.fol⟩
theorem EM.fr {w w' : World} {V : VB} {fb : Nat} {E : Evr} (h : EM w V fb E) {S : Nat → Prop} (f : Fr S w w') (hS : ∀ k, VS V k → ¬ S k) : EM w' V fb E :=
  ⟨f.row h.row (hS _ (.inl rfl)), h.code.of f (hS _ (.inr (.inl rfl))), f.row h.ow (hS _ (.inr (.inr (.inl rfl)))), h.stk.of f (hS _ (.inr (.inr (.inr (.inl rfl))))), h.fol.of f (hS _ (.inr (.inr (.inr (.inr rfl))))), h.ok⟩
theorem EM.fr0 {w w' : World} {V : VB} {fb : Nat} {E : Evr} (h : EM w V fb E) (f : Fr S0 w w') : EM w' V fb E := h.fr f (fun _ _ => id)
theorem EM.alloc {w : World} {V : VB} {fb : Nat} {E : Evr} (h : EM w V fb E) (o : Obj) : EM (w.alloc o) V fb E := h.fr0 ((Fr.refl _ _).alloc o)
theorem EM.drew {w : World} {V : VB} {fb : Nat} {E : Evr} (h : EM w V fb E) : EM w.drew V fb E := h.fr0 ((Fr.refl _ _).drew)
theorem EM.drewN {w : World} {V : VB} {fb : Nat} {E : Evr} (h : EM w V fb E) (n : Nat) : EM (w.drewN n) V fb E := h.fr0 ((Fr.refl _ _).drewN n)
theorem Fr.one (w : World) (p : Addr) (v : Value) : Fr (fun k => k = p.block) w (w.setCell p v) := (Fr.refl (fun k => k = p.block) w).setCell (p := p) (.inl rfl) v
theorem Fr.vs {w w' : World} {V : VB} {b : Nat} (hb : VS V b) (h : Fr (fun k => k = b) w w') : Fr (VS V) w w' := h.mono (fun k e => e ▸ hb)
/-- A field of the evaluator is set. -/
theorem EM.set {w : World} {V : VB} {fb : Nat} {E E' : Evr} (h : EM w V fb E) (k : Nat) (v : Value) (he : ∀ i, i < 9 → upd (evC V fb E) k v i = evC V fb E' i) (e1 : E'.code = E.code) (e2 : E'.ow = E.ow) (e3 : E'.stk = E.stk) (e4 : E'.fol = E.fol) :
    EM (w.setCell ⟨V.e, k, none⟩ v) V fb E' := by
  have f := Fr.one w ⟨V.e, k, none⟩ v
  refine ⟨(h.row.set k v).congr he, by rw [e1]; exact h.code.of f (fun e => h.ok.ec e.symm), by rw [e2]; exact f.row h.ow (fun e => h.ok.eo e.symm), by rw [e3]; exact h.stk.of f (fun e => h.ok.es e.symm), by rw [e4]; exact h.fol.of f (fun e => h.ok.et e.symm), h.ok⟩
theorem EM.putStk {w : World} {V : VB} {fb : Nat} {E : Evr} (h : EM w V fb E) (i : Nat) (x : Vl) : EM (sets w V.s (i * 3) (vA x).toList) V fb { E with stk := upd E.stk i x } := by
  have f : Fr (fun k => k = V.s) w (sets w V.s (i * 3) (vA x).toList) := sets_fr (S := fun k => k = V.s) (.inl rfl) _ _ _ (Fr.refl _ _)
  refine ⟨f.row h.row h.ok.es, h.code.of f h.ok.cs, f.row h.ow h.ok.os, ?_, h.fol.of f (fun e => h.ok.st e.symm), h.ok⟩
  refine Row.congr (h.stk.put i (by omega) (vA x).toList rfl (vC x) (by intro k hk; rcases k with _ | _ | _ | k <;> first | rfl | omega)) ?_
  intro j hj
  simp only [upd]
  split <;> rfl
theorem EM.putCode {w : World} {V : VB} {fb : Nat} {E : Evr} (h : EM w V fb E) (i : Nat) (x : Ins) : EM (sets w V.c (i * 6) (inA x).toList) V fb { E with code := upd E.code i x } := by
  have f : Fr (fun k => k = V.c) w (sets w V.c (i * 6) (inA x).toList) := sets_fr (S := fun k => k = V.c) (.inl rfl) _ _ _ (Fr.refl _ _)
  refine ⟨f.row h.row h.ok.ec, ?_, f.row h.ow (fun e => h.ok.co e.symm), h.stk.of f (fun e => h.ok.cs e.symm), h.fol.of f (fun e => h.ok.ct e.symm), h.ok⟩
  refine Row.congr (h.code.put i (by omega) (inA x).toList rfl (inC x) (by intro k hk; rcases k with _ | _ | _ | _ | _ | _ | k <;> first | rfl | omega)) ?_
  intro j hj
  simp only [upd]
  split <;> rfl
theorem EM.putFol {w : World} {V : VB} {fb : Nat} {E : Evr} (h : EM w V fb E) (i : Nat) (x : Tl) : EM (sets w V.t (i * 5) (tlA x).toList) V fb { E with fol := upd E.fol i x } := by
  have f : Fr (fun k => k = V.t) w (sets w V.t (i * 5) (tlA x).toList) := sets_fr (S := fun k => k = V.t) (.inl rfl) _ _ _ (Fr.refl _ _)
  refine ⟨f.row h.row h.ok.et, h.code.of f h.ok.ct, f.row h.ow h.ok.ot, h.stk.of f h.ok.st, ?_, h.ok⟩
  refine Row.congr (h.fol.put i (by omega) (tlA x).toList rfl (tlC x) (by intro k hk; rcases k with _ | _ | _ | _ | _ | k <;> first | rfl | omega)) ?_
  intro j hj
  simp only [upd]
  split <;> rfl
theorem EM.putOw {w : World} {V : VB} {fb : Nat} {E : Evr} (h : EM w V fb E) (i : Nat) (v : Int) : EM (w.setCell ⟨V.o, i, none⟩ (I v)) V fb { E with ow := upd E.ow i v } := by
  have f := Fr.one w ⟨V.o, i, none⟩ (I v)
  refine ⟨f.row h.row h.ok.eo, h.code.of f h.ok.co, ?_, h.stk.of f (fun e => h.ok.os e.symm), h.fol.of f (fun e => h.ok.ot e.symm), h.ok⟩
  refine (h.ow.set i (I v)).congr ?_
  intro j hj
  simp only [upd]
  split <;> rfl
/-- One cell of a tally is set. -/
theorem EM.setFol {w : World} {V : VB} {fb : Nat} {E : Evr} (h : EM w V fb E) (i k : Nat) (hk : k < 5) (v : Value) (x : Tl) (hx : ∀ j, j < 5 → upd (tlC (E.fol i)) k v j = tlC x j) : EM (w.setCell ⟨V.t, i * 5 + k, none⟩ v) V fb { E with fol := upd E.fol i x } := by
  have f := Fr.one w ⟨V.t, i * 5 + k, none⟩ v
  refine ⟨f.row h.row h.ok.et, h.code.of f h.ok.ct, f.row h.ow h.ok.ot, h.stk.of f h.ok.st, ?_, h.ok⟩
  refine (h.fol.row.set (i * 5 + k) v).congr ?_
  intro j hj
  have hm := Nat.div_add_mod j 5
  have hl := Nat.mod_lt j (show 0 < 5 by omega)
  by_cases e : j / 5 = i
  · simp only [upd, e, if_true]
    rw [← hx _ hl]
    simp only [upd]
    by_cases e2 : j % 5 = k
    · rw [if_pos e2, if_pos (by omega)]
    · rw [if_neg e2, if_neg (by omega)]
  · simp only [upd, if_neg e]
    rw [if_neg]
    intro e3
    apply e
    rw [e3]; exact (grid_ix hk).1
theorem fr_put (w : World) {V : VB} {b : Nat} (hb : VS V b) (o : Nat) (vs : List Value) : Fr (VS V) w (sets w b o vs) := sets_fr (.inl hb) _ _ _ (Fr.refl _ _)
theorem fr_set (w : World) {V : VB} {b : Nat} (hb : VS V b) (o : Nat) (v : Value) : Fr (VS V) w (w.setCell ⟨b, o, none⟩ v) := (Fr.refl _ _).setCell (p := ⟨b, o, none⟩) (.inl hb) _
theorem VS.e {V : VB} : VS V V.e := .inl rfl
theorem VS.c {V : VB} : VS V V.c := .inr (.inl rfl)
theorem VS.o {V : VB} : VS V V.o := .inr (.inr (.inl rfl))
theorem VS.s {V : VB} : VS V V.s := .inr (.inr (.inr (.inl rfl)))
theorem VS.t {V : VB} : VS V V.t := .inr (.inr (.inr (.inr rfl)))
/-- What a method of the evaluator leaves. -/
def Lv (w : World) (V : VB) (fb : Nat) (v : Value) (E : Evr) : Ending → World → Prop := fun e w' => e = .returned v ∧ EM w' V fb E ∧ Fr (VS V) w w'
end Go.Proofs.Qxb6500326aGreat
