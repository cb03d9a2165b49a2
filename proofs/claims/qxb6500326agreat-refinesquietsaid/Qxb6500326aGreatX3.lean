import Derived.Test.Qxb6500326aGreatX2
namespace Go.Proofs.Qxb6500326aGreat
set_option maxRecDepth 100000
set_option linter.unusedVariables false
set_option linter.unusedSimpArgs false
open Go.RowKit Go.PlainAid
theorem oneBlock (w : World) (b o : Nat) (vs : List Value) : Fr (fun k => k = b) w (sets w b o vs) := sets_fr (S := fun k => k = b) (.inl rfl) _ _ _ (Fr.refl _ _)
theorem FM.putArena {w : World} {B : FB} {F : Fmr} (h : FM w B F) (i : Nat) (x : Nd) : FM (sets w B.a (i * 13) (ndA x).toList) B { F with arena := upd F.arena i x } := by
  have f := oneBlock w B.a (i * 13) (ndA x).toList
  refine ⟨h.ok, f.row h.row h.ok.fa, h.toks.of f h.ok.ta, ?_, f.row h.opnd (fun e => h.ok.av e.symm), h.ops.of f (fun e => h.ok.ao e.symm), h.notes.of f (fun e => h.ok.an e.symm), f.row h.out (fun e => h.ok.au e.symm)⟩
  have := h.arena.put i (by omega) (ndA x).toList rfl (ndC x) (by
    intro k hk
    have : k = 0 ∨ k = 1 ∨ k = 2 ∨ k = 3 ∨ k = 4 ∨ k = 5 ∨ k = 6 ∨ k = 7 ∨ k = 8 ∨ k = 9 ∨ k = 10 ∨ k = 11 ∨ k = 12 := by omega
    rcases this with e | e | e | e | e | e | e | e | e | e | e | e | e <;> subst e <;> rfl)
  refine Row.congr this (fun j _ => ?_)
  simp only [upd]; split <;> rfl
abbrev mkA (m : Mk) : Array Value := #[I m.kind, I m.op, I m.st, I m.n, I m.link]
theorem FM.putOps {w : World} {B : FB} {F : Fmr} (h : FM w B F) (i : Nat) (m : Mk) : FM (sets w B.o (i * 5) (mkA m).toList) B { F with ops := upd F.ops i m } := by
  have f := oneBlock w B.o (i * 5) (mkA m).toList
  refine ⟨h.ok, f.row h.row h.ok.fo, h.toks.of f h.ok.to, h.arena.of f h.ok.ao, f.row h.opnd h.ok.vo, ?_, h.notes.of f (fun e => h.ok.on e.symm), f.row h.out (fun e => h.ok.ou e.symm)⟩
  have := h.ops.put i (by omega) (mkA m).toList rfl (mkC m) (by
    intro k hk
    have : k = 0 ∨ k = 1 ∨ k = 2 ∨ k = 3 ∨ k = 4 := by omega
    rcases this with e | e | e | e | e <;> subst e <;> rfl)
  refine Row.congr this (fun j _ => ?_)
  simp only [upd]; split <;> rfl
theorem FM.putTok {w : World} {B : FB} {F : Fmr} (h : FM w B F) (i : Nat) (t : Tok) : FM (sets w B.t (i * 9) (tkA t).toList) B { F with toks := upd F.toks i t } := by
  have f := oneBlock w B.t (i * 9) (tkA t).toList
  refine ⟨h.ok, f.row h.row h.ok.ft, ?_, h.arena.of f (fun e => h.ok.ta e.symm), f.row h.opnd (fun e => h.ok.tv e.symm), h.ops.of f (fun e => h.ok.to e.symm), h.notes.of f (fun e => h.ok.tn e.symm), f.row h.out (fun e => h.ok.tu e.symm)⟩
  have := h.toks.put i (by omega) (tkA t).toList rfl (tkC t) (by
    intro k hk
    have : k = 0 ∨ k = 1 ∨ k = 2 ∨ k = 3 ∨ k = 4 ∨ k = 5 ∨ k = 6 ∨ k = 7 ∨ k = 8 := by omega
    rcases this with e | e | e | e | e | e | e | e | e <;> subst e <;> rfl)
  refine Row.congr this (fun j _ => ?_)
  simp only [upd]; split <;> rfl
theorem FM.putNote {w : World} {B : FB} {F : Fmr} (h : FM w B F) (i : Nat) (u : Int) (r : Bool) : FM (sets w B.n (i * 2) [I u, .bool r]) B { F with nup := upd F.nup i u, nbrk := upd F.nbrk i r } := by
  have f := oneBlock w B.n (i * 2) [I u, .bool r]
  refine ⟨h.ok, f.row h.row h.ok.fn, h.toks.of f h.ok.tn, h.arena.of f h.ok.an, f.row h.opnd h.ok.vn, h.ops.of f h.ok.on, ?_, f.row h.out (fun e => h.ok.nu e.symm)⟩
  have := h.notes.put i (by omega) [I u, .bool r] rfl (ntC u r) (by
    intro k hk
    have : k = 0 ∨ k = 1 := by omega
    rcases this with e | e <;> subst e <;> rfl)
  refine Row.congr this (fun j _ => ?_)
  simp only [upd]; split <;> rfl
theorem FM.setV {w : World} {B : FB} {F : Fmr} (h : FM w B F) (i : Nat) (x : Int) : FM (w.setCell ⟨B.v, i, none⟩ (I x)) B { F with opnd := upd F.opnd i x } := by
  have f : Fr (fun j => j = B.v) w (w.setCell ⟨B.v, i, none⟩ (I x)) := (Fr.refl (fun j => j = B.v) _).setCell (p := ⟨B.v, i, none⟩) (.inl rfl) _
  refine ⟨h.ok, f.row h.row h.ok.fv, h.toks.of f h.ok.tv, h.arena.of f h.ok.av, (h.opnd.set i (I x)).congr (fun j _ => ?_), h.ops.of f (fun e => h.ok.vo e.symm), h.notes.of f (fun e => h.ok.vn e.symm), f.row h.out (fun e => h.ok.vu e.symm)⟩
  simp only [upd]; split <;> rfl
theorem FM.setOut {w : World} {B : FB} {F : Fmr} (h : FM w B F) (i : Nat) (x : Int) : FM (w.setCell ⟨B.u, i, none⟩ (Y x)) B { F with out := upd F.out i x } := by
  have f : Fr (fun j => j = B.u) w (w.setCell ⟨B.u, i, none⟩ (Y x)) := (Fr.refl (fun j => j = B.u) _).setCell (p := ⟨B.u, i, none⟩) (.inl rfl) _
  refine ⟨h.ok, f.row h.row h.ok.fu, h.toks.of f h.ok.tu, h.arena.of f h.ok.au, f.row h.opnd h.ok.vu, h.ops.of f h.ok.ou, h.notes.of f h.ok.nu, (h.out.set i (Y x)).congr (fun j _ => ?_)⟩
  simp only [upd]; split <;> rfl
theorem Fr.fmA {B : FB} {a w : World} (h : Fr (FmS B) a w) (o : Nat) (vs : List Value) : Fr (FmS B) a (sets w B.a o vs) := sets_fr (.inl (.inr (.inr (.inl rfl)))) _ _ _ h
theorem Fr.fmO {B : FB} {a w : World} (h : Fr (FmS B) a w) (o : Nat) (vs : List Value) : Fr (FmS B) a (sets w B.o o vs) := sets_fr (.inl (.inr (.inr (.inr (.inr (.inl rfl)))))) _ _ _ h
theorem Fr.fmT {B : FB} {a w : World} (h : Fr (FmS B) a w) (o : Nat) (vs : List Value) : Fr (FmS B) a (sets w B.t o vs) := sets_fr (.inl (.inr (.inl rfl))) _ _ _ h
theorem Fr.fmN {B : FB} {a w : World} (h : Fr (FmS B) a w) (o : Nat) (vs : List Value) : Fr (FmS B) a (sets w B.n o vs) := sets_fr (.inl (.inr (.inr (.inr (.inr (.inr (.inl rfl))))))) _ _ _ h
theorem Fr.fmV {B : FB} {a w : World} (h : Fr (FmS B) a w) (o : Nat) (x : Value) : Fr (FmS B) a (w.setCell ⟨B.v, o, none⟩ x) := h.setCell (p := ⟨B.v, o, none⟩) (.inl (.inr (.inr (.inr (.inl rfl))))) x
theorem Fr.fmU {B : FB} {a w : World} (h : Fr (FmS B) a w) (o : Nat) (x : Value) : Fr (FmS B) a (w.setCell ⟨B.u, o, none⟩ x) := h.setCell (p := ⟨B.u, o, none⟩) (.inl (.inr (.inr (.inr (.inr (.inr (.inr rfl))))))) x
end Go.Proofs.Qxb6500326aGreat
