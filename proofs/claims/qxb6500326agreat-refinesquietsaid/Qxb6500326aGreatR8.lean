import Derived.Test.Qxb6500326aGreatR6
import Derived.Test.Qxb6500326aGreatR7
namespace Go.Proofs.Qxb6500326aGreat
set_option maxRecDepth 100000
set_option linter.unusedVariables false
set_option linter.unusedSimpArgs false
open Go.RowKit Go.PlainAid

def Sk {α : Type} (f : Nat → α) : List α → Prop
  | [] => True
  | x :: S => f S.length = x ∧ Sk f S
theorem Sk.upd {α : Type} {f : Nat → α} {n : Nat} {v : α} : ∀ {S : List α}, Sk f S → S.length ≤ n → Sk (upd f n v) S
  | [], _, _ => trivial
  | x :: S, h, hn => ⟨by have : S.length < n := hn; rw [upd_other _ _ (by omega)]; exact h.1, Sk.upd h.2 (by have : S.length < n := hn; omega)⟩
theorem Sk.push {α : Type} {f : Nat → α} {S : List α} (h : Sk f S) (v : α) : Sk (Qxb6500326aGreat.upd f S.length v) (v :: S) := ⟨upd_same _ _ _, h.upd (Nat.le_refl _)⟩
theorem Sk.put {α : Type} {f : Nat → α} {S : List α} {x : α} (h : Sk f (x :: S)) (v : α) : Sk (Qxb6500326aGreat.upd f S.length v) (v :: S) := Sk.push h.2 v
/-- The machine: its stacks are m's; all else is E0's. -/
structure MW (w : World) (V : VB) (fb : Nat) (E0 : Evr) (m : Mc) : Prop where
  ex : ∃ E, EM w V fb E ∧ E.top = m.st.length ∧ E.deep = m.fo.length ∧ Sk E.stk m.st ∧ Sk E.fol m.fo ∧ E.start = E0.start ∧ E.cells = E0.cells ∧ E.code = E0.code ∧ E.ow = E0.ow
theorem MW.fr {w w' : World} {V : VB} {fb : Nat} {E0 : Evr} {m : Mc} (h : MW w V fb E0 m) {S : Nat → Prop} (f : Fr S w w') (hS : ∀ k, VS V k → ¬ S k) : MW w' V fb E0 m := by
  obtain ⟨E, h1, h2⟩ := h.ex; exact ⟨E, h1.fr f hS, h2⟩
theorem MW.fr0 {w w' : World} {V : VB} {fb : Nat} {E0 : Evr} {m : Mc} (h : MW w V fb E0 m) (f : Fr S0 w w') : MW w' V fb E0 m := h.fr f (fun _ _ => id)
theorem MW.alloc {w : World} {V : VB} {fb : Nat} {E0 : Evr} {m : Mc} (h : MW w V fb E0 m) (o : Obj) : MW (w.alloc o) V fb E0 m := h.fr0 ((Fr.refl _ _).alloc o)
theorem MW.ne {w : World} {V : VB} {fb : Nat} {E0 : Evr} {m : Mc} (h : MW w V fb E0 m) {k : Nat} (hk : w.heap.size ≤ k) : ¬ VS V k := by
  obtain ⟨E, h1, -⟩ := h.ex; exact h1.ne hk
def LA (w : World) (V : VB) (fb : Nat) (E0 : Evr) (v : Value) (m : Mc) : Ending → World → Prop := fun e w' => e = .returned v ∧ MW w' V fb E0 m ∧ Fr (VS V) w w'
theorem pushA (V : VB) (fb : Nat) (E0 : Evr) (S : List Vl) (T : List Tl) (x : Vl) (w : World) (h : MW w V fb E0 ⟨S, T⟩) (hs : S.length < 24) : Calls Tryz.prog 236 #[pt V.e, vV x] w (LA w V fb E0 (.tuple #[]) ⟨x :: S, T⟩) := by
  obtain ⟨E, h1, h2, h3, h4, h5, h6⟩ := h.ex
  have h2 : E.top = S.length := h2
  refine (pushV V fb E x w h1 (by omega)).mono ?_
  rintro e w' ⟨rfl, hE, hf⟩
  exact ⟨rfl, ⟨_, hE, by show E.top + 1 = _; rw [h2]; rfl, h3, by rw [h2]; exact Sk.push h4 x, h5, h6⟩, hf⟩
theorem popA (V : VB) (fb : Nat) (E0 : Evr) (S : List Vl) (T : List Tl) (x : Vl) (w : World) (h : MW w V fb E0 ⟨x :: S, T⟩) (hs : S.length < 24) : Calls Tryz.prog 220 #[pt V.e] w (LA w V fb E0 (vV x) ⟨S, T⟩) := by
  obtain ⟨E, h1, h2, h3, h4, h5, h6⟩ := h.ex
  refine (popV V fb E S.length w h1 h2 hs).mono ?_
  rintro e w' ⟨rfl, hE, hf⟩
  exact ⟨by rw [h4.1], ⟨_, hE, rfl, h3, h4.2, h5, h6⟩, hf⟩
theorem takeA (V : VB) (fb : Nat) (E0 : Evr) (S : List Vl) (t : Tl) (T : List Tl) (f : Int) (v : Vl) (r : Bool) (k : Nat) (w : World) (h : MW w V fb E0 ⟨S, t :: T⟩) (ht : T.length < 24) (hk : k ≤ 700) (htb : TB k t) (lv : Lw v) (hf1 : 1 ≤ f) (hf2 : tallies f = true) :
    Calls Tryz.prog 240 #[pt V.e, I f, vV v, .bool r] w (LA w V fb E0 (.tuple #[]) ⟨S, takeT f t v r :: T⟩) := by
  obtain ⟨E, h1, h2, h3, h4, h5, h6⟩ := h.ex
  refine (takeV V fb E T.length k t f v r w h1 h3 ht h5.1 hk htb lv hf1 hf2).mono ?_
  rintro e w' ⟨rfl, hE, hf⟩
  exact ⟨rfl, ⟨_, hE, h2, h3, h4, Sk.put h5 _, h6⟩, hf⟩
theorem sweepA (V : VB) (fb : Nat) (E0 : Evr) (S : List Vl) (t : Tl) (T : List Tl) (f : Int) (set : BitVec 32) (eb ec : Nat) (env : Nat → Vl) (k : Nat) (w : World) (h : MW w V fb E0 ⟨S, t :: T⟩) (ht : T.length < 24) (hk : k ≤ 600) (htb : TB k t) (he : LwE env) (hG : Grid w eb 24 3 (fun c => vC (env c))) (heb : ¬ VS V eb) (hf1 : 1 ≤ f) (hf2 : tallies f = true) :
    Calls Tryz.prog 241 #[pt V.e, I f, U set, sl eb 24 ec] w (LA w V fb E0 (.tuple #[]) ⟨S, sweepT f set env 0 24 t :: T⟩) := by
  obtain ⟨E, h1, h2, h3, h4, h5, h6⟩ := h.ex
  refine (sweepV V fb E T.length k t f set eb ec env w h1 h3 ht h5.1 hk htb he hG heb hf1 hf2).mono ?_
  rintro e w' ⟨rfl, hE, hf⟩
  exact ⟨rfl, ⟨_, hE, h2, h3, h4, Sk.put h5 _, h6⟩, hf⟩
theorem shutA (V : VB) (fb : Nat) (E0 : Evr) (S : List Vl) (t : Tl) (T : List Tl) (f : Int) (w : World) (h : MW w V fb E0 ⟨S, t :: T⟩) (ht : T.length < 24) :
    Calls Tryz.prog 242 #[pt V.e, I f] w (LA w V fb E0 (vV (shutT f t)) ⟨S, T⟩) := by
  obtain ⟨E, h1, h2, h3, h4, h5, h6⟩ := h.ex
  refine (shutV V fb E T.length t f w h1 h3 ht h5.1).mono ?_
  rintro e w' ⟨rfl, hE, hf⟩
  exact ⟨rfl, ⟨_, hE, h2, rfl, h4, h5.2, h6⟩, hf⟩
theorem in_new (w : World) (x : Ins) (T : TypeId) {H : Nat} (e : w.heap.size = H) : Row (w.alloc (.cells (inA x) T)) H 6 (inC x) := by
  subst e
  exact Row.new _ _ _ _ _ rfl (by
    intro i hi
    have : i = 0 ∨ i = 1 ∨ i = 2 ∨ i = 3 ∨ i = 4 ∨ i = 5 := by omega
    rcases this with e | e | e | e | e | e <;> subst e <;> rfl)
theorem Row.in6 {w : World} {B : Nat} {x : Ins} (h : Row w B 6 (inC x)) :
    w.cell? ⟨B, 0, none⟩ = some (I x.op) ∧ w.cell? ⟨B, 1, none⟩ = some (I x.a) ∧ w.cell? ⟨B, 2, none⟩ = some (I x.v.kind) ∧ w.cell? ⟨B, 3, none⟩ = some (I x.v.n) ∧ w.cell? ⟨B, 4, none⟩ = some (.string x.v.s) ∧ w.cell? ⟨B, 5, none⟩ = some (U x.set) :=
  ⟨h.cell 0 (by omega), h.cell 1 (by omega), h.cell 2 (by omega), h.cell 3 (by omega), h.cell 4 (by omega), h.cell 5 (by omega)⟩
end Go.Proofs.Qxb6500326aGreat
