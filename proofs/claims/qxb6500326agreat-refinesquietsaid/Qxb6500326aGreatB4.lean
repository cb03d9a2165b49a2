import Derived.Test.Qxb6500326aGreatB2
namespace Go.Proofs.Qxb6500326aGreat
set_option maxRecDepth 100000
set_option linter.unusedVariables false
set_option linter.unusedSimpArgs false
open Go.RowKit Go.PlainAid

abbrev fdV (x : Fd) : Value := .agg #[I x.bad.kind, I x.bad.n, .string x.bad.s, I x.sum, I x.mn, I x.mx, I x.cnt, .bool x.all, .bool x.some]
abbrev fdA (x : Fd) : Array Value := #[I x.bad.kind, I x.bad.n, .string x.bad.s, I x.sum, I x.mn, I x.mx, I x.cnt, .bool x.all, .bool x.some]
def fdC (x : Fd) : Nat → Value
  | 0 => I x.bad.kind
  | 1 => I x.bad.n
  | 2 => .string x.bad.s
  | 3 => I x.sum
  | 4 => I x.mn
  | 5 => I x.mx
  | 6 => I x.cnt
  | 7 => .bool x.all
  | _ => .bool x.some
def fz : Fd := ⟨v0, 0, 0, 0, 0, false, false⟩
theorem Tryz.size244 : (Tryz.prog.info? 244).map (·.size) = some 9 := by kernel_rfl
theorem f_new (w : World) (x : Fd) (T : TypeId) {H : Nat} (e : w.heap.size = H) : Row (w.alloc (.cells (fdA x) T)) H 9 (fdC x) := by
  subst e
  exact Row.new _ _ _ _ _ rfl (by
    intro i hi
    have : i = 0 ∨ i = 1 ∨ i = 2 ∨ i = 3 ∨ i = 4 ∨ i = 5 ∨ i = 6 ∨ i = 7 ∨ i = 8 := by omega
    rcases this with e | e | e | e | e | e | e | e | e <;> subst e <;> rfl)
theorem f_heap {w : World} {b : Nat} {x : Fd} (h : Row w b 9 (fdC x)) : ∃ T, w.heap[b]? = some (.cells (fdA x) T (0, 0)) := by
  obtain ⟨arr, T, h1, h2, h3⟩ := h
  refine ⟨T, ?_⟩
  rw [h1]
  have : arr = fdA x := by
    apply Array.ext_getElem?
    intro i
    rcases Nat.lt_or_ge i 9 with hi | hi
    · rw [h3 i hi]
      have : i = 0 ∨ i = 1 ∨ i = 2 ∨ i = 3 ∨ i = 4 ∨ i = 5 ∨ i = 6 ∨ i = 7 ∨ i = 8 := by omega
      rcases this with e | e | e | e | e | e | e | e | e <;> subst e <;> rfl
    · rw [Array.getElem?_eq_none (by omega), Array.getElem?_eq_none (by simpa using hi)]
  rw [this]
theorem ret_f {fn : Func} {R : Ending → World → Prop} {a : Act} {w : World} {p : Tmp} {g : Nat} {x : Fd} (hr : fn.results = #[.cell p 244]) (hp : a.tmps.getD p undef = pt g) (hrow : Row w g 9 (fdC x)) (hd : a.defers = [])
    (hR : R (.returned (fdV x)) w) : bodyPost Tryz.prog fn R .ret a w := by
  obtain ⟨T, hh⟩ := f_heap hrow
  exact bodyPost_ret (results_cell_row hr a.tmps w g T _ (0, 0) _ hp hh Tryz.underlying244 rfl (by rw [Tryz.size244]; rfl)) hd hR
theorem f_sets {w : World} {b : Nat} {f : Nat → Value} (h : Row w b 9 f) (x : Fd) : Row (sets w b 0 (fdA x).toList) b 9 (fdC x) :=
  (sets_row (fdA x).toList w 0 f h).congr (by
    intro i hi
    have : i = 0 ∨ i = 1 ∨ i = 2 ∨ i = 3 ∨ i = 4 ∨ i = 5 ∨ i = 6 ∨ i = 7 ∨ i = 8 := by omega
    rcases this with e | e | e | e | e | e | e | e | e <;> subst e <;> rfl)
theorem Row.f9 {w : World} {B : Nat} {x : Fd} (h : Row w B 9 (fdC x)) :
    w.cell? ⟨B, 0, none⟩ = some (I x.bad.kind) ∧ w.cell? ⟨B, 1, none⟩ = some (I x.bad.n) ∧ w.cell? ⟨B, 2, none⟩ = some (.string x.bad.s) ∧ w.cell? ⟨B, 3, none⟩ = some (I x.sum) ∧ w.cell? ⟨B, 4, none⟩ = some (I x.mn) ∧ w.cell? ⟨B, 5, none⟩ = some (I x.mx) ∧ w.cell? ⟨B, 6, none⟩ = some (I x.cnt) ∧ w.cell? ⟨B, 7, none⟩ = some (.bool x.all) ∧ w.cell? ⟨B, 8, none⟩ = some (.bool x.some) :=
  ⟨h.cell 0 (by omega), h.cell 1 (by omega), h.cell 2 (by omega), h.cell 3 (by omega), h.cell 4 (by omega), h.cell 5 (by omega), h.cell 6 (by omega), h.cell 7 (by omega), h.cell 8 (by omega)⟩
theorem Row.z9 {w : World} {B : Nat} {f : Nat → Value} (h : Row w B 9 f) :
    w.frozen? ⟨B, 0, none⟩ = false ∧ w.frozen? ⟨B, 1, none⟩ = false ∧ w.frozen? ⟨B, 2, none⟩ = false ∧ w.frozen? ⟨B, 3, none⟩ = false ∧ w.frozen? ⟨B, 4, none⟩ = false ∧ w.frozen? ⟨B, 5, none⟩ = false ∧ w.frozen? ⟨B, 6, none⟩ = false ∧ w.frozen? ⟨B, 7, none⟩ = false ∧ w.frozen? ⟨B, 8, none⟩ = false :=
  ⟨h.frozen 0, h.frozen 1, h.frozen 2, h.frozen 3, h.frozen 4, h.frozen 5, h.frozen 6, h.frozen 7, h.frozen 8⟩
def FV (w : World) (x : Fd) : Ending → World → Prop := fun e w' => e = .returned (fdV x) ∧ Fr S0 w w'
theorem FV.letter {w : World} {x : Fd} {Q : Ending → World → Prop} (h : ∀ y, Bx (x = y) → ∀ e w', FV w y e w' → Q e w') : ∀ e w', FV w x e w' → Q e w' := h x ⟨rfl⟩
theorem ret_fs {fn : Func} {a : Act} {w w1 : World} {p : Tmp} {g : Nat} {f : Nat → Value} {x y : Fd} (hr : fn.results = #[.cell p 244]) (hp : a.tmps.getD p undef = pt g) (hd : a.defers = [])
    (hrow : Row w1 g 9 f) (hf : Fr S0 w w1) (hg : w.heap.size ≤ g) (hx : x = y) : bodyPost Tryz.prog fn (FV w y) .ret a (sets w1 g 0 (fdA x).toList) :=
  hx ▸ ret_f hr hp (f_sets hrow x) hd ⟨rfl, sets_fr (S := S0) (a := w) (b := g) (.inr hg) (fdA x).toList w1 0 hf⟩
set_option maxHeartbeats 4000000 in
theorem folded_any (s : Fd) (f : Int) (w : World) : Calls Tryz.prog 233 #[fdV s, I f] w (VR w (foldedM s f)) := by
  have hz := Bx.mk (v_zero (w.alloc (.cells (fdA s) 244)) 92 (H := w.heap.size + 1) (by simp))
  have hfr := Bx.mk (((Fr.refl S0 w).alloc (.cells (fdA s) 244)).alloc (.cells #[I 0, I 0, .string es] 92))
  cases h4 : (s.bad.kind == 4)
  · go_enter Tryz.func233, Tryz.ntmps233
    go_wp2_with (first
            | (go_at_call 245; refine (num_any _ _).mono (VR.letter ?_); rintro r hx e w1 ⟨rfl, hf⟩; have hz1 := Bx.mk (hf.row0 hz.out); obtain ⟨c0, c1, c2, y0, y1, y2⟩ := hz1.out.v3)
            | (go_at_call 208; refine (int_any _ _).mono (VR.letter ?_); rintro r hx e w1 ⟨rfl, hf⟩; have hz1 := Bx.mk (hf.row0 hz.out); obtain ⟨c0, c1, c2, y0, y1, y2⟩ := hz1.out.v3)
            | (go_at_call 244; refine (bool_any _ _).mono (VR.letter ?_); rintro r hx e w1 ⟨rfl, hf⟩; have hz1 := Bx.mk (hf.row0 hz.out); obtain ⟨c0, c1, c2, y0, y1, y2⟩ := hz1.out.v3))
    all_goals (refine ret_vs (x := r) (p := 4) rfl rfl rfl hz1.out (hfr.out.trans hf) (by omega) ?_; rw [← hx.out]; simp [foldedM, *])
  · go_enter Tryz.func233, Tryz.ntmps233
    go_wp2
    go_returns
    exact ⟨by simp [foldedM, h4], ((Fr.refl S0 w).alloc _).alloc _⟩
end Go.Proofs.Qxb6500326aGreat
