import Derived.Test.Qxb6500331aGreatF4
namespace Go.Proofs.Qxb6500331aGreat
set_option maxRecDepth 100000
set_option linter.unusedVariables false
set_option linter.unusedSimpArgs false
open Go.RowKit Go.PlainAid

structure WL (w0 w : World) (V : VB) (B : FB) (mb fb d bb rb n : Nat) (reg : ByteArray) : Prop where
  ex : ∃ (Z : Nat → Prop) (env : Nat → Vl), WS w V B mb fb d Z ∧ EL w rb n env ∧ ¬ Z rb
  rbu : ¬ UD V B mb fb d rb
  rbb : rb ≠ bb
  n25 : n ≤ 25
  rg : reg.size ≤ 41
  bx : Row w bb 1 (fun _ => pt B.f)
  bbu : ¬ UD V B mb fb d bb
  ud0 : ∀ k, UD V B mb fb d k → w0.heap.size ≤ k
  rb0 : w0.heap.size ≤ rb
  fr : Fr S0 w0 w
theorem WL.fr0 {w0 w w' : World} {V : VB} {B : FB} {mb fb d bb rb n : Nat} {reg : ByteArray} (h : WL w0 w V B mb fb d bb rb n reg) (f : Fr S0 w w') : WL w0 w' V B mb fb d bb rb n reg := by
  obtain ⟨Z, env, h1, h2, h3⟩ := h.ex
  exact { h with ex := ⟨Z, env, h1.fr0 f, h2.of f (by simp), h3⟩, bx := f.row0 h.bx, fr := h.fr.trans f }
theorem WL.reg {w0 w : World} {V : VB} {B : FB} {mb fb d bb rb n : Nat} {reg : ByteArray} (h : WL w0 w V B mb fb d bb rb n reg) (r : ByteArray) (hr : r.size ≤ 41) : WL w0 w V B mb fb d bb rb n r := { h with rg := hr }
/-- A step on both sides. -/
theorem WL.step {w0 w w' : World} {V : VB} {B : FB} {mb fb d bb rb n : Nat} {reg : ByteArray} (h : WL w0 w V B mb fb d bb rb n reg) {Z : Nat → Prop} {env : Nat → Vl} (hE : EL w rb n env) (hZ : ¬ Z rb) {Z' : Nat → Prop} (hW : WS w' V B mb fb d Z') (hZ' : ∀ k, Z' k → Z k ∨ w.heap.size ≤ k) (f : Fr (UD V B mb fb d) w w') : WL w0 w' V B mb fb d bb rb n reg :=
  { h with
    ex := ⟨Z', env, hW, hE.of f h.rbu, fun e => (hZ' rb e).elim hZ (fun q => by have := Row.lt hE; omega)⟩
    bx := f.row h.bx h.bbu
    fr := h.fr.step f (fun x hx => .inr (h.ud0 x hx)) }
/-- A place of the register is set. -/
theorem WL.set {w0 w : World} {V : VB} {B : FB} {mb fb d bb rb n : Nat} {reg : ByteArray} (h : WL w0 w V B mb fb d bb rb n reg) (i : Nat) (hi : i < n) (x : Vl) : WL w0 (sets w rb (i * 3) (vA x).toList) V B mb fb d bb rb n reg := by
  obtain ⟨Z, env, h1, h2, h3⟩ := h.ex
  have f : Fr (fun k => k = rb) w (sets w rb (i * 3) (vA x).toList) := sets_fr (S := fun k => k = rb) (.inl rfl) _ _ _ (Fr.refl _ _)
  refine { h with ex := ⟨Z, upd env i x, h1.fr f (fun k hk e => h.rbu (by have e : k = rb := e; rw [← e]; exact hk)) (fun k hk e => h3 (by have e : k = rb := e; rw [← e]; exact hk)), ?_, h3⟩, bx := f.row h.bx (fun e => h.rbb e.symm), fr := sets_fr (S := S0) (a := w0) (b := rb) (.inr h.rb0) (vA x).toList w (i * 3) h.fr }
  refine Row.congr (h2.put i (by omega) (vA x).toList rfl (vC x) (by intro k hk; rcases k with _ | _ | _ | k <;> first | rfl | omega)) ?_
  intro j hj
  simp only [upd]
  split <;> rfl
/-- The register is made anew. -/
theorem WL.resize {w0 w w' : World} {V : VB} {B : FB} {mb fb d bb rb n : Nat} {reg : ByteArray} (h : WL w0 w V B mb fb d bb rb n reg) {g m : Nat} {env : Nat → Vl} (hg : w.heap.size ≤ g) (hm : m ≤ 25) (hE : EL w' g m env) (f : Fr S0 w w') : WL w0 w' V B mb fb d bb g m reg := by
  obtain ⟨Z, e0, h1, h2, h3⟩ := h.ex
  have hl := h.bx.lt
  exact { h with ex := ⟨Z, env, h1.fr0 f, hE, fun e => by have := h1.zl g e; omega⟩, rbu := h1.ne hg, rbb := (by omega), n25 := hm, bx := f.row0 h.bx, rb0 := Nat.le_trans h.fr.size hg, fr := h.fr.trans f }
theorem rsz_le (a : Int) : rsz a ≤ 25 := by unfold rsz; split; omega; split <;> omega
end Go.Proofs.Qxb6500331aGreat
