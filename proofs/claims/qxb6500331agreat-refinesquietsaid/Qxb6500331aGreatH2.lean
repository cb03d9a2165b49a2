import Derived.Test.Qxb6500331aGreatH1
namespace Go.Proofs.Qxb6500331aGreat
set_option maxRecDepth 100000
set_option linter.unusedVariables false
set_option linter.unusedSimpArgs false
open Go.RowKit Go.PlainAid

abbrev dk9 : Array Value := #[.slice none 0 0, .slice none 0 0, .slice none 0 0, .slice none 0 0, .slice none 0 0, .slice none 0 0, .slice none 0 0, .slice none 0 0, I 0]
theorem dk9_row (w : World) {H : Nat} (e : w.heap.size = H) : Row (w.alloc (.cells dk9 39)) H 9 (dkC (fun _ => none) 0) := by
  subst e; exact Row.new _ _ _ _ _ rfl (by intro i hi; rcases i with _ | _ | _ | _ | _ | _ | _ | _ | _ | i <;> first | rfl | omega)
theorem wl_start {w0 w1 w2 w3 : World} {B : FB} {V : VB} {mb fb : Nat} (hz1 : FZ w1 B) (hf1 : Fr S0 w0 w1) (hB : ∀ k, FmS B k → w0.heap.size ≤ k ∧ k < w1.heap.size)
    (hz2 : EZ w2 V B) (hf2 : Fr S0 (w1.alloc (.cells #[pt B.f] 29)) w2) (hV : ∀ k, VS V k → (w1.alloc (.cells #[pt B.f] 29)).heap.size ≤ k ∧ k < w2.heap.size)
    (hm3 : MEv w3 mb fb) (hf3 : Fr S0 w2 w3) (hM : ∀ k, MeS mb fb k → w2.heap.size ≤ k ∧ k < w3.heap.size) :
    WL w0 ((w3.alloc (.cells (M47 24) 47)).alloc (.cells dk9 39)) V B mb fb (w3.heap.size + 1) w1.heap.size w3.heap.size 24 es := by
  have s1 := hf1.size
  have s2 : w1.heap.size + 1 ≤ w2.heap.size := by have := hf2.size; simpa using this
  have s3 := hf3.size
  have hV' : ∀ k, VS V k → w1.heap.size + 1 ≤ k ∧ k < w2.heap.size := fun k hk => by have := hV k hk; simpa using this
  have hfw : Fr S0 w3 ((w3.alloc (.cells (M47 24) 47)).alloc (.cells dk9 39)) := ((Fr.refl _ _).alloc _).alloc _
  have hu : ∀ k, UD V B mb fb (w3.heap.size + 1) k → w0.heap.size ≤ k ∧ (k < w3.heap.size ∨ k = w3.heap.size + 1) ∧ k ≠ w1.heap.size := by
    rintro k ((e | e) | e | e)
    · have := hV' k e; omega
    · have := hB k e; omega
    · have := hM k e; omega
    · omega
  refine ⟨⟨fun _ => False, fun _ => v0, ⟨(hz2.fr0 hf3).fr0 hfw, hm3.fr hfw (by simp) (by simp), ⟨fun _ => none, 0, dk9_row _ (by simp), by decide, fun i hi g n e => by cases e⟩, ?_, ?_, fun k hk => hk.elim, fun k hk => hk.elim⟩, ((M47_made 24).grid w3 47).alloc _, fun e => e⟩, fun e => by have := hu _ e; omega, by omega, by decide, by decide, (hfw.row0 (hf3.row0 (hf2.row0 (bl_new w1 B.f)))), fun e => (hu _ e).2.2 rfl, fun k hk => (hu k hk).1, by omega, ((hf1.alloc _).trans hf2).trans hf3 |>.trans hfw⟩
  · rintro k (e | e)
    · have := hV' k e
      exact ⟨fun q => by have := hM k q; omega, by omega⟩
    · have := hB k e
      exact ⟨fun q => by have := hM k q; omega, by omega⟩
  · intro k hk
    have := hM k hk
    omega
end Go.Proofs.Qxb6500331aGreat
