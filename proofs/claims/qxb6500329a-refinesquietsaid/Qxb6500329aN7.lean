import Derived.Test.Qxb6500329aN4
import Derived.Test.Qxb6500329aN6
namespace Go.Proofs.Qxb6500329a
set_option linter.unusedVariables false
set_option linter.unusedSimpArgs false
open Go.RowKit Go.PlainAid
/-- One op of the script. -/
structure OpAt (w : World) (b o : Nat) (kd A Bv C : Int) (S T : ByteArray) : Prop where
  c0 : w.cell? ⟨b, o, none⟩ = some (.int .i64 kd)
  c1 : w.cell? ⟨b, o + 1, none⟩ = some (.int .i64 A)
  c2 : w.cell? ⟨b, o + 2, none⟩ = some (.int .i64 Bv)
  c3 : w.cell? ⟨b, o + 3, none⟩ = some (.int .i64 C)
  c4 : w.cell? ⟨b, o + 4, none⟩ = some (.string S)
  c5 : w.cell? ⟨b, o + 5, none⟩ = some (.string T)
  bd : -9223372036854775808 ≤ C ∧ C ≤ 9223372036854775807
theorem OpAt.fr {Q : Nat → Prop} {w w' : World} {b o : Nat} {kd A Bv C : Int} {S T : ByteArray} (h : OpAt w b o kd A Bv C S T) (f : Fr Q w w') (hb : b < w.heap.size) (hq : ¬ Q b) : OpAt w' b o kd A Bv C S T :=
  ⟨(f.cell (a := ⟨b, o, none⟩) hb hq).trans h.c0, (f.cell (a := ⟨b, o + 1, none⟩) hb hq).trans h.c1, (f.cell (a := ⟨b, o + 2, none⟩) hb hq).trans h.c2, (f.cell (a := ⟨b, o + 3, none⟩) hb hq).trans h.c3, (f.cell (a := ⟨b, o + 4, none⟩) hb hq).trans h.c4, (f.cell (a := ⟨b, o + 5, none⟩) hb hq).trans h.c5, h.bd⟩
def Script (w : World) (ad : Option Addr) (len : Nat) : Prop := ∀ i, i < len → ∃ b off kd A Bv C S T, ad = some ⟨b, off, none⟩ ∧ b < w.heap.size ∧ OpAt w b (off + i * 6) kd A Bv C S T
theorem mnew_any (w : World) : Calls Try.prog 9 #[] w fun e w' => e = .returned (pt w.heap.size) ∧ MF w' w.heap.size ∧ Fr S0 w w' ∧ w'.heap.size = w.heap.size + 1 := by
  go_enter Try.func9, Try.ntmps9
  go_wp2
  go_ret
  refine ⟨rfl, ⟨0, 0, ⟨#[]⟩, ?_⟩, (Fr.refl _ _).alloc _, by simp⟩
  exact Row.new _ _ _ _ _ rfl (by intro i hi; rcases i with _ | _ | _ | i <;> first | rfl | omega)
theorem ground_any (w : World) : Calls Try.prog 24 #[] w fun e w' => e = .returned (.agg #[]) ∧ Fr S0 w w' := by
  go_enter Try.func24, Try.ntmps24
  go_wp2
  go_returns
  exact ⟨rfl, (Fr.refl _ _).alloc _⟩
theorem mark_any (w : World) : Calls Try.prog 27 #[.agg #[]] w fun e w' => e = .returned (.tuple #[]) ∧ Fr S0 w w' := by
  go_enter Try.func27, Try.ntmps27
  go_wp2
  go_end0
  exact ⟨rfl, (Fr.refl _ _).alloc _⟩
theorem Try.info31 : (Try.prog.info? 31).map (fun i => (i.zero, i.size, i.bytes)) = some (some (.slice none 0 0), 1, 24) := by kernel_rfl
abbrev K8 : Array Value := #[.slice none 0 0, .slice none 0 0, .slice none 0 0, .slice none 0 0, .slice none 0 0, .slice none 0 0, .slice none 0 0, .slice none 0 0]
abbrev S8 : Array Value := #[I 0, I 0, I 0, I 0, I 0, I 0, I 0, I 0]
theorem mk64 (u : World) : (Instr.makeSlice 64 (.int .i64 8) (.int .i64 8)).run Try.prog u = .ok (sl u.heap.size 8 8) (u.alloc (.cells K8 31)) := by kernel_rfl
theorem mk65 (u : World) : (Instr.makeSlice 65 (.int .i64 8) (.int .i64 8)).run Try.prog u = .ok (sl u.heap.size 8 8) (u.alloc (.cells S8 3)) := by kernel_rfl
/-- The desk at the start. -/
theorem ds_start {w : World} {B : FB} {fb d K S : Nat} (hids : Ids B fb d K S) (hd : Row w d 8 (dkC ⟨#[]⟩ (.slice none 0 0) ⟨[], -1, 0, 0⟩ K S 0)) (hK : Row w K 8 (fun _ => .slice none 0 0)) (hS : Row w S 8 (fun _ => I 0)) (Z : Nat → Prop) :
    DS w B fb d K S Z ⟨#[]⟩ (.slice none 0 0) ⟨[], -1, 0, 0⟩ 0 :=
  ⟨hids, hd, World.ownsRow_nil _ 0 44 13, fun k hk => (by cases hk), ⟨fun _ => none, fun _ => 0, hK, hS, fun j g n hj e => (by cases e)⟩, fun x hx => (by cases hx)⟩
/-- What the walk keeps. -/
structure WI (w0 w : World) (B : FB) (fb d K S : Nat) (k : Nat) : Prop where
  st : ∃ s v t ct, StepS w B fb d K S s v t ct ∧ ct ≤ 3 * k ∧ (∀ x, v.ownBlock = some x → w0.heap.size ≤ x)
  us : ∀ x, Used B fb d K S x → w0.heap.size ≤ x
  fr : Fr S0 w0 w
theorem WI.step {w0 w w' : World} {B : FB} {fb d K S k : Nat} {s : ByteArray} {v : Value} {t : Tr} {ct : Nat} (hk : 3 * k + 3 < 2 ^ 58) (h : StepS w B fb d K S s v t ct) (hc : ct ≤ 3 * k) (hv : ∀ x, v.ownBlock = some x → w0.heap.size ≤ x) (hu : ∀ x, Used B fb d K S x → w0.heap.size ≤ x) (f : Fr S0 w0 w) (hp : StepP w B fb d K S v ct (.returned (.bool true)) w') : WI w0 w' B fb d K S (k + 1) := by
  obtain ⟨-, ⟨s', v', t', c', hD, hl, hs, hc', ho⟩, hz, hm, hf⟩ := hp
  have hsz := f.size
  refine ⟨⟨s', v', t', c', ⟨hD, hz, hm, h.low.mono hf.size, by omega, hl, hs⟩, by omega, fun x hx => ?_⟩, hu, f.step hf (fun x hx => .inr ?_)⟩
  · rcases ho x hx with e | e
    · exact hv x e
    · omega
  · rcases hx with e | e
    · exact hu x e
    · exact hv x e
theorem WI.fr0 {w0 w w' : World} {B : FB} {fb d K S k : Nat} (h : WI w0 w B fb d K S k) (f : Fr S0 w w') : WI w0 w' B fb d K S k := by
  obtain ⟨s, v, t, ct, h1, h2, h3⟩ := h.st
  exact ⟨⟨s, v, t, ct, ⟨(h1.ds.fr0 f).mono (fun k hk => Nat.lt_of_lt_of_le hk f.size), h1.fz.fr0 f, h1.mf.fr f (fun c => c), h1.low.mono f.size, h1.ct, h1.len, h1.txt⟩, h2, h3⟩, h.us, h.fr.trans f⟩
end Go.Proofs.Qxb6500329a
