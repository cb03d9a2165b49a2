import Derived.Test.Qxb6500329aV2
import Derived.Test.Qxb6500329aX8
import Derived.Test.Qxb6500329aU8
namespace Go.Proofs.Qxb6500329a
set_option linter.unusedVariables false
set_option linter.unusedSimpArgs false
open Go.RowKit Go.PlainAid
/-! ### The law's desk -/
def stN (s : Int) : Nd := ⟨s, 0, 0, 0, 0, rz, rz⟩
def kvV : Option (Nat × Nat) → Value
  | none => .slice none 0 0
  | some p => sl p.1 p.2 p.2
/-- The ring of stamped lists: they lie in blocks of Z and in no block of P. -/
structure RG (w : World) (K S : Nat) (P : Nat → Prop) (Z : Nat → Prop) (kv : Nat → Option (Nat × Nat)) (sv : Nat → Int) : Prop where
  kr : Row w K 8 (fun j => kvV (kv j))
  sr : Row w S 8 (fun j => I (sv j))
  kp : ∀ j g n, j < 8 → kv j = some (g, n) → n ≤ 100 ∧ Grid w g n 13 (fun _ => ndC (stN (sv j))) ∧ ¬ P g ∧ Z g
def dkC (s : ByteArray) (v : Value) (t : Tr) (K S : Nat) (ct : Nat) : Nat → Value
  | 0 => .string s
  | 1 => v
  | 2 => I t.root
  | 3 => I t.err
  | 4 => I t.pos
  | 5 => sl K 8 8
  | 6 => sl S 8 8
  | _ => I ct
/-- Blocks that the two formers and the desk hold. -/
abbrev Used (B : FB) (fb d K S : Nat) : Nat → Prop := fun k => FmS B k ∨ k = fb ∨ k = d ∨ k = K ∨ k = S
structure Ids (B : FB) (fb d K S : Nat) : Prop where
  dB : ¬ FmS B d
  KB : ¬ FmS B K
  SB : ¬ FmS B S
  fB : ¬ FmS B fb
  fd : fb ≠ d
  fK : fb ≠ K
  fS : fb ≠ S
  dK : d ≠ K
  dS : d ≠ S
  KS : K ≠ S
structure DS (w : World) (B : FB) (fb d K S : Nat) (Z : Nat → Prop) (s : ByteArray) (v : Value) (t : Tr) (ct : Nat) : Prop where
  ids : Ids B fb d K S
  row : Row w d 8 (dkC s v t K S ct)
  reg : NL w v t.nodes
  own : ∀ k, v.ownBlock = some k → ¬ Used B fb d K S k ∧ Z k
  ring : ∃ kv sv, RG w K S (fun k => Used B fb d K S k ∨ v.ownBlock = some k) Z kv sv
  num : NumOK t.nodes
section
variable {w w' : World} {B : FB} {fb d K S : Nat} {Z : Nat → Prop} {s : ByteArray} {v : Value} {t : Tr} {ct : Nat}
theorem RG.fr {P : Nat → Prop} {kv : Nat → Option (Nat × Nat)} {sv : Nat → Int} (h : RG w K S P Z kv sv) {T : Nat → Prop} (f : Fr T w w') (hK : ¬ T K) (hS : ¬ T S) (hP : ∀ k, T k → P k ∨ ¬ Z k) : RG w' K S P Z kv sv :=
  ⟨f.row h.kr hK, f.row h.sr hS, fun j g n hj e => by
    obtain ⟨h1, h2, h3, h4⟩ := h.kp j g n hj e
    exact ⟨h1, h2.of f (fun c => (hP g c).elim h3 (fun c => c h4)), h3, h4⟩⟩
/-- What touches only the formers, or what is new, keeps the desk. -/
theorem DS.fr (h : DS w B fb d K S Z s v t ct) {T : Nat → Prop} (f : Fr T w w') (hT : ∀ k, T k → FmS B k ∨ k = fb ∨ (¬ Z k ∧ k ≠ d ∧ k ≠ K ∧ k ≠ S)) : DS w' B fb d K S Z s v t ct := by
  have hd : ¬ T d := fun c => by
    rcases hT _ c with e | e | e
    · exact h.ids.dB e
    · exact h.ids.fd e.symm
    · exact e.2.1 rfl
  have hK : ¬ T K := fun c => by
    rcases hT _ c with e | e | e
    · exact h.ids.KB e
    · exact h.ids.fK e.symm
    · exact e.2.2.1 rfl
  have hS : ¬ T S := fun c => by
    rcases hT _ c with e | e | e
    · exact h.ids.SB e
    · exact h.ids.fS e.symm
    · exact e.2.2.2 rfl
  obtain ⟨kv, sv, hr⟩ := h.ring
  refine ⟨h.ids, f.row h.row hd, h.reg.fr f (fun k hk c => ?_), h.own, ⟨kv, sv, hr.fr f hK hS (fun k c => ?_)⟩, h.num⟩
  · obtain ⟨h1, h2⟩ := h.own k hk
    rcases hT _ c with e | e | e
    · exact h1 (.inl e)
    · exact h1 (.inr (.inl e))
    · exact e.1 h2
  · rcases hT _ c with e | e | e
    · exact .inl (.inl (.inl e))
    · exact .inl (.inl (.inr (.inl e)))
    · exact .inr e.1
theorem DS.fr0 (h : DS w B fb d K S Z s v t ct) (f : Fr S0 w w') : DS w' B fb d K S Z s v t ct := h.fr f (fun k c => c.elim)
theorem DS.mono (h : DS w B fb d K S Z s v t ct) {Z' : Nat → Prop} (hH : ∀ k, Z k → Z' k) : DS w B fb d K S Z' s v t ct := by
  obtain ⟨kv, sv, hr⟩ := h.ring
  exact ⟨h.ids, h.row, h.reg, fun k hk => ⟨(h.own k hk).1, hH k (h.own k hk).2⟩, ⟨kv, sv, hr.kr, hr.sr, fun j g n hj e => by
    obtain ⟨h1, h2, h3, h4⟩ := hr.kp j g n hj e; exact ⟨h1, h2, h3, hH g h4⟩⟩, h.num⟩
end
end Go.Proofs.Qxb6500329a
