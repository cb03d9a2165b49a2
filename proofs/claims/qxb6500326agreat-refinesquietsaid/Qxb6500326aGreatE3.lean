import Derived.Test.Qxb6500326aGreatE1
namespace Go.Proofs.Qxb6500326aGreat
set_option maxRecDepth 100000
set_option linter.unusedVariables false
set_option linter.unusedSimpArgs false
open Go.RowKit Go.PlainAid
def readsP (s : ByteArray) : BitVec 32 × Int := if 40 < s.size then (0#32, 1) else if isForm s = true then (rdS (tlT s).nodes 0 (tlT s).nodes.length, 0) else (0#32, 0)
theorem readsV_any (V : VB) (B : FB) (s : ByteArray) (w : World) (h : EZ w V B) : Calls Tryz.prog 122 #[pt V.e, .string s] w fun e w' => e = .returned (.tuple #[U (readsP s).1, I (readsP s).2]) ∧ EZ w' V B ∧ Fr (VF V B) w w' := by
  unfold readsP
  by_cases h1 : 40 < s.size
  · rw [if_pos h1]; exact readsV_long V B s w h h1
  · rw [if_neg h1]
    cases hp : isForm s
    · exact readsV_plain V B s w h (by omega) hp
    · exact readsV_form V B s w h (by omega) hp
theorem readsM_any (mb fb : Nat) (s : ByteArray) (w : World) (h : MEv w mb fb) : Calls Tryz.prog 165 #[pt mb, .string s] w fun e w' => e = .returned (.tuple #[U (readsP s).1, I (readsP s).2]) ∧ MEv w' mb fb ∧ Fr (MeS mb fb) w w' := by
  unfold readsP
  by_cases h1 : 40 < s.size
  · rw [if_pos h1]; exact readsM_long mb fb s w h h1
  · rw [if_neg h1]
    cases hp : isForm s
    · exact readsM_plain mb fb s w h (by omega) hp
    · exact readsM_form mb fb s w h (by omega) hp
end Go.Proofs.Qxb6500326aGreat
