import Derived.Test.Qxb6500326aGreatW8a
import Derived.Test.Qxb6500326aGreatW8b
namespace Go.Proofs.Qxb6500326aGreat
set_option maxRecDepth 100000
set_option linter.unusedVariables false
set_option linter.unusedSimpArgs false
open Go.RowKit Go.PlainAid
theorem refOf_any (s : ByteArray) (w : World) (hs : s.size ≤ 40) :
    Calls Tryz.prog 254 #[.string s] w fun e w' => e = .returned (.tuple #[refV ((refOf (lst s)).getD rz), .bool (refOf (lst s)).isSome]) ∧ Fr S0 w w' := by
  rw [refOf_bt]
  by_cases h : 0 < s.size ∧ bt s 0 = 36
  · rw [if_pos h]; exact refOf_t s w hs h
  · rw [if_neg h]
    by_cases h0 : 0 < s.size
    · exact refOf_f1 s w hs h0 (by simpa using fun e => h ⟨h0, e⟩)
    · have he : s = ByteArray.empty := ByteArray.size_eq_zero_iff.1 (by omega)
      subst he
      exact refOf_f0 w
theorem bs_size (L : List Int) : (bs L).size = L.length := by
  show (L.map _).toArray.size = _
  simp
theorem refOf_list (L : List Int) (w : World) (hL : ∀ c ∈ L, 0 ≤ c ∧ c ≤ 255) (hs : L.length ≤ 40) :
    Calls Tryz.prog 254 #[.string (bs L)] w fun e w' => e = .returned (.tuple #[refV ((refOf L).getD rz), .bool (refOf L).isSome]) ∧ Fr S0 w w' := by
  have := refOf_any (bs L) w (by rw [bs_size]; exact hs)
  rw [lst_bs hL] at this
  exact this
end Go.Proofs.Qxb6500326aGreat
