import Derived.Test.Qxb6500326aGreatW1
namespace Go.Proofs.Qxb6500326aGreat
set_option maxRecDepth 100000
set_option linter.unusedVariables false
set_option linter.unusedSimpArgs false
open Go.RowKit
/-- A list of bytes as a string. -/
def bs (L : List Int) : ByteArray := ⟨(L.map (fun c => UInt8.ofNat c.toNat)).toArray⟩
/-- The bytes of a string. -/
def lst (s : ByteArray) : List Int := s.data.toList.map (fun c => (c.toNat : Int))
theorem bs_lst (s : ByteArray) : bs (lst s) = s := by
  cases s with
  | mk d =>
    unfold bs lst
    simp only [List.map_map]
    congr 1
    have : (d.toList.map ((fun c : Int => UInt8.ofNat c.toNat) ∘ fun c : UInt8 => (c.toNat : Int))) = d.toList := by
      conv => rhs; rw [← List.map_id d.toList]
      apply List.map_congr_left
      intro x _
      show UInt8.ofNat ((x.toNat : Int)).toNat = x
      simp
    rw [this]
theorem lst_bs {L : List Int} (h : ∀ c ∈ L, 0 ≤ c ∧ c ≤ 255) : lst (bs L) = L := by
  unfold bs lst
  simp only [List.map_map]
  conv => rhs; rw [← List.map_id L]
  apply List.map_congr_left
  intro c hc
  have := h c hc
  show (((UInt8.ofNat c.toNat).toNat : Nat) : Int) = c
  rw [UInt8.toNat_ofNat']
  omega
set_option maxHeartbeats 400000 in
theorem fn_any (f : Int) (w : World) :
    Calls Tryz.prog 181 #[I f] w fun e w' => e = .returned (.string (bs (fnName f))) ∧ w = w' := by
  by_cases h : f = 1 ∨ f = 2 ∨ f = 3 ∨ f = 4 ∨ f = 5 ∨ f = 6 ∨ f = 7 ∨ f = 8 ∨ f = 9 ∨ f = 10
  · rcases h with h | h | h | h | h | h | h | h | h | h <;> subst h <;> (go_enter Tryz.func181, Tryz.ntmps181; go_wp2; go_ret; exact ⟨rfl, rfl⟩)
  · have g : (f == 1) = false ∧ (f == 2) = false ∧ (f == 3) = false ∧ (f == 4) = false ∧ (f == 5) = false ∧ (f == 6) = false ∧ (f == 7) = false ∧ (f == 8) = false ∧ (f == 9) = false ∧ (f == 10) = false := by simp; omega
    obtain ⟨g1, g2, g3, g4, g5, g6, g7, g8, g9, g10⟩ := g
    have ha : fnName f = [] := by
      unfold fnName; rw [if_neg (by omega), if_neg (by omega), if_neg (by omega), if_neg (by omega), if_neg (by omega), if_neg (by omega), if_neg (by omega), if_neg (by omega), if_neg (by omega), if_neg (by omega)]
    rw [ha]
    clear h ha
    go_enter Tryz.func181, Tryz.ntmps181
    go_wp2
    go_ret
    exact ⟨rfl, rfl⟩
set_option maxHeartbeats 400000 in
theorem opText_any (op : Int) (h1 : 1 ≤ op) (h2 : op ≤ 10) (w : World) :
    Calls Tryz.prog 179 #[I op] w fun e w' => e = .returned (.string (bs (opTxt op))) ∧ w = w' := by
  have h : op = 1 ∨ op = 2 ∨ op = 3 ∨ op = 4 ∨ op = 5 ∨ op = 6 ∨ op = 7 ∨ op = 8 ∨ op = 9 ∨ op = 10 := by omega
  rcases h with h | h | h | h | h | h | h | h | h | h <;> subst h <;> (go_enter Tryz.func179, Tryz.ntmps179; go_wp2; go_ret; exact ⟨rfl, rfl⟩)
end Go.Proofs.Qxb6500326aGreat
