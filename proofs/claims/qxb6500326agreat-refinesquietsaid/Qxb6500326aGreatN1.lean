import Derived.Test.Qxb6500326aGreatX22
import Derived.Test.Qxb6500326aGreatU2
namespace Go.Proofs.Qxb6500326aGreat
set_option maxRecDepth 100000
set_option linter.unusedVariables false
set_option linter.unusedSimpArgs false
open Go.RowKit Go.PlainAid
theorem wpList_add_bytes {w : World} {ops : Array Oper} {rest : List Oper} {o : Oper} {a : Act} {Q : Exit → Act → World → Prop} (hgd : o.guard = none) (x y : Operand)
    (ho : o.op = .binOp .add 9 x y 9) (A B : ByteArray) (hx : a.eval x = .string A) (hy : a.eval y = .string B) (hl : A.size + B.size ≤ 100000)
    (h : wpList Tryz.prog ops Q rest (a.put o.dst (.string (A ++ B))) w) : wpList Tryz.prog ops Q (o :: rest) a w := by
  refine wpList_plain hgd fun K hK => ?_
  have hrun := run_string_add_sum (P := Tryz.prog) (w := w) A B (by omega)
  unfold Oper.wp
  simp [execOp, ho, hx, hy, binOp_string_add, hrun, Result.andThen, eqGuard]
  exact hK _ _ h
def lenQ (s p : ByteArray) : ByteArray := if s.size = 41 then s else if 41 - s.size < p.size then s ++ p.extract 0 (41 - s.size) else s ++ p
def wholeQ (s p : ByteArray) : ByteArray := if (s.toList == []) = true then p else lenQ s p
theorem lenQ_size {s p : ByteArray} (h : s.size ≤ 41) : (lenQ s p).size ≤ 41 := by
  unfold lenQ
  split
  · exact h
  · split
    · rw [ByteArray.size_append, ByteArray.size_extract]; omega
    · rw [ByteArray.size_append]; omega
set_option maxRecDepth 100000 in
set_option maxHeartbeats 2000000 in
theorem lengthen_any (s p : ByteArray) (w : World) (hs : s.size ≤ 41) : Calls Tryz.prog 11 #[.string s, .string p, I 40] w fun e w' => e = .returned (.string (lenQ s p)) ∧ w = w' := by
  unfold lenQ
  by_cases h0 : s.size = 41
  · rw [if_pos h0]
    have hd : decide ((41 : Int) - (s.size : Int) ≤ 0) = true := decide_eq_true (by omega)
    clear h0
    go_enter Tryz.func11, Tryz.ntmps11
    go_wp2
    go_ret
    exact ⟨rfl, rfl⟩
  · rw [if_neg h0]
    have hd : decide ((41 : Int) - (s.size : Int) ≤ 0) = false := decide_eq_false (by omega)
    obtain ⟨r, hr⟩ : ∃ r : Nat, r + s.size = 41 := ⟨41 - s.size, by omega⟩
    have hrI : (41 : Int) - (s.size : Int) = (r : Int) := by omega
    have hrN : 41 - s.size = r := by omega
    rw [hrN]
    clear hrN
    have hr1 : (r : Int) ≤ 41 := by omega
    have hr0 : decide ((r : Int) ≤ 0) = false := decide_eq_false (by omega)
    have hrt : ((r : Int)).toNat = r := by simp
    by_cases hp : r < p.size
    · rw [if_pos hp]
      have hd2 : decide ((r : Int) < (p.size : Int)) = true := decide_eq_true (by omega)
      have hd3 : (r : Int) ≤ (p.size : Int) := by omega
      have hsz : Bx (s.size + (p.extract 0 r).size ≤ 100000) := Bx.mk (by rw [ByteArray.size_extract]; omega)
      go_enter Tryz.func11, Tryz.ntmps11
      go_wp2_with (first | (refine wpList_add_bytes rfl (.tmp 23) (.tmp 24) (by rfl) s (p.extract 0 r) (by rfl) (by rfl) hsz.out ?_))
      go_ret
      exact ⟨rfl, rfl⟩
    · rw [if_neg hp]
      have hd2 : decide ((r : Int) < (p.size : Int)) = false := decide_eq_false (by omega)
      have hsz : Bx (s.size + p.size ≤ 100000) := Bx.mk (by omega)
      go_enter Tryz.func11, Tryz.ntmps11
      go_wp2_with (first | (refine wpList_add_bytes rfl (.tmp 23) (.tmp 24) (by rfl) s p (by rfl) (by rfl) hsz.out ?_))
      go_ret
      exact ⟨rfl, rfl⟩
set_option maxRecDepth 100000 in
set_option maxHeartbeats 2000000 in
theorem whole_str (s p : ByteArray) (w : World) (hs : s.size ≤ 41) : Calls Tryz.prog 12 #[.string s, .string p, I 40] w fun e w' => e = .returned (.string (wholeQ s p)) ∧ w = w' := by
  have hl := Bx.mk (lengthen_any s p w hs)
  have hw : Bx (wholeQ s p = if (s.toList == []) = true then p else lenQ s p) := Bx.mk rfl
  generalize lenQ s p = q at *
  cases hb : (s.toList == [])
  · have hr : Bx (wholeQ s p = q) := Bx.mk (by rw [hw.out, hb]; rfl)
    generalize wholeQ s p = q2 at *
    go_enter Tryz.func12, Tryz.ntmps12
    go_wp2_with (first | (go_at_call 11; refine hl.out.mono ?_; clear hl; rintro e w' ⟨rfl, rfl⟩))
    go_ret
    rw [hr.out]
    exact ⟨rfl, rfl⟩
  · have hr : Bx (wholeQ s p = p) := Bx.mk (by rw [hw.out, hb]; rfl)
    generalize wholeQ s p = q2 at *
    go_enter Tryz.func12, Tryz.ntmps12
    go_wp2_with (first | (go_at_call 11; refine hl.out.mono ?_; clear hl; rintro e w' ⟨rfl, rfl⟩))
    go_ret
    rw [hr.out]
    exact ⟨rfl, rfl⟩
end Go.Proofs.Qxb6500326aGreat
