import Derived.WalkKit
namespace Go.Proofs.Qxb6500326aGreat
set_option linter.unusedVariables false
set_option linter.unusedSimpArgs false
open Go.RowKit

/-! ### uint32 as BitVec 32 -/
theorem ofInt_toNat (x : BitVec 32) : BitVec.ofInt 32 (x.toNat : Int) = x := by
  apply BitVec.eq_of_toNat_eq
  simp [BitVec.toNat_ofInt]

theorem u32_back (x : BitVec 32) : IntKind.u32.wrap (x.toNat : Int) = (x.toNat : Int) := by
  have := x.isLt
  simp [IntKind.wrap, IntKind.bits, IntKind.signed]
  omega

/-- A set as the number that Go has for it: the walk does not look behind this name. -/
def uN (x : BitVec 32) : Int := (x.toNat : Int)
theorem uN_eq (x : BitVec 32) : uN x = (x.toNat : Int) := rfl
theorem uN_inj {x y : BitVec 32} (h : uN x = uN y) : x = y := by
  apply BitVec.eq_of_toNat_eq
  simp only [uN] at h
  omega
theorem uN_bd (x : BitVec 32) : 0 ≤ uN x ∧ uN x ≤ 4294967295 := by have := x.isLt; unfold uN; omega
theorem ofInt_uN (x : BitVec 32) : BitVec.ofInt 32 (uN x) = x := ofInt_toNat x
theorem bv_and (x y : BitVec 32) : bits .and .u32 (uN x) (uN y) = uN (x &&& y) := by
  show IntKind.u32.wrap _ = _
  simp only [IntKind.bits, ofInt_uN]; exact u32_back _
theorem bv_or (x y : BitVec 32) : bits .or .u32 (uN x) (uN y) = uN (x ||| y) := by
  show IntKind.u32.wrap _ = _
  simp only [IntKind.bits, ofInt_uN]; exact u32_back _
theorem bv_andNot (x y : BitVec 32) : bits .andNot .u32 (uN x) (uN y) = uN (x &&& ~~~y) := by
  show IntKind.u32.wrap _ = _
  simp only [IntKind.bits, ofInt_uN]; exact u32_back _
theorem bv_and_num (x : BitVec 32) (n : Nat) : bits .and .u32 (uN x) (OfNat.ofNat n : Int) = uN (x &&& BitVec.ofNat 32 n) := by
  have e : BitVec.ofInt 32 (OfNat.ofNat n : Int) = BitVec.ofNat 32 n := BitVec.ofInt_natCast 32 n
  show IntKind.u32.wrap _ = _
  simp only [IntKind.bits, ofInt_uN, e]; exact u32_back _
theorem bv_andNot_num (x : BitVec 32) (n : Nat) : bits .andNot .u32 (uN x) (OfNat.ofNat n : Int) = uN (x &&& ~~~(BitVec.ofNat 32 n)) := by
  have e : BitVec.ofInt 32 (OfNat.ofNat n : Int) = BitVec.ofNat 32 n := BitVec.ofInt_natCast 32 n
  show IntKind.u32.wrap _ = _
  simp only [IntKind.bits, ofInt_uN, e]; exact u32_back _
theorem bv_num_andNot (x : BitVec 32) (n : Nat) : bits .andNot .u32 (OfNat.ofNat n : Int) (uN x) = uN (BitVec.ofNat 32 n &&& ~~~x) := by
  have e : BitVec.ofInt 32 (OfNat.ofNat n : Int) = BitVec.ofNat 32 n := BitVec.ofInt_natCast 32 n
  show IntKind.u32.wrap _ = _
  simp only [IntKind.bits, ofInt_uN, e]; exact u32_back _
theorem bv_and_all (x : BitVec 32) : bits .and .u32 (uN x) 16777215 = uN (x &&& 16777215#32) := bv_and_num x 16777215
theorem bv_andNot_all (x : BitVec 32) : bits .andNot .u32 (uN x) 16777215 = uN (x &&& 4278190080#32) := bv_andNot_num x 16777215
theorem bv_all_andNot (x : BitVec 32) : bits .andNot .u32 16777215 (uN x) = uN (16777215#32 &&& ~~~x) := bv_num_andNot x 16777215
theorem bv_eq_all (x : BitVec 32) : (uN x == 16777215) = (x == 16777215#32) := by
  rw [Bool.eq_iff_iff]; simp [uN, BitVec.toNat_eq]; omega
theorem bv_ne_all (x : BitVec 32) : (uN x != 16777215) = (x != 16777215#32) := by
  simp only [bne, bv_eq_all]
/-- 's & (s - 1)'. -/
theorem bv_pred (x : BitVec 32) : bits .and .u32 (uN x) (uN x - 1) = uN (x &&& (x - 1#32)) := by
  have e : BitVec.ofInt 32 (uN x - 1) = x - 1#32 := by
    apply BitVec.eq_of_toNat_eq
    simp [uN, BitVec.toNat_ofInt, BitVec.toNat_sub]
    have := x.isLt
    omega
  show IntKind.u32.wrap _ = _
  simp only [IntKind.bits, ofInt_uN, e]; exact u32_back _
theorem bv_pred' (x : BitVec 32) : bits .and .u32 (uN x) ((uN x - 1) % 4294967296) = uN (x &&& (x - 1#32)) := by
  rw [← bv_pred]
  have e : BitVec.ofInt 32 ((uN x - 1) % 4294967296) = BitVec.ofInt 32 (uN x - 1) := by
    apply BitVec.eq_of_toNat_eq
    simp [BitVec.toNat_ofInt]
  show IntKind.u32.wrap ((BitVec.ofInt 32 (uN x) &&& BitVec.ofInt 32 ((uN x - 1) % 4294967296)).toNat : Int) = IntKind.u32.wrap ((BitVec.ofInt 32 (uN x) &&& BitVec.ofInt 32 (uN x - 1)).toNat : Int)
  rw [e]
theorem bv_eq_zero (x : BitVec 32) : (uN x == 0) = (x == 0#32) := by
  rw [Bool.eq_iff_iff]; simp [uN, BitVec.toNat_eq]
theorem bv_ne_zero (x : BitVec 32) : (uN x != 0) = (x != 0#32) := by
  simp only [bne, bv_eq_zero]
theorem bv_eq (x y : BitVec 32) : (uN x == uN y) = (x == y) := by
  rw [Bool.eq_iff_iff]; simp [uN, BitVec.toNat_eq]; omega
theorem bv_ne (x y : BitVec 32) : (uN x != uN y) = (x != y) := by
  simp only [bne, bv_eq]
/-- 'x >> d & 1'. -/
theorem bv_bit (x : BitVec 32) (d : Nat) : bits .and .u32 (uN x / 2 ^ d) 1 = if x.getLsbD d then 1 else 0 := by
  have e : (uN x / 2 ^ d) = uN (x >>> d) := by
    simp [uN, BitVec.toNat_ushiftRight, Nat.shiftRight_eq_div_pow]
  rw [e, show (1 : Int) = (OfNat.ofNat 1 : Int) from rfl, bv_and_num]
  have : (x >>> d &&& BitVec.ofNat 32 1).toNat = if x.getLsbD d then 1 else 0 := by
    have h1 : (x >>> d &&& BitVec.ofNat 32 1).toNat = (x >>> d).toNat % 2 := by
      simp [BitVec.toNat_and, Nat.and_one_is_mod]
    rw [h1, BitVec.toNat_ushiftRight, ← BitVec.testBit_toNat, Nat.testBit_eq_decide_div_mod_eq]
    simp only [Nat.shiftRight_eq_div_pow]
    have : x.toNat / 2 ^ d % 2 < 2 := Nat.mod_lt _ (by omega)
    by_cases h : x.toNat / 2 ^ d % 2 = 1 <;> simp [h] ; omega
  rw [uN, this]; split <;> rfl
end Go.Proofs.Qxb6500326aGreat
