import Derived.Test.Qxb6500331aGreatF1
namespace Go.Proofs.Qxb6500331aGreat
set_option maxRecDepth 100000
set_option linter.unusedVariables false
set_option linter.unusedSimpArgs false
open Go.RowKit Go.PlainAid
def exT : Nat → ByteArray
  | 0 => ⟨#[61, 49, 43, 50]⟩
  | 1 => ⟨#[61, 65, 49, 45, 66, 49]⟩
  | 2 => ⟨#[61, 65, 49, 42, 66, 49]⟩
  | 3 => ⟨#[61, 45, 55, 47, 50]⟩
  | 4 => ⟨#[61, 49, 47, 48]⟩
  | 5 => ⟨#[61, 65, 50, 43, 66, 50]⟩
  | 6 => ⟨#[61, 66, 50, 43, 65, 50]⟩
  | 7 => ⟨#[61, 73, 70, 40, 68, 49, 44, 65, 49, 44, 49, 47, 48, 41]⟩
  | 8 => ⟨#[61, 83, 85, 77, 40, 65, 49, 58, 66, 49, 41]⟩
  | 9 => ⟨#[61, 83, 85, 77, 40, 66, 49, 58, 65, 49, 41]⟩
  | 10 => ⟨#[61, 67, 79, 85, 78, 84, 40, 65, 49, 58, 68, 49, 41]⟩
  | 11 => ⟨#[45, 53]⟩
  | 12 => ⟨#[61, 57, 57, 57, 57, 57, 57, 57, 57, 57, 43, 49]⟩
  | 13 => ⟨#[61, 76, 69, 78, 40, 67, 49, 41]⟩
  | 14 => ⟨#[61, 77, 65, 88, 40, 65, 49, 58, 66, 49, 44, 55, 41]⟩
  | 15 => ⟨#[61, 65, 49, 62, 66, 49]⟩
  | 16 => ⟨#[61, 67, 49]⟩
  | 17 => ⟨#[61, 65, 51]⟩
  | 18 => ⟨#[61, 69, 49]⟩
  | 19 => ⟨#[61, 49, 43]⟩
  | 20 => ⟨#[61, 77, 73, 78, 40, 65, 49, 58, 66, 49, 41]⟩
  | 21 => ⟨#[61, 65, 78, 68, 40, 68, 49, 44, 65, 49, 62, 66, 49, 41]⟩
  | 22 => ⟨#[61, 50, 43, 51, 42, 52]⟩
  | 23 => ⟨#[61, 55, 45, 50, 45, 49]⟩
  | 24 => ⟨#[61, 56, 47, 50, 47, 50]⟩
  | 25 => ⟨#[61, 49, 43, 50, 60, 52]⟩
  | 26 => ⟨#[61, 83, 85, 77, 40, 57, 57, 57, 57, 57, 57, 57, 57, 57, 44, 57, 57, 57, 57, 57, 57, 57, 57, 57, 44, 45, 57, 57, 57, 57, 57, 57, 57, 57, 57, 41]⟩
  | _ => ⟨#[97, 98]⟩
def exV : Nat → Vl
  | 0 => ⟨1, 3, es⟩
  | 1 => ⟨1, 8, es⟩
  | 2 => ⟨1, (-15), es⟩
  | 3 => ⟨1, (-3), es⟩
  | 4 => ⟨4, 3, es⟩
  | 5 => ⟨4, 4, es⟩
  | 6 => ⟨4, 5, es⟩
  | 7 => ⟨1, 5, es⟩
  | 8 => ⟨1, 2, es⟩
  | 9 => ⟨1, 2, es⟩
  | 10 => ⟨1, 2, es⟩
  | 11 => ⟨1, (-5), es⟩
  | 12 => ⟨4, 4, es⟩
  | 13 => ⟨1, 2, es⟩
  | 14 => ⟨1, 7, es⟩
  | 15 => ⟨3, 1, es⟩
  | 16 => ⟨2, 0, ⟨#[97, 98]⟩⟩
  | 17 => ⟨0, 0, es⟩
  | 18 => ⟨4, 2, es⟩
  | 19 => ⟨4, 1, es⟩
  | 20 => ⟨1, (-3), es⟩
  | 21 => ⟨3, 1, es⟩
  | 22 => ⟨1, 14, es⟩
  | 23 => ⟨1, 4, es⟩
  | 24 => ⟨1, 2, es⟩
  | 25 => ⟨3, 1, es⟩
  | 26 => ⟨1, 999999999, es⟩
  | _ => ⟨2, 0, ⟨#[97, 98]⟩⟩
theorem ex_all (i : Nat) (hi : i < 28) : XmpOK (exT i) (exV i) := by
  have : i = 0 ∨ i = 1 ∨ i = 2 ∨ i = 3 ∨ i = 4 ∨ i = 5 ∨ i = 6 ∨ i = 7 ∨ i = 8 ∨ i = 9 ∨ i = 10 ∨ i = 11 ∨ i = 12 ∨ i = 13 ∨ i = 14 ∨ i = 15 ∨ i = 16 ∨ i = 17 ∨ i = 18 ∨ i = 19 ∨ i = 20 ∨ i = 21 ∨ i = 22 ∨ i = 23 ∨ i = 24 ∨ i = 25 ∨ i = 26 ∨ i = 27 := by omega
  rcases this with rfl | rfl | rfl | rfl | rfl | rfl | rfl | rfl | rfl | rfl | rfl | rfl | rfl | rfl | rfl | rfl | rfl | rfl | rfl | rfl | rfl | rfl | rfl | rfl | rfl | rfl | rfl | rfl
  · exact ex0
  · exact ex1
  · exact ex2
  · exact ex3
  · exact ex4
  · exact ex5
  · exact ex6
  · exact ex7
  · exact ex8
  · exact ex9
  · exact ex10
  · exact ex11
  · exact ex12
  · exact ex13
  · exact ex14
  · exact ex15
  · exact ex16
  · exact ex17
  · exact ex18
  · exact ex19
  · exact ex20
  · exact ex21
  · exact ex22
  · exact ex23
  · exact ex24
  · exact ex25
  · exact ex26
  · exact ex27
set_option maxHeartbeats 8000000 in
theorem example_any (i : Nat) (hi : i < 28) (w : World) : Calls Tryz.prog 21 #[.int .i64 (i : Int)] w fun e w' => e = .returned (.tuple #[.string (exT i), vV (exV i)]) ∧ Fr S0 w w' := by
  have : i = 0 ∨ i = 1 ∨ i = 2 ∨ i = 3 ∨ i = 4 ∨ i = 5 ∨ i = 6 ∨ i = 7 ∨ i = 8 ∨ i = 9 ∨ i = 10 ∨ i = 11 ∨ i = 12 ∨ i = 13 ∨ i = 14 ∨ i = 15 ∨ i = 16 ∨ i = 17 ∨ i = 18 ∨ i = 19 ∨ i = 20 ∨ i = 21 ∨ i = 22 ∨ i = 23 ∨ i = 24 ∨ i = 25 ∨ i = 26 ∨ i = 27 := by omega
  rcases this with rfl | rfl | rfl | rfl | rfl | rfl | rfl | rfl | rfl | rfl | rfl | rfl | rfl | rfl | rfl | rfl | rfl | rfl | rfl | rfl | rfl | rfl | rfl | rfl | rfl | rfl | rfl | rfl
  all_goals clear hi
  all_goals go_enter Tryz.func21, Tryz.ntmps21
  all_goals go_wp2
  all_goals go_returns
  all_goals exact ⟨rfl, (Fr.refl _ _).alloc _⟩
end Go.Proofs.Qxb6500331aGreat
