import Derived.Test.Qxb6500326aGreatW8
namespace Go.Proofs.Qxb6500326aGreat
set_option maxRecDepth 100000
set_option linter.unusedVariables false
set_option linter.unusedSimpArgs false
open Go.RowKit Go.PlainAid
set_option maxRecDepth 100000 in
set_option maxHeartbeats 4000000 in
theorem refOf_f1 (s : ByteArray) (w : World) (hs : s.size ≤ 40) (h0 : 0 < s.size) (h36d : (bt s 0 == 36) = false) :
    Calls Tryz.prog 254 #[.string s] w fun e w' => e = .returned (.tuple #[refV ((refAt (bt s) s.size false 0).getD rz), .bool (refAt (bt s) s.size false 0).isSome]) ∧ Fr S0 w w' := by
  have hb := get_bt s
  have hne : ¬ s = ByteArray.empty := by rintro rfl; simp at h0
  have hned : decide (s = ByteArray.empty) = false := decide_eq_false hne
  have bq0 := bt_nonneg s 0
  have bq1 := bt_le s 0
  by_cases hf : 0 < s.size ∧ 65 ≤ bt s 0 ∧ bt s 0 ≤ 90
  · obtain ⟨f1, f2, f3⟩ := hf
    have f1d : decide ((s.size : Int) ≤ 0) = false := decide_eq_false (by omega)
    have f1e : decide (s.size ≤ 0) = false := decide_eq_false (by omega)
    by_cases e1 : 1 < s.size
    · have e1d : decide ((1 : Int) < (s.size : Int)) = true := decide_eq_true (by omega)
      have e1e : decide (1 < s.size) = true := decide_eq_true (by omega)
      cases e2 : (bt s 1 == 36)
      · have hans : Bx (refAt (bt s) s.size false 0 = refTl (bt s) s.size false false (bt s 0 - 65) 1) := Bx.mk (by
          unfold refAt; rw [if_pos ⟨f1, f2, f3⟩, if_neg (by simp at e2; exact fun e => e2 e.2)])
        have bj0 := bt_nonneg s 1
        have bj1 := bt_le s 1
        by_cases hL : (1 < s.size ∧ s.size ≤ 1 + 2) ∧ 49 ≤ bt s 1 ∧ bt s 1 ≤ 57
        · obtain ⟨⟨l1, l2⟩, l3, l4⟩ := hL
          have l1d : decide ((s.size : Int) - 1 < 1) = false := decide_eq_false (by omega)
          have l2d : decide ((2 : Int) < (s.size : Int) - 1) = false := decide_eq_false (by omega)
          have hnone : Bx (s.size = 2 + 1 → ¬ (48 ≤ bt s 2 ∧ bt s 2 ≤ 57) → refTl (bt s) s.size false false (bt s 0 - 65) 1 = none) := Bx.mk (by intro a1 a2; unfold refTl; simp only [Nat.reduceAdd]; rw [if_neg (by omega)])
          have hone : Bx (s.size = 1 + 1 → refTl (bt s) s.size false false (bt s 0 - 65) 1 = some ⟨bt s 0 - 65, bt s 1 - 48 - 1, false, false⟩) := Bx.mk (by intro a1; unfold refTl; simp only [Nat.reduceAdd]; rw [if_pos (by omega), if_pos (by omega), show bt s 1 - 49 = bt s 1 - 48 - 1 from by omega])
          have htwo : Bx (s.size = 1 + 2 → 48 ≤ bt s 2 → bt s 2 ≤ 57 → refTl (bt s) s.size false false (bt s 0 - 65) 1 = some ⟨bt s 0 - 65, (bt s 1 - 48) * 10 + (bt s 2 - 48) - 1, false, false⟩) := Bx.mk (by intro a1 a2 a3; unfold refTl; simp only [Nat.reduceAdd]; rw [if_pos (by omega), if_neg (by omega)])
          go_enter Tryz.func254, Tryz.ntmps254
          go_wp2
          go_loopw [5, 7] (fun i v wr => wr = (w.alloc (.cells #[I 0, I 0, .bool false, .bool false] 147)).alloc (.cells #[I (bt s 0 - 65), I 0, .bool false, .bool false] 147) ∧ ((i = I 1 ∧ v = I 0) ∨ (i = I 2 ∧ v = I (bt s 1 - 48)) ∨ (i = I 3 ∧ s.size = 3 ∧ v = I ((bt s 1 - 48) * 10 + (bt s 2 - 48)) ∧ 48 ≤ bt s 2 ∧ bt s 2 ≤ 57))) (fun i _ _ => 4 - (intOf i).toNat)
          case atStart => exact ⟨rfl, .inl ⟨rfl, rfl⟩⟩
          case round =>
            obtain ⟨rfl, ⟨rfl, rfl⟩ | ⟨rfl, rfl⟩ | ⟨rfl, hsz, rfl, d1, d2⟩⟩ := hrel
            · have m1 : decide ((1 : Int) < s.size) = true := decide_eq_true (by omega)
              have m2 : 48 ≤ bt s 1 := by omega
              go_wp2
              go_roundw
              case rel => exact ⟨trivial, .inr (.inl ⟨rfl, rfl⟩)⟩
              case measure => simp [intOf]
            · by_cases n1 : 2 < s.size
              · have n1d : decide ((2 : Int) < s.size) = true := decide_eq_true (by omega)
                have n2 := Bx.mk (show s.size = 3 from by omega)
                by_cases n3 : 48 ≤ bt s 2
                · by_cases n4 : bt s 2 ≤ 57
                  · go_wp2
                    go_roundw
                    case rel => exact ⟨trivial, .inr (.inr ⟨rfl, n2.out, rfl, n3, n4⟩)⟩
                    case measure => simp [intOf]
                  · have n5 : 57 < bt s 2 := by omega
                    have hN := Bx.mk (hnone.out n2.out (by omega))
                    clear n4
                    go_wp2
                    go_returns
                    rw [hans.out, hN.out]
                    exact ⟨rfl, ((Fr.refl _ _).alloc _).alloc _⟩
                · have n5 : bt s 2 < 48 := by omega
                  have hN := Bx.mk (hnone.out n2.out (by omega))
                  clear n3
                  go_wp2
                  go_returns
                  rw [hans.out, hN.out]
                  exact ⟨rfl, ((Fr.refl _ _).alloc _).alloc _⟩
              · have n1d : decide ((2 : Int) < s.size) = false := decide_eq_false (by omega)
                have hN := Bx.mk (hone.out (by omega))
                go_wp2
                go_returns
                rw [hans.out, hN.out]
                exact ⟨rfl, ((Fr.refl _ _).alloc _).alloc _⟩
            · have n1d : decide ((3 : Int) < s.size) = false := decide_eq_false (by omega)
              have hN := Bx.mk (htwo.out hsz d1 d2)
              clear hsz
              go_wp2
              go_returns
              rw [hans.out, hN.out]
              exact ⟨rfl, ((Fr.refl _ _).alloc _).alloc _⟩
        · have hnone : Bx (refTl (bt s) s.size false false (bt s 0 - 65) 1 = none) := Bx.mk (by unfold refTl; rw [if_neg (by omega)])
          by_cases l1 : 1 < s.size
          · have l1d : decide ((s.size : Int) - 1 < 1) = false := decide_eq_false (by omega)
            by_cases l2 : s.size ≤ 1 + 2
            · have l2d : decide ((2 : Int) < (s.size : Int) - 1) = false := decide_eq_false (by omega)
              by_cases l3 : 49 ≤ bt s 1
              · have l4 : 57 < bt s 1 := by omega
                clear hL
                go_enter Tryz.func254, Tryz.ntmps254
                go_wp2
                go_returns
                rw [hans.out, hnone.out]
                exact ⟨rfl, ((Fr.refl _ _).alloc _).alloc _⟩
              · have l4 : bt s 1 < 49 := by omega
                clear hL
                go_enter Tryz.func254, Tryz.ntmps254
                go_wp2
                go_returns
                rw [hans.out, hnone.out]
                exact ⟨rfl, ((Fr.refl _ _).alloc _).alloc _⟩
            · have l2d : decide ((2 : Int) < (s.size : Int) - 1) = true := decide_eq_true (by omega)
              clear hL
              go_enter Tryz.func254, Tryz.ntmps254
              go_wp2
              go_returns
              rw [hans.out, hnone.out]
              exact ⟨rfl, ((Fr.refl _ _).alloc _).alloc _⟩
          · exact absurd e1 l1
      · have hans : Bx (refAt (bt s) s.size false 0 = refTl (bt s) s.size false true (bt s 0 - 65) 2) := Bx.mk (by
          unfold refAt; rw [if_pos ⟨f1, f2, f3⟩, if_pos ⟨e1, by simpa using e2⟩])
        have bj0 := bt_nonneg s 2
        have bj1 := bt_le s 2
        by_cases hL : (2 < s.size ∧ s.size ≤ 2 + 2) ∧ 49 ≤ bt s 2 ∧ bt s 2 ≤ 57
        · obtain ⟨⟨l1, l2⟩, l3, l4⟩ := hL
          have l1d : decide ((s.size : Int) - 2 < 1) = false := decide_eq_false (by omega)
          have l2d : decide ((2 : Int) < (s.size : Int) - 2) = false := decide_eq_false (by omega)
          have hnone : Bx (s.size = 3 + 1 → ¬ (48 ≤ bt s 3 ∧ bt s 3 ≤ 57) → refTl (bt s) s.size false true (bt s 0 - 65) 2 = none) := Bx.mk (by intro a1 a2; unfold refTl; simp only [Nat.reduceAdd]; rw [if_neg (by omega)])
          have hone : Bx (s.size = 2 + 1 → refTl (bt s) s.size false true (bt s 0 - 65) 2 = some ⟨bt s 0 - 65, bt s 2 - 48 - 1, false, true⟩) := Bx.mk (by intro a1; unfold refTl; simp only [Nat.reduceAdd]; rw [if_pos (by omega), if_pos (by omega), show bt s 2 - 49 = bt s 2 - 48 - 1 from by omega])
          have htwo : Bx (s.size = 2 + 2 → 48 ≤ bt s 3 → bt s 3 ≤ 57 → refTl (bt s) s.size false true (bt s 0 - 65) 2 = some ⟨bt s 0 - 65, (bt s 2 - 48) * 10 + (bt s 3 - 48) - 1, false, true⟩) := Bx.mk (by intro a1 a2 a3; unfold refTl; simp only [Nat.reduceAdd]; rw [if_pos (by omega), if_neg (by omega)])
          go_enter Tryz.func254, Tryz.ntmps254
          go_wp2
          go_loopw [5, 7] (fun i v wr => wr = (w.alloc (.cells #[I 0, I 0, .bool false, .bool false] 147)).alloc (.cells #[I (bt s 0 - 65), I 0, .bool false, .bool true] 147) ∧ ((i = I 2 ∧ v = I 0) ∨ (i = I 3 ∧ v = I (bt s 2 - 48)) ∨ (i = I 4 ∧ s.size = 4 ∧ v = I ((bt s 2 - 48) * 10 + (bt s 3 - 48)) ∧ 48 ≤ bt s 3 ∧ bt s 3 ≤ 57))) (fun i _ _ => 5 - (intOf i).toNat)
          case atStart => exact ⟨rfl, .inl ⟨rfl, rfl⟩⟩
          case round =>
            obtain ⟨rfl, ⟨rfl, rfl⟩ | ⟨rfl, rfl⟩ | ⟨rfl, hsz, rfl, d1, d2⟩⟩ := hrel
            · have m1 : decide ((2 : Int) < s.size) = true := decide_eq_true (by omega)
              have m2 : 48 ≤ bt s 2 := by omega
              go_wp2
              go_roundw
              case rel => exact ⟨trivial, .inr (.inl ⟨rfl, rfl⟩)⟩
              case measure => simp [intOf]
            · by_cases n1 : 3 < s.size
              · have n1d : decide ((3 : Int) < s.size) = true := decide_eq_true (by omega)
                have n2 := Bx.mk (show s.size = 4 from by omega)
                by_cases n3 : 48 ≤ bt s 3
                · by_cases n4 : bt s 3 ≤ 57
                  · go_wp2
                    go_roundw
                    case rel => exact ⟨trivial, .inr (.inr ⟨rfl, n2.out, rfl, n3, n4⟩)⟩
                    case measure => simp [intOf]
                  · have n5 : 57 < bt s 3 := by omega
                    have hN := Bx.mk (hnone.out n2.out (by omega))
                    clear n4
                    go_wp2
                    go_returns
                    rw [hans.out, hN.out]
                    exact ⟨rfl, ((Fr.refl _ _).alloc _).alloc _⟩
                · have n5 : bt s 3 < 48 := by omega
                  have hN := Bx.mk (hnone.out n2.out (by omega))
                  clear n3
                  go_wp2
                  go_returns
                  rw [hans.out, hN.out]
                  exact ⟨rfl, ((Fr.refl _ _).alloc _).alloc _⟩
              · have n1d : decide ((3 : Int) < s.size) = false := decide_eq_false (by omega)
                have hN := Bx.mk (hone.out (by omega))
                go_wp2
                go_returns
                rw [hans.out, hN.out]
                exact ⟨rfl, ((Fr.refl _ _).alloc _).alloc _⟩
            · have n1d : decide ((4 : Int) < s.size) = false := decide_eq_false (by omega)
              have hN := Bx.mk (htwo.out hsz d1 d2)
              clear hsz
              go_wp2
              go_returns
              rw [hans.out, hN.out]
              exact ⟨rfl, ((Fr.refl _ _).alloc _).alloc _⟩
        · have hnone : Bx (refTl (bt s) s.size false true (bt s 0 - 65) 2 = none) := Bx.mk (by unfold refTl; rw [if_neg (by omega)])
          by_cases l1 : 2 < s.size
          · have l1d : decide ((s.size : Int) - 2 < 1) = false := decide_eq_false (by omega)
            by_cases l2 : s.size ≤ 2 + 2
            · have l2d : decide ((2 : Int) < (s.size : Int) - 2) = false := decide_eq_false (by omega)
              by_cases l3 : 49 ≤ bt s 2
              · have l4 : 57 < bt s 2 := by omega
                clear hL
                go_enter Tryz.func254, Tryz.ntmps254
                go_wp2
                go_returns
                rw [hans.out, hnone.out]
                exact ⟨rfl, ((Fr.refl _ _).alloc _).alloc _⟩
              · have l4 : bt s 2 < 49 := by omega
                clear hL
                go_enter Tryz.func254, Tryz.ntmps254
                go_wp2
                go_returns
                rw [hans.out, hnone.out]
                exact ⟨rfl, ((Fr.refl _ _).alloc _).alloc _⟩
            · have l2d : decide ((2 : Int) < (s.size : Int) - 2) = true := decide_eq_true (by omega)
              clear hL
              go_enter Tryz.func254, Tryz.ntmps254
              go_wp2
              go_returns
              rw [hans.out, hnone.out]
              exact ⟨rfl, ((Fr.refl _ _).alloc _).alloc _⟩
          · have l1d : decide ((s.size : Int) - 2 < 1) = true := decide_eq_true (by omega)
            clear hL
            go_enter Tryz.func254, Tryz.ntmps254
            go_wp2
            go_returns
            rw [hans.out, hnone.out]
            exact ⟨rfl, ((Fr.refl _ _).alloc _).alloc _⟩
    · have e1d : decide ((1 : Int) < (s.size : Int)) = false := decide_eq_false (by omega)
      have e1e : decide (1 < s.size) = false := decide_eq_false (by omega)
      have e3 : s.size = 1 := by omega
      have e4 : decide ((s.size : Int) - 1 < 1) = true := decide_eq_true (by omega)
      have hans : Bx (refAt (bt s) s.size false 0 = none) := Bx.mk (by
        unfold refAt refTl; rw [if_pos ⟨f1, f2, f3⟩, if_neg (by omega), if_neg (by omega)])
      go_enter Tryz.func254, Tryz.ntmps254
      go_wp2
      go_returns
      rw [hans.out]
      exact ⟨rfl, ((Fr.refl _ _).alloc _).alloc _⟩
  · have hans : Bx (refAt (bt s) s.size false 0 = none) := Bx.mk (by unfold refAt; rw [if_neg hf])
    by_cases f1 : 0 < s.size
    · have f1d : decide ((s.size : Int) ≤ 0) = false := decide_eq_false (by omega)
      have f1e : decide (s.size ≤ 0) = false := decide_eq_false (by omega)
      by_cases f2 : bt s 0 < 65
      · clear hf
        go_enter Tryz.func254, Tryz.ntmps254
        go_wp2
        go_returns
        rw [hans.out]
        exact ⟨rfl, ((Fr.refl _ _).alloc _).alloc _⟩
      · have f3 : 90 < bt s 0 := by omega
        have f4 : 65 ≤ bt s 0 := by omega
        clear hf f2
        go_enter Tryz.func254, Tryz.ntmps254
        go_wp2
        go_returns
        rw [hans.out]
        exact ⟨rfl, ((Fr.refl _ _).alloc _).alloc _⟩
    · exact absurd h0 f1
set_option maxRecDepth 100000 in
theorem refOf_f0 (w : World) : Calls Tryz.prog 254 #[.string ByteArray.empty] w fun e w' => e = .returned (.tuple #[refV rz, .bool false]) ∧ Fr S0 w w' := by
  go_enter Tryz.func254, Tryz.ntmps254
  go_wp2
  go_returns
  exact ⟨rfl, ((Fr.refl _ _).alloc _).alloc _⟩
end Go.Proofs.Qxb6500326aGreat
