import Derived.Test.Qxb6500328aGreatL2
namespace Go.Proofs.Qxb6500328aGreat
set_option maxRecDepth 100000
set_option linter.unusedVariables false
set_option linter.unusedSimpArgs false
open Go.RowKit Go.PlainAid
attribute [local go_sem] bv_and bv_or bv_eq_zero bv_ne_zero bv_ne bv_eq bv_andNot

def slCol (dc : Int) (i : Nat) : Int := (i : Int) % 4 + dc
def slRow (dr : Int) (i : Nat) : Int := (i : Int) / 4 + dr
def slIn (dc dr : Int) (i : Nat) : Prop := 0 ≤ slCol dc i ∧ slCol dc i < 4 ∧ 0 ≤ slRow dr i ∧ slRow dr i < 6
def slTo (dc dr : Int) (i : Nat) : Nat := (slRow dr i * 4 + slCol dc i).toNat
/-- What Slid answers. -/
def SlP (S : BitVec 32) (dc dr : Int) (w : World) : Ending → World → Prop := fun e w' => ∃ (W : BitVec 32) (ok : Bool), e = .returned (.tuple #[U W, .bool ok]) ∧ w = w' ∧ (ok = true → (∀ i, i < 24 → S.getLsbD i = true → slIn dc dr i) ∧ ∀ j, W.getLsbD j = true → ∃ i, i < 24 ∧ S.getLsbD i = true ∧ slTo dc dr i = j)
set_option maxHeartbeats 8000000 in
theorem slid_any (S : BitVec 32) (dc dr : Int) (w : World) (hc : -100 ≤ dc ∧ dc ≤ 100) (hr : -100 ≤ dr ∧ dr ≤ 100) : Calls Tryz.prog 76 #[U S, I dc, I dr] w (SlP S dc dr w) := by
  obtain ⟨c1, c2⟩ := hc
  obtain ⟨r1, r2⟩ := hr
  have hBit : Bx (∀ (k : Nat) wx, k < 24 → Calls Tryz.prog 80 #[I k] wx fun e w' => e = .returned (U (bit k)) ∧ wx = w') := ⟨fun k wx hk => bit_any k wx hk⟩
  have hz : Bx (U 0#32 = .int .u32 0) := ⟨by simp [uN]⟩
  go_enter Tryz.func76, Tryz.ntmps76
  go_wp2_with fail
  go_loopw [8, 9] (fun s c wr => ∃ (k : Nat) (W : BitVec 32), k ≤ 24 ∧ s = U W ∧ c = I (k : Int) ∧ Bx (∀ i, i < k → S.getLsbD i = true → slIn dc dr i) ∧ Bx (∀ j, W.getLsbD j = true → ∃ i, i < k ∧ S.getLsbD i = true ∧ slTo dc dr i = j) ∧ w = wr) (fun _ c _ => 24 - (intOf c).toNat)
  case atStart => exact ⟨0, 0#32, by omega, hz.out.symm, rfl, ⟨fun i hi => absurd hi (by omega)⟩, ⟨fun j hj => by simp at hj⟩, rfl⟩
  case round =>
    obtain ⟨k, W, hk, rfl, rfl, hI, hW, rfl⟩ := hrel
    cases hlt : decide ((k : Int) < 24)
    · have hk24 : Bx (k = 24) := ⟨by simp at hlt; omega⟩
      go_wp2_with fail
      go_ret2
      refine ⟨W, true, rfl, rfl, fun _ => ⟨fun i hi h => hI.out i (by rw [hk24.out]; exact hi) h, fun j hj => ?_⟩⟩
      obtain ⟨i, h1, h2⟩ := hW.out j hj
      exact ⟨i, by rw [← hk24.out]; exact h1, h2⟩
    · have hk24 : k < 24 := by simp at hlt; omega
      have hkI : (k : Int) < 24 := by omega
      have hab := and_bit S (p := k) (by omega)
      have hBk := Bx.mk (fun wx => hBit.out k wx hk24)
      cases hb : S.getLsbD k
      · rw [hb] at hab
        have hb := Bx.mk hb
        go_wp2_with (first
          | (go_at_call 80; refine (hBk.out _).mono ?_; clear hBk; rintro e _ ⟨rfl, rfl⟩))
        go_roundw
        case rel =>
          refine ⟨k + 1, W, by omega, rfl, by go_num, ⟨fun i hi h => ?_⟩, ⟨fun j hj => ?_⟩, trivial⟩
          · by_cases e : i = k
            · subst e; rw [hb.out] at h; cases h
            · exact hI.out i (by omega) h
          · obtain ⟨i, h1, h2⟩ := hW.out j hj
            exact ⟨i, by omega, h2⟩
        case measure => simp [intOf]; omega
      · rw [hb] at hab
        have hb := Bx.mk hb
        cases d1 : decide ((k : Int) % 4 + dc < 0)
        · cases d2 : decide (4 ≤ (k : Int) % 4 + dc)
          · cases d3 : decide ((k : Int) / 4 + dr < 0)
            · cases d4 : decide (6 ≤ (k : Int) / 4 + dr)
              · have b1 : 0 ≤ (k : Int) % 4 + dc := by simpa using d1
                have b2 : (k : Int) % 4 + dc < 4 := by simpa using d2
                have b3 : 0 ≤ (k : Int) / 4 + dr := by simpa using d3
                have b4 : (k : Int) / 4 + dr < 6 := by simpa using d4
                obtain ⟨q, hq⟩ : ∃ q : Nat, ((k : Int) / 4 + dr) * 4 + ((k : Int) % 4 + dc) = (q : Int) := ⟨(((k : Int) / 4 + dr) * 4 + ((k : Int) % 4 + dc)).toNat, by omega⟩
                have hq24 : q < 24 := by omega
                have hBq : Bx (∀ wx, Calls Tryz.prog 80 #[I (((k : Int) / 4 + dr) * 4 + ((k : Int) % 4 + dc))] wx fun e w' => e = .returned (U (bit q)) ∧ wx = w') := ⟨fun wx => hq ▸ hBit.out q wx hq24⟩
                have hto : Bx (slTo dc dr k = q) := ⟨by unfold slTo slRow slCol; rw [hq]; rfl⟩
                have hin : Bx (slIn dc dr k) := ⟨⟨b1, b2, b3, b4⟩⟩
                have hq32 := Bx.mk hq24
                clear hq
                go_wp2_with (first
                  | (go_at_call 80; refine (hBk.out _).mono ?_; clear hBk; rintro e _ ⟨rfl, rfl⟩)
                  | (go_at_call 80; refine (hBq.out _).mono ?_; clear hBq; rintro e _ ⟨rfl, rfl⟩))
                go_roundw
                case rel =>
                  refine ⟨k + 1, W ||| bit q, by omega, rfl, by go_num, ⟨fun i hi h => ?_⟩, ⟨fun j hj => ?_⟩, trivial⟩
                  · by_cases e : i = k
                    · subst e; exact hin.out
                    · exact hI.out i (by omega) h
                  · rw [BitVec.getLsbD_or, Bool.or_eq_true, bit_at (by have := hq32.out; omega)] at hj
                    rcases hj with hj | hj
                    · obtain ⟨i, h1, h2⟩ := hW.out j hj
                      exact ⟨i, by omega, h2⟩
                    · exact ⟨k, by omega, hb.out, by rw [hto.out]; exact (by simpa using hj : j = q).symm⟩
                case measure => simp [intOf]; omega
              · go_wp2_with (first
                  | (go_at_call 80; refine (hBk.out _).mono ?_; clear hBk; rintro e _ ⟨rfl, rfl⟩))
                go_ret2
                exact ⟨0#32, false, by rw [hz.out] <;> rfl, rfl, fun h => by (cases h)⟩
            · go_wp2_with (first
                | (go_at_call 80; refine (hBk.out _).mono ?_; clear hBk; rintro e _ ⟨rfl, rfl⟩))
              go_ret2
              exact ⟨0#32, false, by rw [hz.out] <;> rfl, rfl, fun h => by (cases h)⟩
          · go_wp2_with (first
              | (go_at_call 80; refine (hBk.out _).mono ?_; clear hBk; rintro e _ ⟨rfl, rfl⟩))
            go_ret2
            exact ⟨0#32, false, by rw [hz.out] <;> rfl, rfl, fun h => by (cases h)⟩
        · go_wp2_with (first
            | (go_at_call 80; refine (hBk.out _).mono ?_; clear hBk; rintro e _ ⟨rfl, rfl⟩))
          go_ret2
          exact ⟨0#32, false, by rw [hz.out] <;> rfl, rfl, fun h => by (cases h)⟩

end Go.Proofs.Qxb6500328aGreat
