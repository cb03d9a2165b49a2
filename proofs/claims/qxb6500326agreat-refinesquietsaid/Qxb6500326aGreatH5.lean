import Derived.Test.Qxb6500326aGreatH4
namespace Go.Proofs.Qxb6500326aGreat
set_option maxRecDepth 100000
set_option linter.unusedVariables false
set_option linter.unusedSimpArgs false
open Go.RowKit Go.PlainAid
set_option maxHeartbeats 8000000 in
theorem judge_no (t : ByteArray) (w : World) (hs : t.size ≤ 1056) (hS : ¬ ∃ S, SvT t 0 (-1) S) : Calls Tryz.prog 118 #[.string t] w fun e w' => e = .returned (.bool false) ∧ w = w' := by
  have hPr : Bx (∀ (i : Nat) wx, i + 1 < t.size → Calls Tryz.prog 119 #[.string t, I i] wx fun e w' => e = .returned (I (numP (bt t i) (bt t (i + 1)))) ∧ wx = w') := ⟨fun i wx hi => pair_any t i wx hi (by omega)⟩
  have hS := Bx.mk hS
  go_enter Tryz.func118, Tryz.ntmps118
  go_wp2_with fail
  go_loopw [3, 4] (fun l c wr => ∃ (last : Int) (i : Nat), i ≤ t.size ∧ -1 ≤ last ∧ last < 24 ∧ l = I last ∧ c = I (i : Int) ∧ Bx (¬ ∃ S, SvT t i last S) ∧ w = wr) (fun _ c _ => t.size - (intOf c).toNat)
  case atStart => exact ⟨-1, 0, by omega, by omega, by omega, rfl, rfl, hS, rfl⟩
  case round =>
    clear hS
    obtain ⟨last, i, hi, hl0, hl1, rfl, rfl, hS, rfl⟩ := hrel
    have hlt : i < t.size := by
      apply Classical.byContradiction
      intro hn
      have : i = t.size := by omega
      exact hS.out ⟨_, this ▸ svt_end t last⟩
    have hltd : decide ((i : Int) < (t.size : Int)) = true := by simp; omega
    have hiI : (i : Int) ≤ 1056 := by omega
    have htI : (t.size : Int) ≤ 1056 := by omega
    cases q1 : decide ((t.size : Int) - (i : Int) < 4)
    · have h4 : i + 4 ≤ t.size := by simp at q1; omega
      have p1 := Bx.mk (fun wx => hPr.out i wx (by omega))
      have p2 := Bx.mk (fun wx => hPr.out (i + 2) wx (by omega))
      rw [show i + 2 + 1 = i + 3 from rfl] at p2
      obtain ⟨b1, b2⟩ := numP_bd (bt t i) (bt t (i + 1))
      obtain ⟨b3, b4⟩ := numP_bd (bt t (i + 2)) (bt t (i + 3))
      have hpc : Bx (∀ c m : Nat, numP (bt t i) (bt t (i + 1)) = c → numP (bt t (i + 2)) (bt t (i + 3)) = m → last < c → c < 24 → 1 ≤ m → m ≤ 40 → i + 4 + m ≤ t.size → ¬ ∃ S, SvT t (i + 4 + m) c S) := ⟨fun c m e1 e2 e3 e4 e5 e6 e7 => svt_none_step hS.out ⟨e1, e2, e3, e4, e5, e6, e7⟩⟩
      generalize numP (bt t i) (bt t (i + 1)) = c at *
      generalize numP (bt t (i + 2)) (bt t (i + 3)) = m at *
      clear hS
      cases q2 : decide (c ≤ last)
      · cases q3 : decide (24 ≤ c)
        · cases q4 : decide (m < 1)
          · cases q5 : decide (40 < m)
            · cases q6 : decide ((t.size : Int) - (i : Int) - 4 < m)
              · have g2 : last < c := by simpa using q2
                have g3 : c < 24 := by simpa using q3
                have g4 : 1 ≤ m := by simpa using q4
                have g5 : m ≤ 40 := by simpa using q5
                have g6 : m ≤ (t.size : Int) - (i : Int) - 4 := by simpa using q6
                have hnx := Bx.mk (hpc.out c.toNat m.toNat (by omega) (by omega) (by omega) (by omega) (by omega) (by omega) (by omega))
                have hcc : ((c.toNat : Nat) : Int) = c := by omega
                rw [hcc] at hnx
                clear hcc
                go_wp2_with (first
                  | (go_at_call 119; refine (p1.out _).mono ?_; clear p1; rintro e _ ⟨rfl, rfl⟩)
                  | (go_at_call 119; refine (p2.out _).mono ?_; clear p2; rintro e _ ⟨rfl, rfl⟩))
                go_roundw
                case rel => exact ⟨c, i + 4 + m.toNat, by omega, by omega, by omega, rfl, congrArg I (by omega), hnx, trivial⟩
                case measure => simp [intOf]; omega
              · go_wp2_with (first
                  | (go_at_call 119; refine (p1.out _).mono ?_; clear p1; rintro e _ ⟨rfl, rfl⟩)
                  | (go_at_call 119; refine (p2.out _).mono ?_; clear p2; rintro e _ ⟨rfl, rfl⟩))
                go_ret
                exact ⟨rfl, rfl⟩
            · go_wp2_with (first
                | (go_at_call 119; refine (p1.out _).mono ?_; clear p1; rintro e _ ⟨rfl, rfl⟩)
                | (go_at_call 119; refine (p2.out _).mono ?_; clear p2; rintro e _ ⟨rfl, rfl⟩))
              go_ret
              exact ⟨rfl, rfl⟩
          · go_wp2_with (first
              | (go_at_call 119; refine (p1.out _).mono ?_; clear p1; rintro e _ ⟨rfl, rfl⟩)
              | (go_at_call 119; refine (p2.out _).mono ?_; clear p2; rintro e _ ⟨rfl, rfl⟩))
            go_ret
            exact ⟨rfl, rfl⟩
        · go_wp2_with (first
            | (go_at_call 119; refine (p1.out _).mono ?_; clear p1; rintro e _ ⟨rfl, rfl⟩)
            | (go_at_call 119; refine (p2.out _).mono ?_; clear p2; rintro e _ ⟨rfl, rfl⟩))
          go_ret
          exact ⟨rfl, rfl⟩
      · go_wp2_with (first
          | (go_at_call 119; refine (p1.out _).mono ?_; clear p1; rintro e _ ⟨rfl, rfl⟩)
          | (go_at_call 119; refine (p2.out _).mono ?_; clear p2; rintro e _ ⟨rfl, rfl⟩))
        go_ret
        exact ⟨rfl, rfl⟩
    · go_wp2_with fail
      go_ret
      exact ⟨rfl, rfl⟩
end Go.Proofs.Qxb6500326aGreat
