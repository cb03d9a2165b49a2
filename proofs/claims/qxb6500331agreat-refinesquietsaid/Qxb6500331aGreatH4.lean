import Derived.Test.Qxb6500331aGreatH3
namespace Go.Proofs.Qxb6500331aGreat
set_option maxRecDepth 100000
set_option linter.unusedVariables false
set_option linter.unusedSimpArgs false
open Go.RowKit Go.PlainAid

theorem WL.examples {w0 w w' : World} {V : VB} {B : FB} {mb fb d bb rb n : Nat} {reg : ByteArray} (h : WL w0 w V B mb fb d bb rb n reg) (hm : MEv w' mb fb) (f : Fr (MeS mb fb) w w') : WL w0 w' V B mb fb d bb rb n reg := by
  obtain ⟨Z, env, h1, h2, h3⟩ := h.ex
  exact h.step h2 h3 (h1.stepM hm f) (fun k hk => .inl hk) f.ud2
set_option maxHeartbeats 16000000 in
theorem walk_any (q : Bool) (ad : Option Addr) (len cap : Nat) (w : World) (hlen : len ≤ 140737488355328) (hs : Script w ad len) :
    Calls Tryz.prog 7 #[.slice ad len cap, .bool q] w fun e w' => ∃ v, e = .returned (.tuple #[.int .i64 (-1), v]) ∧ Fr S0 w w' := by
  have HS := Bx.mk hs
  have hmk := mk35
  generalize hM47 : M47 24 = A3 at hmk
  have hM47 := Bx.mk hM47
  clear hs
  cases q
  all_goals go_enter Tryz.func7, Tryz.ntmps7
  all_goals go_wp2_with (first
    | (go_at_call 8; refine (ground_any _).mono ?_; rintro e w1 ⟨B, rfl, hz1, hf1, hB1⟩; have hz1' := Bx.mk (hz1.fr0 ((Fr.refl S0 _).alloc (.cells #[pt B.f] 29))); have hz1 := Bx.mk hz1; have hf1 := Bx.mk hf1; have hB1 := Bx.mk hB1)
    | (go_at_call 9; refine (newV_any B _ hz1'.out).mono ?_; clear hz1'; rintro e w2 ⟨V, rfl, hz2, hf2, hV2⟩; have hz2 := Bx.mk hz2; have hf2 := Bx.mk hf2; have hV2 := Bx.mk hV2)
    | (go_at_call 10; refine (meNew_any _).mono ?_; rintro e w3 ⟨mb, fb, rfl, hm3, hf3, hM3⟩; have hW := Bx.mk (wl_start hz1.out hf1.out hB1.out hz2.out hf2.out hV2.out hm3 hf3 hM3); rw [hM47.out] at hW; clear hm3 hf3 hM3 hz2 hf2 hV2 hz1 hf1 hB1)
    | (go_at_call 11; refine (examples_any mb fb _ hW.out.ws.choose_spec.me).mono ?_; rintro e w4 ⟨rfl, hm4, hf4⟩; have hW := Bx.mk (hW.out.examples hm4 hf4); obtain ⟨b0, hbl⟩ := hW.out.boxed; clear hm4 hf4)
    | (go_at_call 12; refine (asks_any B.f _ _ _).mono ?_; rintro e w5 ⟨rfl, hf⟩; have hW := Bx.mk (hW.out.fr0 hf); obtain ⟨b0, hbl⟩ := hW.out.boxed; clear hf)
    | (go_at_call 13; refine (sameCheckL hW.out).mono ?_; rintro e w6 ⟨rfl, hW6⟩; have hW := Bx.mk hW6; obtain ⟨b0, hbl⟩ := hW.out.boxed; clear hW6))
  all_goals (
    go_loopw [9, 10, 12] (fun rg ev ii wr => ∃ (reg : ByteArray) (rb n k : Nat), rg = .string reg ∧ ev = sl rb n n ∧ ii = I (k : Int) ∧ k ≤ len ∧ Bx (WL w wr V B mb fb (w3.heap.size + 1) w1.heap.size rb n reg)) (fun _ _ ii _ => len - (intOf ii).toNat)
    case atStart => exact ⟨es, w3.heap.size, 24, 0, rfl, rfl, rfl, Nat.zero_le _, hW⟩
    case round =>
      clear hW b0 hbl
      obtain ⟨reg, rb, n, k, rfl, rfl, rfl, hk, hW⟩ := hrel
      obtain ⟨b0, hbl⟩ := hW.out.boxed
      have hrg := hW.out.rg
      have hn25 := hW.out.n25
      have hfw := Bx.mk hW.out.fr
      by_cases hlk : k < len
      · have hlkd : decide ((k : Int) < (len : Int)) = true := by simp; omega
        by_cases hmk' : k < 4398046511104
        · have hmkd : decide ((k : Int) < 4398046511104) = true := by simp; omega
          obtain ⟨b, off, kd, A, Bv, C, S1, T1, rfl, hb, hop⟩ := HS.out k hlk
          obtain ⟨o0, o1, o2, o3, o4, o5⟩ := hop.fr hfw.out hb (fun c => c)
          have hbw : b < wr.heap.size := Nat.lt_of_lt_of_le hb hfw.out.size
          clear hmk' hop
          have hW0 := Bx.mk hW.out
          have hW := Bx.mk (hW.out.fr0 ((Fr.refl S0 _).alloc (.cells #[.int .i64 kd, .int .i64 A, .int .i64 Bv, .int .i64 C, .string S1, .string T1] 44)))
          by_cases k1 : kd = 1
          · subst k1
            go_wp2_with (first
              | (go_at_call 14; refine (lengthen_any reg S1 _ hrg).mono ?_; rintro e w7 ⟨rfl, rfl⟩)
              | (go_at_call 13; refine (sameCheckL hW.out).mono ?_; rintro e w9 ⟨rfl, hW6⟩; have hW := Bx.mk hW6; obtain ⟨b0, hbl⟩ := hW.out.boxed; clear hW6))
            go_roundw
            case rel => exact ⟨_, rb, n, k + 1, rfl, rfl, by go_num, by omega, ⟨hW.out.reg _ (lenQ_size hrg)⟩⟩
            case measure => simp [intOf]; omega
          by_cases k2 : kd = 2
          · subst k2
            by_cases hA : 0 ≤ A ∧ A < 24 ∧ A < n
            · obtain ⟨i, rfl⟩ : ∃ i : Nat, A = (i : Int) := ⟨A.toNat, by omega⟩
              have hi : i < n := by omega
              have d1 : decide (0 ≤ (i : Int)) = true := by simp
              have d2 : decide ((i : Int) < 24) = true := by simp; omega
              have d3 : decide ((i : Int) < n) = true := by simp; omega
              obtain ⟨Z, env, hw1, hE, -⟩ := hW0.out.ex
              have g0 := hE.cell0 i hi (by omega)
              have g1 := hE.cell i 1 hi (by omega)
              have g2 := hE.cell i 2 hi (by omega)
              have z0 := hE.frozen (i * 3)
              have z1 := hE.frozen (i * 3 + 1)
              have z2 := hE.frozen (i * 3 + 2)
              have hrl := Row.lt hE
              simp only [vC] at g0 g1 g2
              have hW := Bx.mk ((hW0.out.set i hi ⟨Bv, C, S1⟩).fr0 ((Fr.refl S0 _).alloc (.cells #[.int .i64 2, .int .i64 (i : Int), .int .i64 Bv, .int .i64 C, .string S1, .string T1] 44)))
              obtain ⟨b0', hbl'⟩ := hW.out.boxed
              have hbr := hW0.out.rbb
              clear hw1 hE hA hW0
              go_wp2_with (first | (go_at_call 13; refine (sameCheckL hW.out).mono ?_; rintro e w9 ⟨rfl, hW6⟩; have hW := Bx.mk hW6; obtain ⟨b0, hbl⟩ := hW.out.boxed; clear hW6))
              go_roundw
              case rel => exact ⟨reg, rb, n, k + 1, rfl, rfl, by go_num, by omega, hW⟩
              case measure => simp [intOf]; omega
            · cases d1 : decide (0 ≤ A) <;> cases d2 : decide (A < 24) <;> cases d3 : decide (A < n)
              all_goals first | (exfalso; simp at d1 d2 d3; omega) | skip
              all_goals clear hA
              all_goals go_wp2_with (first | (go_at_call 13; refine (sameCheckL hW.out).mono ?_; rintro e w9 ⟨rfl, hW6⟩; have hW := Bx.mk hW6; obtain ⟨b0, hbl⟩ := hW.out.boxed; clear hW6))
              all_goals (
                go_roundw
                case rel => exact ⟨reg, rb, n, k + 1, rfl, rfl, by go_num, by omega, hW⟩
                case measure => simp [intOf]; omega)
          by_cases k3 : kd = 3
          · subst k3
            go_wp2_with (first
              | (go_at_call 15; refine (resizedL hW.out A).mono ?_; rintro e w8 ⟨g, m, rfl, hW6⟩; have hW := Bx.mk hW6; obtain ⟨b0, hbl⟩ := hW.out.boxed; clear hW6)
              | (go_at_call 13; refine (sameCheckL hW.out).mono ?_; rintro e w9 ⟨rfl, hW6⟩; have hW := Bx.mk hW6; obtain ⟨b0, hbl⟩ := hW.out.boxed; clear hW6))
            go_roundw
            case rel => exact ⟨reg, g, m, k + 1, rfl, rfl, by go_num, by omega, ⟨hW.out⟩⟩
            case measure => simp [intOf]; omega
          by_cases k4 : kd = 4
          · subst k4
            go_wp2_with (first
              | (go_at_call 16; refine (whole_str reg S1 _ hrg).mono ?_; rintro e w7 ⟨rfl, rfl⟩)
              | (go_at_call 17; refine (playCellL hW.out _ _).mono ?_; rintro e w8 ⟨rfl, hW6⟩; have hW := Bx.mk hW6; obtain ⟨b0, hbl⟩ := hW.out.boxed; clear hW6)
              | (go_at_call 13; refine (sameCheckL hW.out).mono ?_; rintro e w9 ⟨rfl, hW6⟩; have hW := Bx.mk hW6; obtain ⟨b0, hbl⟩ := hW.out.boxed; clear hW6))
            go_roundw
            case rel => exact ⟨es, rb, n, k + 1, rfl, rfl, by go_num, by omega, ⟨hW.out.reg es (by decide)⟩⟩
            case measure => simp [intOf]; omega
          by_cases k5 : kd = 5
          · subst k5
            go_wp2_with (first
              | (go_at_call 16; refine (whole_str reg S1 _ hrg).mono ?_; rintro e w7 ⟨rfl, rfl⟩)
              | (go_at_call 18; refine (sameReadsL hW.out _).mono ?_; rintro e w8 ⟨r, rfl, hW6⟩; have hW := Bx.mk hW6; obtain ⟨b0, hbl⟩ := hW.out.boxed; clear hW6)
              | (go_at_call 13; refine (sameCheckL hW.out).mono ?_; rintro e w9 ⟨rfl, hW6⟩; have hW := Bx.mk hW6; obtain ⟨b0, hbl⟩ := hW.out.boxed; clear hW6))
            go_roundw
            case rel => exact ⟨es, rb, n, k + 1, rfl, rfl, by go_num, by omega, ⟨hW.out.reg es (by decide)⟩⟩
            case measure => simp [intOf]; omega
          by_cases k6 : kd = 6
          · subst k6
            go_wp2_with (first
              | (go_at_call 13; refine (sameCheckL hW.out).mono ?_; rintro e w9 ⟨rfl, hW6⟩; have hW := Bx.mk hW6; obtain ⟨b0, hbl⟩ := hW.out.boxed; clear hW6))
            go_roundw
            case rel => exact ⟨reg, rb, n, k + 1, rfl, rfl, by go_num, by omega, ⟨hW.out⟩⟩
            case measure => simp [intOf]; omega
          have e1 : (kd == 1) = false := by simpa using k1
          have e2 : (kd == 2) = false := by simpa using k2
          have e3 : (kd == 3) = false := by simpa using k3
          have e4 : (kd == 4) = false := by simpa using k4
          have e5 : (kd == 5) = false := by simpa using k5
          have e6 : (kd == 6) = false := by simpa using k6
          go_wp2_with (first | (go_at_call 13; refine (sameCheckL hW.out).mono ?_; rintro e w9 ⟨rfl, hW6⟩; have hW := Bx.mk hW6; obtain ⟨b0, hbl⟩ := hW.out.boxed; clear hW6))
          go_roundw
          case rel => exact ⟨reg, rb, n, k + 1, rfl, rfl, by go_num, by omega, hW⟩
          case measure => simp [intOf]; omega
        · have hmkd : decide ((k : Int) < 4398046511104) = false := by simp; omega
          have hge : decide ((len : Int) < 4398046511104) = false := by simp; omega
          clear hmk'
          go_wp2_with fail
          go_ret2
          exact ⟨_, rfl, hfw.out⟩
      · have hlkd : decide ((k : Int) < (len : Int)) = false := by simp; omega
        by_cases hge : len < 4398046511104
        · have hged : decide ((len : Int) < 4398046511104) = true := by simp; omega
          clear hge
          go_wp2_with fail
          go_ret2
          exact ⟨_, rfl, hfw.out⟩
        · have hged : decide ((len : Int) < 4398046511104) = false := by simp; omega
          clear hge
          go_wp2_with fail
          go_ret2
          exact ⟨_, rfl, hfw.out⟩)
end Go.Proofs.Qxb6500331aGreat
