import Derived.Test.Qxb6500329aL10
namespace Go.Proofs.Qxb6500329a
set_option linter.unusedVariables false
set_option linter.unusedSimpArgs false
open Go.RowKit Go.PlainAid
/-- What the loop over the nodes keeps. -/
def BI (w : World) (g n cap : Nat) (L : List Nd) (root err pos : Int) (kk ii : Value) (wr : World) : Prop := ∃ (k i : Nat), kk = I k ∧ ii = I i ∧ i ≤ n ∧ k = brkTo L i ∧ k ≤ 3 * i ∧ Row wr w.heap.size 4 (trC (.slice (some ⟨g, 0, none⟩) n cap) root err pos) ∧ Fr S0 w wr
theorem brk_le (L : List Nd) (x : Nd) : brk L x ≤ 3 := by
  have hb : ∀ b, b2n b ≤ 1 := fun b => by cases b <;> decide
  unfold brk
  by_cases h6 : x.kind = 6
  · rw [if_pos h6, if_neg (by omega)]
    have := hb (x.kind == 8)
    have := hb (decide (level (nd L x.a.toNat) < 4))
    omega
  · rw [if_neg h6]
    by_cases h7 : x.kind = 7
    · rw [if_pos h7]
      have := hb (x.kind == 8)
      have := hb (decide (level (nd L x.b.toNat) < level x + 1))
      have := hb (decide (level (nd L x.a.toNat) < leftNeed (level x)))
      omega
    · rw [if_neg h7]
      have := hb (x.kind == 8)
      omega
set_option maxRecDepth 100000 in
set_option maxHeartbeats 8000000 in
theorem brackets_any (g cap : Nat) (L : List Nd) (root err pos : Int) (w : World) (hL : NL w (.slice (some ⟨g, 0, none⟩) L.length cap) L) (h24 : L.length ≤ 24) (hOK : ∀ i, i < L.length → NdOK L (nd L i)) :
    Calls Try.prog 54 #[treeV (.slice (some ⟨g, 0, none⟩) L.length cap) ⟨L, root, err, pos⟩] w fun e w' => e = .returned (I (brkTo L L.length)) ∧ Fr S0 w w' := by
  have hNB := Bx.mk (fun wx (f : Fr S0 w wx) i (hi : i < L.length) x (hx : nd L i = x) => (hL.fr0 f).node i hi hx)
  have hOB := Bx.mk hOK
  have hT0 := Bx.mk (tr_new w (.slice (some ⟨g, 0, none⟩) L.length cap) root err pos rfl)
  have hbk : Bx (∀ i, brkTo L (i + 1) = brkTo L i + brk L (nd L i)) := Bx.mk (fun i => rfl)
  clear hL hOK
  generalize hn : L.length = n at *
  go_enter Try.func54, Try.ntmps54
  go_wp2_with fail
  go_loopw [3, 4] (fun kk ii wr => BI w g n cap L root err pos kk ii wr) (fun _ ii _ => n - (intOf ii).toNat)
  case atStart => exact ⟨0, 0, rfl, rfl, Nat.zero_le _, rfl, Nat.le_refl _, hT0.out, (Fr.refl _ _).alloc _⟩
  case round =>
    obtain ⟨k, i, rfl, rfl, hi, hk, hk3, hT, hfr⟩ := hrel
    have t0 := hT.cell 0 (by omega)
    simp only [trC] at t0
    have hTB := Bx.mk hT
    by_cases hlt : i < n
    · have hd : decide ((i : Int) < (n : Int)) = true := decide_eq_true (by omega)
      have hd2 : decide (i < n) = true := decide_eq_true hlt
      have hiI : (i : Int) < (n : Int) := by omega
      obtain ⟨x, hx⟩ : ∃ x, nd L i = x := ⟨_, rfl⟩
      have hxOK := hOB.out i hlt
      rw [hx] at hxOK
      obtain ⟨k0, k1, k2, k3, k4, k5, k6, k7, k8, k9, k10, k11, k12⟩ := hNB.out wr hfr i hlt x hx
      have hkb := hbk.out i
      rw [hx, ← hk] at hkb
      have hk100 : k ≤ 72 := by omega
      have hb3 := brk_le L x
      have hnext : Bx (∀ q w2, q = k + brk L x → Fr S0 wr w2 → BI w g n cap L root err pos (I q) (I ((i + 1 : Nat) : Int)) w2) := Bx.mk (fun q w2 hq hf => ⟨q, i + 1, rfl, rfl, by omega, by rw [hq, hkb], by omega, hf.row0 hTB.out, hfr.trans hf⟩)
      have hii : ((i + 1 : Nat) : Int) = (i : Int) + 1 := by omega
      rw [hii] at hnext
      have hXr := Bx.mk (nd_new wr x)
      have hltw : w.heap.size < wr.heap.size := by have := hTB.out.lt; omega
      clear hT hx hkb hb3 hii hk hk3
      unfold brk at hnext
      by_cases h8 : x.kind = 8
      · have d8 : (x.kind == 8) = true := by simpa using h8
        have d6 : (x.kind == 6) = false := by simp [h8]
        have d7 : (x.kind == 7) = false := by simp [h8]
        have hnx := Bx.mk (fun w2 hf => hnext.out (k + 1) w2 (by rw [d8, if_neg (by omega), if_neg (by omega)]; rfl) hf)
        clear h8 hnext hxOK
        go_wp2_with fail
        go_roundw
        case rel => exact hnx.out _ ((Fr.refl _ _).alloc _)
        case measure => simp [intOf]; omega
      have d8 : (x.kind == 8) = false := by simpa using h8
      by_cases h6 : x.kind = 6
      · have d6 : (x.kind == 6) = true := by simpa using h6
        have d7 : (x.kind == 7) = false := by simp [h6]
        obtain ⟨xa0, xa1⟩ := hxOK.a (.inl h6)
        obtain ⟨a, ha⟩ : ∃ a : Nat, x.a = a := ⟨x.a.toNat, by omega⟩
        have haL : a < n := by omega
        have haI : (a : Int) < (n : Int) := by omega
        obtain ⟨y, hy⟩ : ∃ y, nd L a = y := ⟨_, rfl⟩
        obtain ⟨m0, m1, m2, m3, m4, m5, m6, m7, m8, m9, m10, m11, m12⟩ := hNB.out wr hfr a haL y hy
        obtain ⟨p0, p1, p2, p3, p4, p5, p6, p7, p8, p9, p10, p11, p12⟩ := hNB.out (wr.alloc (ndB x)) (hfr.alloc _) a haL y hy
        have haB := Bx.mk ha
        have hst := Bx.mk (fun wx => str_any y wx)
        rw [ha] at k2
        have hnd : ndB x = .cells #[I x.kind, I x.op, I (a : Int), I x.b, I x.n, I x.r1.col, I x.r1.row, .bool x.r1.absC, .bool x.r1.absR, I x.r2.col, I x.r2.row, .bool x.r2.absC, .bool x.r2.absR] 44 := by rw [← ha]
        have hT1 := Bx.mk (hTB.out.alloc (ndB x))
        rw [hnd] at p0 p1 p2 p3 p4 p5 p6 p7 p8 p9 p10 p11 p12 hT1
        have v0 := hT1.out.cell 0 (by omega)
        simp only [trC] at v0
        cases hq : decide (level y < 4)
        · have hnx := Bx.mk (fun w2 hf => hnext.out (k) w2 (by rw [d8, if_pos h6, if_neg (by omega), haB.out, show ((a : Int)).toNat = a from by omega, hy, hq]; rfl) hf)
          clear h6 hnext hxOK ha hy xa0 xa1 h8
          go_wp2_with (first | (go_at_call 66; refine (hst.out _).mono ?_; clear hst; rintro e w1 ⟨rfl, hf1⟩; have hX1 := Bx.mk (hf1.row0 (by rw [← hnd]; exact hXr.out)); have x0 := hX1.out.cell 0 (by omega); simp only [ndC] at x0))
          go_roundw
          case rel => exact hnx.out _ (((Fr.refl _ _).alloc _).trans hf1)
          case measure => simp [intOf]; omega
        · have hnx := Bx.mk (fun w2 hf => hnext.out (k + 1) w2 (by rw [d8, if_pos h6, if_neg (by omega), haB.out, show ((a : Int)).toNat = a from by omega, hy, hq]; rfl) hf)
          clear h6 hnext hxOK ha hy xa0 xa1 h8
          go_wp2_with (first | (go_at_call 66; refine (hst.out _).mono ?_; clear hst; rintro e w1 ⟨rfl, hf1⟩; have hX1 := Bx.mk (hf1.row0 (by rw [← hnd]; exact hXr.out)); have x0 := hX1.out.cell 0 (by omega); simp only [ndC] at x0))
          go_roundw
          case rel => exact hnx.out _ (((Fr.refl _ _).alloc _).trans hf1)
          case measure => simp [intOf]; omega
      have d6 : (x.kind == 6) = false := by simpa using h6
      by_cases h7 : x.kind = 7
      · have d7 : (x.kind == 7) = true := by simpa using h7
        obtain ⟨xa0, xa1⟩ := hxOK.a (.inr (.inl h7))
        obtain ⟨xb0, xb1⟩ := hxOK.b7 h7
        obtain ⟨a, ha⟩ : ∃ a : Nat, x.a = a := ⟨x.a.toNat, by omega⟩
        obtain ⟨b, hb⟩ : ∃ b : Nat, x.b = b := ⟨x.b.toNat, by omega⟩
        have haL : a < n := by omega
        have haI : (a : Int) < (n : Int) := by omega
        have hbL : b < n := by omega
        have hbI : (b : Int) < (n : Int) := by omega
        obtain ⟨y, hy⟩ : ∃ y, nd L a = y := ⟨_, rfl⟩
        obtain ⟨z, hz⟩ : ∃ z, nd L b = z := ⟨_, rfl⟩
        have hya := Bx.mk (fun wx f => hNB.out wx f a haL y hy)
        have hzb := Bx.mk (fun wx f => hNB.out wx f b hbL z hz)
        have haB := Bx.mk ha
        have hbB := Bx.mk hb
        have hsty := Bx.mk (fun wx => str_any y wx)
        have hstz := Bx.mk (fun wx => str_any z wx)
        rw [ha] at k2
        rw [hb] at k3
        have hnd : ndB x = .cells #[I x.kind, I x.op, I (a : Int), I (b : Int), I x.n, I x.r1.col, I x.r1.row, .bool x.r1.absC, .bool x.r1.absR, I x.r2.col, I x.r2.row, .bool x.r2.absC, .bool x.r2.absR] 44 := by rw [← ha, ← hb]
        have hT1 := Bx.mk (hTB.out.alloc (ndB x))
        have hXn := Bx.mk hXr.out
        have hfa := Bx.mk (hfr.alloc (ndB x))
        rw [hnd] at hT1 hXn hfa
        have hss : 1 ≤ level x ∧ level x ≤ 5 := by rw [level_eq]; rw [if_neg h6, if_pos h7]; unfold strength; split; decide; split <;> decide
        obtain ⟨hss1, hss2⟩ := hss
        have hln : Bx (leftNeed (level x) = if level x = 1 then 2 else level x) := Bx.mk rfl
        have hag : Bx (ndV x = .agg #[I x.kind, I x.op, I (a : Int), I (b : Int), I x.n, I x.r1.col, I x.r1.row, .bool x.r1.absC, .bool x.r1.absR, I x.r2.col, I x.r2.row, .bool x.r2.absC, .bool x.r2.absR]) := Bx.mk (by rw [← ha, ← hb])
        have hstx := Bx.mk (fun wx => str_any x wx)
        rw [hag.out] at hstx
        have hnx0 := Bx.mk (fun q w2 (hq : q = k + (b2n (decide (level z < level x + 1)) + b2n (decide (level y < (if level x = 1 then 2 else level x))))) hf => hnext.out q w2 (by rw [hq, d8, if_neg h6, if_pos h7, haB.out, hbB.out, show ((a : Int)).toNat = a from by omega, show ((b : Int)).toNat = b from by omega, hy, hz]; have e0 : b2n false = 0 := rfl; rw [e0]; unfold leftNeed; omega) hf)
        clear h6 h7 h8 hnext hxOK ha hb hy hz xa0 xa1 xb0 xb1 hln
        generalize level x = sg at *
        cases hs1 : (sg == 1)
        · have e1 : ¬ sg = 1 := by simpa using hs1
          rw [if_neg e1] at hnx0
          cases hq1 : decide (level z < sg + 1) <;> cases hq2 : decide (level y < sg)
          · have hnx := Bx.mk (fun w2 hf => hnx0.out (k) w2 (by rw [hq1, hq2]; rfl) hf)
            clear hnx0 e1
            go_wp2_with (first
              | (go_at_call 66; refine (hstx.out _).mono ?_; clear hstx; rintro e w1 ⟨rfl, hf1⟩; have hT2 := Bx.mk (hf1.row0 hT1.out); have u0 := hT2.out.cell 0 (by omega); have hX2 := Bx.mk (hf1.row0 hXn.out); have x2 := hX2.out.cell 2 (by omega); have x3 := hX2.out.cell 3 (by omega); simp only [trC] at u0; simp only [ndC] at x2 x3; rw [haB.out] at x2; rw [hbB.out] at x3; have hf1' := Bx.mk (hfa.out.trans hf1); obtain ⟨m0, m1, m2, m3, m4, m5, m6, m7, m8, m9, m10, m11, m12⟩ := hya.out _ hf1'.out)
              | (go_at_call 66; refine (hsty.out _).mono ?_; clear hsty; rintro e w2 ⟨rfl, hf2⟩; have hT3 := Bx.mk (hf2.row0 hT2.out); clear u0; have u0 := hT3.out.cell 0 (by omega); have hX3 := Bx.mk (hf2.row0 hX2.out); clear x2 x3; have x3 := hX3.out.cell 3 (by omega); simp only [trC] at u0; simp only [ndC] at x3; rw [hbB.out] at x3; clear m0 m1 m2 m3 m4 m5 m6 m7 m8 m9 m10 m11 m12; obtain ⟨m0, m1, m2, m3, m4, m5, m6, m7, m8, m9, m10, m11, m12⟩ := hzb.out _ (hf1'.out.trans hf2))
              | (go_at_call 66; refine (hstz.out _).mono ?_; clear hstz; rintro e w3 ⟨rfl, hf3⟩))
            go_roundw
            case rel => exact hnx.out _ ((((Fr.refl _ _).alloc _).trans hf1).trans hf2 |>.trans hf3)
            case measure => simp [intOf]; omega
          · have hnx := Bx.mk (fun w2 hf => hnx0.out (k + 1) w2 (by rw [hq1, hq2]; rfl) hf)
            clear hnx0 e1
            go_wp2_with (first
              | (go_at_call 66; refine (hstx.out _).mono ?_; clear hstx; rintro e w1 ⟨rfl, hf1⟩; have hT2 := Bx.mk (hf1.row0 hT1.out); have u0 := hT2.out.cell 0 (by omega); have hX2 := Bx.mk (hf1.row0 hXn.out); have x2 := hX2.out.cell 2 (by omega); have x3 := hX2.out.cell 3 (by omega); simp only [trC] at u0; simp only [ndC] at x2 x3; rw [haB.out] at x2; rw [hbB.out] at x3; have hf1' := Bx.mk (hfa.out.trans hf1); obtain ⟨m0, m1, m2, m3, m4, m5, m6, m7, m8, m9, m10, m11, m12⟩ := hya.out _ hf1'.out)
              | (go_at_call 66; refine (hsty.out _).mono ?_; clear hsty; rintro e w2 ⟨rfl, hf2⟩; have hT3 := Bx.mk (hf2.row0 hT2.out); clear u0; have u0 := hT3.out.cell 0 (by omega); have hX3 := Bx.mk (hf2.row0 hX2.out); clear x2 x3; have x3 := hX3.out.cell 3 (by omega); simp only [trC] at u0; simp only [ndC] at x3; rw [hbB.out] at x3; clear m0 m1 m2 m3 m4 m5 m6 m7 m8 m9 m10 m11 m12; obtain ⟨m0, m1, m2, m3, m4, m5, m6, m7, m8, m9, m10, m11, m12⟩ := hzb.out _ (hf1'.out.trans hf2))
              | (go_at_call 66; refine (hstz.out _).mono ?_; clear hstz; rintro e w3 ⟨rfl, hf3⟩))
            go_roundw
            case rel => exact hnx.out _ ((((Fr.refl _ _).alloc _).trans hf1).trans hf2 |>.trans hf3)
            case measure => simp [intOf]; omega
          · have hnx := Bx.mk (fun w2 hf => hnx0.out (k + 1) w2 (by rw [hq1, hq2]; rfl) hf)
            clear hnx0 e1
            go_wp2_with (first
              | (go_at_call 66; refine (hstx.out _).mono ?_; clear hstx; rintro e w1 ⟨rfl, hf1⟩; have hT2 := Bx.mk (hf1.row0 hT1.out); have u0 := hT2.out.cell 0 (by omega); have hX2 := Bx.mk (hf1.row0 hXn.out); have x2 := hX2.out.cell 2 (by omega); have x3 := hX2.out.cell 3 (by omega); simp only [trC] at u0; simp only [ndC] at x2 x3; rw [haB.out] at x2; rw [hbB.out] at x3; have hf1' := Bx.mk (hfa.out.trans hf1); obtain ⟨m0, m1, m2, m3, m4, m5, m6, m7, m8, m9, m10, m11, m12⟩ := hya.out _ hf1'.out)
              | (go_at_call 66; refine (hsty.out _).mono ?_; clear hsty; rintro e w2 ⟨rfl, hf2⟩; have hT3 := Bx.mk (hf2.row0 hT2.out); clear u0; have u0 := hT3.out.cell 0 (by omega); have hX3 := Bx.mk (hf2.row0 hX2.out); clear x2 x3; have x3 := hX3.out.cell 3 (by omega); simp only [trC] at u0; simp only [ndC] at x3; rw [hbB.out] at x3; clear m0 m1 m2 m3 m4 m5 m6 m7 m8 m9 m10 m11 m12; obtain ⟨m0, m1, m2, m3, m4, m5, m6, m7, m8, m9, m10, m11, m12⟩ := hzb.out _ (hf1'.out.trans hf2))
              | (go_at_call 66; refine (hstz.out _).mono ?_; clear hstz; rintro e w3 ⟨rfl, hf3⟩))
            go_roundw
            case rel => exact hnx.out _ ((((Fr.refl _ _).alloc _).trans hf1).trans hf2 |>.trans hf3)
            case measure => simp [intOf]; omega
          · have hnx := Bx.mk (fun w2 hf => hnx0.out (k + 1 + 1) w2 (by rw [hq1, hq2]; rfl) hf)
            clear hnx0 e1
            go_wp2_with (first
              | (go_at_call 66; refine (hstx.out _).mono ?_; clear hstx; rintro e w1 ⟨rfl, hf1⟩; have hT2 := Bx.mk (hf1.row0 hT1.out); have u0 := hT2.out.cell 0 (by omega); have hX2 := Bx.mk (hf1.row0 hXn.out); have x2 := hX2.out.cell 2 (by omega); have x3 := hX2.out.cell 3 (by omega); simp only [trC] at u0; simp only [ndC] at x2 x3; rw [haB.out] at x2; rw [hbB.out] at x3; have hf1' := Bx.mk (hfa.out.trans hf1); obtain ⟨m0, m1, m2, m3, m4, m5, m6, m7, m8, m9, m10, m11, m12⟩ := hya.out _ hf1'.out)
              | (go_at_call 66; refine (hsty.out _).mono ?_; clear hsty; rintro e w2 ⟨rfl, hf2⟩; have hT3 := Bx.mk (hf2.row0 hT2.out); clear u0; have u0 := hT3.out.cell 0 (by omega); have hX3 := Bx.mk (hf2.row0 hX2.out); clear x2 x3; have x3 := hX3.out.cell 3 (by omega); simp only [trC] at u0; simp only [ndC] at x3; rw [hbB.out] at x3; clear m0 m1 m2 m3 m4 m5 m6 m7 m8 m9 m10 m11 m12; obtain ⟨m0, m1, m2, m3, m4, m5, m6, m7, m8, m9, m10, m11, m12⟩ := hzb.out _ (hf1'.out.trans hf2))
              | (go_at_call 66; refine (hstz.out _).mono ?_; clear hstz; rintro e w3 ⟨rfl, hf3⟩))
            go_roundw
            case rel => exact hnx.out _ ((((Fr.refl _ _).alloc _).trans hf1).trans hf2 |>.trans hf3)
            case measure => simp [intOf]; omega
        · have e1 : sg = 1 := by simpa using hs1
          rw [if_pos e1] at hnx0
          subst e1
          rw [show (1 : Int) + 1 = 2 from rfl] at hnx0
          clear hs1
          cases hq1 : decide (level z < 2) <;> cases hq2 : decide (level y < 2)
          · have hnx := Bx.mk (fun w2 hf => hnx0.out (k) w2 (by rw [hq1, hq2]; rfl) hf)
            clear hnx0
            go_wp2_with (first
              | (go_at_call 66; refine (hstx.out _).mono ?_; clear hstx; rintro e w1 ⟨rfl, hf1⟩; have hT2 := Bx.mk (hf1.row0 hT1.out); have u0 := hT2.out.cell 0 (by omega); have hX2 := Bx.mk (hf1.row0 hXn.out); have x2 := hX2.out.cell 2 (by omega); have x3 := hX2.out.cell 3 (by omega); simp only [trC] at u0; simp only [ndC] at x2 x3; rw [haB.out] at x2; rw [hbB.out] at x3; have hf1' := Bx.mk (hfa.out.trans hf1); obtain ⟨m0, m1, m2, m3, m4, m5, m6, m7, m8, m9, m10, m11, m12⟩ := hya.out _ hf1'.out)
              | (go_at_call 66; refine (hsty.out _).mono ?_; clear hsty; rintro e w2 ⟨rfl, hf2⟩; have hT3 := Bx.mk (hf2.row0 hT2.out); clear u0; have u0 := hT3.out.cell 0 (by omega); have hX3 := Bx.mk (hf2.row0 hX2.out); clear x2 x3; have x3 := hX3.out.cell 3 (by omega); simp only [trC] at u0; simp only [ndC] at x3; rw [hbB.out] at x3; clear m0 m1 m2 m3 m4 m5 m6 m7 m8 m9 m10 m11 m12; obtain ⟨m0, m1, m2, m3, m4, m5, m6, m7, m8, m9, m10, m11, m12⟩ := hzb.out _ (hf1'.out.trans hf2))
              | (go_at_call 66; refine (hstz.out _).mono ?_; clear hstz; rintro e w3 ⟨rfl, hf3⟩))
            go_roundw
            case rel => exact hnx.out _ ((((Fr.refl _ _).alloc _).trans hf1).trans hf2 |>.trans hf3)
            case measure => simp [intOf]; omega
          · have hnx := Bx.mk (fun w2 hf => hnx0.out (k + 1) w2 (by rw [hq1, hq2]; rfl) hf)
            clear hnx0
            go_wp2_with (first
              | (go_at_call 66; refine (hstx.out _).mono ?_; clear hstx; rintro e w1 ⟨rfl, hf1⟩; have hT2 := Bx.mk (hf1.row0 hT1.out); have u0 := hT2.out.cell 0 (by omega); have hX2 := Bx.mk (hf1.row0 hXn.out); have x2 := hX2.out.cell 2 (by omega); have x3 := hX2.out.cell 3 (by omega); simp only [trC] at u0; simp only [ndC] at x2 x3; rw [haB.out] at x2; rw [hbB.out] at x3; have hf1' := Bx.mk (hfa.out.trans hf1); obtain ⟨m0, m1, m2, m3, m4, m5, m6, m7, m8, m9, m10, m11, m12⟩ := hya.out _ hf1'.out)
              | (go_at_call 66; refine (hsty.out _).mono ?_; clear hsty; rintro e w2 ⟨rfl, hf2⟩; have hT3 := Bx.mk (hf2.row0 hT2.out); clear u0; have u0 := hT3.out.cell 0 (by omega); have hX3 := Bx.mk (hf2.row0 hX2.out); clear x2 x3; have x3 := hX3.out.cell 3 (by omega); simp only [trC] at u0; simp only [ndC] at x3; rw [hbB.out] at x3; clear m0 m1 m2 m3 m4 m5 m6 m7 m8 m9 m10 m11 m12; obtain ⟨m0, m1, m2, m3, m4, m5, m6, m7, m8, m9, m10, m11, m12⟩ := hzb.out _ (hf1'.out.trans hf2))
              | (go_at_call 66; refine (hstz.out _).mono ?_; clear hstz; rintro e w3 ⟨rfl, hf3⟩))
            go_roundw
            case rel => exact hnx.out _ ((((Fr.refl _ _).alloc _).trans hf1).trans hf2 |>.trans hf3)
            case measure => simp [intOf]; omega
          · have hnx := Bx.mk (fun w2 hf => hnx0.out (k + 1) w2 (by rw [hq1, hq2]; rfl) hf)
            clear hnx0
            go_wp2_with (first
              | (go_at_call 66; refine (hstx.out _).mono ?_; clear hstx; rintro e w1 ⟨rfl, hf1⟩; have hT2 := Bx.mk (hf1.row0 hT1.out); have u0 := hT2.out.cell 0 (by omega); have hX2 := Bx.mk (hf1.row0 hXn.out); have x2 := hX2.out.cell 2 (by omega); have x3 := hX2.out.cell 3 (by omega); simp only [trC] at u0; simp only [ndC] at x2 x3; rw [haB.out] at x2; rw [hbB.out] at x3; have hf1' := Bx.mk (hfa.out.trans hf1); obtain ⟨m0, m1, m2, m3, m4, m5, m6, m7, m8, m9, m10, m11, m12⟩ := hya.out _ hf1'.out)
              | (go_at_call 66; refine (hsty.out _).mono ?_; clear hsty; rintro e w2 ⟨rfl, hf2⟩; have hT3 := Bx.mk (hf2.row0 hT2.out); clear u0; have u0 := hT3.out.cell 0 (by omega); have hX3 := Bx.mk (hf2.row0 hX2.out); clear x2 x3; have x3 := hX3.out.cell 3 (by omega); simp only [trC] at u0; simp only [ndC] at x3; rw [hbB.out] at x3; clear m0 m1 m2 m3 m4 m5 m6 m7 m8 m9 m10 m11 m12; obtain ⟨m0, m1, m2, m3, m4, m5, m6, m7, m8, m9, m10, m11, m12⟩ := hzb.out _ (hf1'.out.trans hf2))
              | (go_at_call 66; refine (hstz.out _).mono ?_; clear hstz; rintro e w3 ⟨rfl, hf3⟩))
            go_roundw
            case rel => exact hnx.out _ ((((Fr.refl _ _).alloc _).trans hf1).trans hf2 |>.trans hf3)
            case measure => simp [intOf]; omega
          · have hnx := Bx.mk (fun w2 hf => hnx0.out (k + 1 + 1) w2 (by rw [hq1, hq2]; rfl) hf)
            clear hnx0
            go_wp2_with (first
              | (go_at_call 66; refine (hstx.out _).mono ?_; clear hstx; rintro e w1 ⟨rfl, hf1⟩; have hT2 := Bx.mk (hf1.row0 hT1.out); have u0 := hT2.out.cell 0 (by omega); have hX2 := Bx.mk (hf1.row0 hXn.out); have x2 := hX2.out.cell 2 (by omega); have x3 := hX2.out.cell 3 (by omega); simp only [trC] at u0; simp only [ndC] at x2 x3; rw [haB.out] at x2; rw [hbB.out] at x3; have hf1' := Bx.mk (hfa.out.trans hf1); obtain ⟨m0, m1, m2, m3, m4, m5, m6, m7, m8, m9, m10, m11, m12⟩ := hya.out _ hf1'.out)
              | (go_at_call 66; refine (hsty.out _).mono ?_; clear hsty; rintro e w2 ⟨rfl, hf2⟩; have hT3 := Bx.mk (hf2.row0 hT2.out); clear u0; have u0 := hT3.out.cell 0 (by omega); have hX3 := Bx.mk (hf2.row0 hX2.out); clear x2 x3; have x3 := hX3.out.cell 3 (by omega); simp only [trC] at u0; simp only [ndC] at x3; rw [hbB.out] at x3; clear m0 m1 m2 m3 m4 m5 m6 m7 m8 m9 m10 m11 m12; obtain ⟨m0, m1, m2, m3, m4, m5, m6, m7, m8, m9, m10, m11, m12⟩ := hzb.out _ (hf1'.out.trans hf2))
              | (go_at_call 66; refine (hstz.out _).mono ?_; clear hstz; rintro e w3 ⟨rfl, hf3⟩))
            go_roundw
            case rel => exact hnx.out _ ((((Fr.refl _ _).alloc _).trans hf1).trans hf2 |>.trans hf3)
            case measure => simp [intOf]; omega
      have d7 : (x.kind == 7) = false := by simpa using h7
      have hnx := Bx.mk (fun w2 hf => hnext.out k w2 (by rw [d8, if_neg h6, if_neg h7]; rfl) hf)
      clear h6 h7 h8 hnext hxOK
      go_wp2_with fail
      go_roundw
      case rel => exact hnx.out _ ((Fr.refl _ _).alloc _)
      case measure => simp [intOf]; omega
    · have hd : decide ((i : Int) < (n : Int)) = false := decide_eq_false (by omega)
      have hd2 : decide (i < n) = false := decide_eq_false hlt
      have hin : i = n := by omega
      have hkB : Bx (k = brkTo L n) := Bx.mk (by rw [hk, hin])
      clear hk hin
      go_wp2_with fail
      go_ret
      rw [hkB.out]
      exact ⟨rfl, hfr⟩
end Go.Proofs.Qxb6500329a
