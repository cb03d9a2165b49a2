import Derived.Test.Qxb6500326aGreatZ6
import Derived.Test.Qxb6500326aGreatX21
namespace Go.Proofs.Qxb6500326aGreat
set_option linter.unusedVariables false
set_option linter.unusedSimpArgs false
open Go.RowKit Go.PlainAid
/-- What fill's loop keeps. -/
def FIz (w : World) (B : FB) (g cap : Nat) (L : List Nd) (T' : List Int) (ii : Value) (wr : World) : Prop := ∃ (k : Nat) (N N' : Notes) (T : List Int), ii = I ((k : Int) - 1) ∧ k ≤ L.length ∧ Fill L 0 k ⟨T, N⟩ ⟨T', N'⟩ ∧ FP wr B N T ∧ NL wr (.slice (some ⟨g, 0, none⟩) L.length cap) L ∧ Fr (FmS B) w wr
theorem FZ.start {w : World} {B : FB} (h : FZ w B) : ∃ N, FP (w.setCell ⟨B.f, 16, none⟩ (I 288)) B N [] := by
  obtain ⟨F, hF, n1, n2, n3, n4⟩ := h
  refine ⟨fun j => (F.nup j, F.nbrk j), { F with wp := 288 }, hF.set (F' := { F with wp := 288 }) 16 (I 288) (by intro i hi; rcases i with _ | _ | _ | _ | _ | _ | _ | _ | _ | _ | _ | _ | _ | _ | _ | _ | _ | i <;> first | rfl | omega) rfl rfl rfl rfl rfl rfl rfl, rfl, fun j x hx => (by simp at hx), fun j => rfl, n1, n2, n3, n4⟩
theorem FP.fz {w : World} {B : FB} {N : Notes} {T : List Int} (h : FP w B N T) : FZ w B := by
  obtain ⟨F, hF, -, -, -, n1, n2, n3, n4⟩ := h; exact ⟨F, hF, n1, n2, n3, n4⟩
theorem FP.outs {w : World} {B : FB} {N : Notes} {T : List Int} (h : FP w B N T) : ∃ q : Nat, q + T.length = 288 ∧ w.cell? ⟨B.f, 15, none⟩ = some (sl B.u 288 288) ∧ w.cell? ⟨B.f, 16, none⟩ = some (I q) ∧ ∀ j (hj : j < T.length), w.cell? ⟨B.u, q + j, none⟩ = some (Y T[j]) := by
  obtain ⟨F, hF, hl, ho, -⟩ := h
  have c15 := hF.row.cell 15 (by omega)
  have c16 := hF.row.cell 16 (by omega)
  simp only [fmC] at c15 c16
  refine ⟨F.wp, hl, c15, c16, fun j hj => ?_⟩
  rw [hF.out.cell (F.wp + j) (by omega), ho j T[j] (List.getElem?_eq_getElem hj)]
set_option maxRecDepth 100000 in
set_option maxHeartbeats 16000000 in
theorem fillX (B : FB) (g cap : Nat) (L : List Nd) (w : World) (hz : FZ w B) (hL : NL w (.slice (some ⟨g, 0, none⟩) L.length cap) L) (hgB : ¬ FmS B g) (h24 : L.length ≤ 24) (hsp : Sp L L.length (L.length - 1) 0 false) :
    Calls Tryz.prog 163 #[pt B.f, .slice (some ⟨g, 0, none⟩) L.length cap] w fun e w' => e = .returned (.string (bs (tx L (L.length - 1) 1))) ∧ FZ w' B ∧ Fr (FmS B) w w' := by
  have hlt := hsp.lt
  have h1 : 1 ≤ L.length := by omega
  obtain ⟨N0, hP0⟩ := hz.start
  obtain ⟨N', hFill⟩ := fill_all hsp N0
  have hTl := sp_len L.length (L.length - 1) 0 false 1 (by decide) hsp
  have hTl2 : (tx L (L.length - 1) 1).length ≤ 264 := by omega
  have hOK : ∀ i, i < L.length → NdOK L (nd L i) := fun i hi => sp_nd _ _ _ _ hsp i (Nat.zero_le _) (by omega)
  have hbytes : (tx L (L.length - 1) 1) ≠ [] := by
    exact tx_ne (by decide) hsp
  generalize tx L (L.length - 1) 1 = T' at *
  obtain ⟨F, hF, -⟩ := hz
  have c14 := hF.row.cell 14 (by omega)
  have c15 := hF.row.cell 15 (by omega)
  have c16 := hF.row.cell 16 (by omega)
  have z16 := hF.row.frozen 16
  simp only [fmC] at c14 c15 c16
  obtain ⟨q, hq⟩ : ∃ q, L.length = q + 1 := ⟨L.length - 1, by omega⟩
  have hP1 := hP0.note q (-1) false
  have e0 := hF.notes.cell0 q (by omega) (by omega)
  have e1 := hF.notes.cell q 1 (by omega) (by omega)
  have y0 := hF.notes.frozen (q * 2)
  have y1 := hF.notes.frozen (q * 2 + 1)
  simp only [ntC] at e0 e1
  have fn := hF.ok.fn
  have hfr1 : Fr (FmS B) w (sets (w.setCell ⟨B.f, 16, none⟩ (I 288)) B.n (q * 2) [I (-1), .bool false]) := ((Fr.refl (FmS B) w).fm 16 _).fmN _ _
  have hst : FIz w B g cap L T' (I (q : Int)) (sets (w.setCell ⟨B.f, 16, none⟩ (I 288)) B.n (q * 2) [I (-1), .bool false]) := ⟨q + 1, _, N', [], by rw [show ((q + 1 : Nat) : Int) - 1 = (q : Int) from by omega], by omega, by rw [hq, Nat.add_sub_cancel] at hFill; exact hFill, hP1, hL.fr hfr1 (fun k hk => by have : g = k := Option.some.inj hk; rw [← this]; exact hgB), hfr1⟩
  have hOB := Bx.mk hOK
  have hgb := Bx.mk hgB
  have hTne := Bx.mk hbytes
  have hstB := Bx.mk hst
  have hq24 : (q : Int) < 24 := by omega
  clear hL hF hP0 hP1 hFill hTl hOK hbytes hgB hst hfr1 hsp hlt
  have hnB := Bx.mk hq
  rw [hq] at h24 h1 ⊢
  clear hq
  go_enter Tryz.func163, Tryz.ntmps163
  go_wp2_with fail
  go_loopw [5] (fun ii wr => FIz w B g cap L T' ii wr) (fun ii _ => ((intOf ii) + 1).toNat)
  case atStart => exact hstB.out
  case round =>
    clear c14 c15 c16 z16 e0 e1 y0 y1 fn hstB
    obtain ⟨k, N, Ne, T, rfl, hk, hFi, hP, hNL, hfr⟩ := hrel
    cases k with
    | zero =>
      have hTT : T = T' := by have : (⟨T, N⟩ : FS) = ⟨T', Ne⟩ := hFi; injection this
      subst hTT
      obtain ⟨r, hr, d15, d16, hcs⟩ := hP.outs
      have hTp : 0 < T.length := by have := hTne.out; cases T; exact absurd rfl this; simp
      have hr1 : (r : Int) ≤ 288 := by omega
      have hr2 : ¬ 288 = r := by omega
      have hr3 : r < 288 := by omega
      have hr4 : (r : Int) < 288 := by omega
      have hd : decide ((0 : Int) ≤ ((0 : Nat) : Int) - 1) = false := by decide
      have hrun : ∀ k, (convert 81 9 (.slice (some ⟨B.u, r, none⟩) (288 - r) (288 - r))).run Tryz.prog (wr.drewN k) = .ok (.string (bs T)) (wr.drewN k) := fun k => run_bytes_str (wr.drewN k) B.u r (288 - r) (288 - r) T (by omega) hcs
      have hrun1 : (convert 81 9 (.slice (some ⟨B.u, r, none⟩) (288 - r) (288 - r))).run Tryz.prog wr.drew = .ok (.string (bs T)) wr.drew := run_bytes_str wr.drew B.u r (288 - r) (288 - r) T (by omega) hcs
      have hrun0 : (convert 81 9 (.slice (some ⟨B.u, r, none⟩) (288 - r) (288 - r))).run Tryz.prog wr = .ok (.string (bs T)) wr := run_bytes_str wr B.u r (288 - r) (288 - r) T (by omega) hcs
      have hPB := Bx.mk hP
      clear hP hNL hFi hcs hr hTne
      go_wp2_with fail
      go_quiet (fail)
      go_wp2_with fail
      go_ret
      exact ⟨rfl, (hPB.out.fr0 ((Fr.refl _ _).drewN _)).fz, hfr.drewN _⟩
    | succ k =>
      obtain ⟨s1, hTu, hF2⟩ := hFi
      rw [Nat.zero_add] at hTu
      have hkk : ((k + 1 : Nat) : Int) - 1 = (k : Int) := by omega
      rw [hkk]
      clear hkk
      have hd : decide ((0 : Int) ≤ (k : Int)) = true := decide_eq_true (by omega)
      obtain ⟨V1, hV1⟩ := fill_grows _ hF2
      obtain ⟨V2, hV2⟩ := turn_grows hTu
      have hs1 : s1.T.length ≤ 264 := by have : T' = V1 ++ s1.T := hV1; rw [this] at hTl2; simp at hTl2; omega
      have hTl : T.length ≤ 264 := by have : s1.T = V2 ++ T := hV2; rw [this] at hs1; simp at hs1; omega
      have hkL : k < L.length := by omega
      have hxOK := hOB.out k hkL
      have hnl := hnB.out
      have hk24 : (k : Int) < 24 := by omega
      have hkq : (k : Int) < ((q + 1 : Nat) : Int) := by omega
      have hNLk : Bx (∀ w2, Fr (FmS B) wr w2 → NL w2 (.slice (some ⟨g, 0, none⟩) L.length cap) L) := Bx.mk (fun w2 hf => hNL.fr hf (fun j hj => by have : g = j := Option.some.inj hj; rw [← this]; exact hgb.out))
      have hkid : Bx (∀ (z : Int) (Nn : Notes) (U : List Int) (need : Int) wx, 0 ≤ z → z < (L.length : Int) → FP wx B Nn U → Fr (FmS B) wr wx → Calls Tryz.prog 204 #[pt B.f, .slice (some ⟨g, 0, none⟩) (q + 1) cap, I z, I k, I need] wx (Puts wx B (kid L Nn z.toNat k need) U)) := Bx.mk (fun z Nn U need wx z0 z1 hx hf => by
        have h := kidX B Nn U g cap L z.toNat k need wx hx (hNLk.out wx hf) (by omega) (by omega)
        rw [show ((z.toNat : Nat) : Int) = z from by omega, hnl] at h
        exact h)
      have hclimb : Bx (∀ (U : List Int) (m : Nat) wx, FP wx B N U → climbF L N m k U = some s1.T → Fr (FmS B) wr wx → Calls Tryz.prog 206 #[pt B.f, .slice (some ⟨g, 0, none⟩) (q + 1) cap, I k] wx (Puts wx B N s1.T)) := Bx.mk (fun U m wx hx hc hf => by
        have h := climbX B N U s1.T g cap k m L wx hx (hNLk.out wx hf) hgb.out (by omega) hs1 hkL hc hOB.out
        rw [hnl] at h
        exact h)
      have hnext : Bx (∀ w2, FP w2 B s1.N s1.T → Fr (FmS B) wr w2 → FIz w B g cap L T' (I ((k : Int) - 1)) w2) := Bx.mk (fun w2 h1 h3 => ⟨k, s1.N, Ne, s1.T, rfl, by omega, hF2, h1, hNLk.out w2 h3, hfr.trans h3⟩)
      obtain ⟨x, hx⟩ : ∃ x, nd L k = x := ⟨_, rfl⟩
      obtain ⟨k0, k1, k2, k3, k4, k5, k6, k7, k8, k9, k10, k11, k12⟩ := hNL.node k hkL hx
      have hleaf := turn_leaf hTu
      rw [hx] at hxOK hleaf
      unfold Turn at hTu
      simp only [] at hTu
      rw [hx] at hTu
      have hA := Bx.mk (hP.alloc (ndB x))
      obtain ⟨c14, a0, a1, -, -, -⟩ := hP.cells k (by omega)
      obtain ⟨d14, b0, b1, -, -, -⟩ := hA.out.cells k (by omega)
      have lB : B.f < wr.heap.size := (by obtain ⟨F, hF, -⟩ := hP; exact hF.lts.1)
      have lN : B.n < wr.heap.size := (by obtain ⟨F, hF, -⟩ := hP; exact hF.lts.2.2.2.2.2.1)
      have hput := Bx.mk (fun U wx (hx : FP wx B N U) (hl : U.length < 288) => putX B N U 41 wx hx (by decide) hl)
      have hRx := Bx.mk (nd_new wr x)
      have hwb := Bx.mk (hP.lts (Nat.le_refl wr.heap.size))
      have hst : Bx (∀ wx, Calls Tryz.prog 191 #[I x.op] wx (fun e w' => e = .returned (I (strength x.op)) ∧ wx = w')) := Bx.mk (fun wx => strength_any x.op wx)
      clear hP hNL hF2 hV1 hV2 hx hnl hNLk
      by_cases h6 : x.kind = 6
      · rw [if_pos h6] at hTu
        have d6 : (x.kind == 6) = true := by simpa using h6
        have d8 : (x.kind == 8) = false := by simp [h6]
        obtain ⟨xa0, xa1⟩ := hxOK.a (.inl h6)
        clear hxOK hleaf
        cases hbr : (N k).2 with
        | true =>
          rw [hbr] at hTu a1 b1
          rw [if_pos (.inl rfl)] at hTu
          have hnx := Bx.mk (fun w2 => hnext.out w2)
          rw [hTu] at hnx
          clear hTu hnext hclimb h6
          go_wp2_with (first | (go_at_call 203; refine (hput.out T _ hA.out (by omega)).mono ?_; rintro e w1 ⟨rfl, hP1, hf1⟩; have hX1 := Bx.mk (hf1.row hRx.out hwb.out); have hP1 := Bx.mk hP1; clear hA; obtain ⟨x0, x1, x2, x3, x4, x5, x6, x7, x8, x9, x10, x11, x12⟩ := RowNd hX1.out) | (go_at_call 204; refine (hkid.out x.a N (41 :: T) 4 _ xa0 xa1 hP1.out (((Fr.refl (FmS B) wr).alloc (ndB x)).trans hf1)).mono ?_; rintro e w2 ⟨rfl, hP2, hf2⟩; have hX2 := Bx.mk (hf2.row hX1.out hwb.out); have hP2 := Bx.mk hP2; clear hP1; obtain ⟨x0, x1, x2, x3, x4, x5, x6, x7, x8, x9, x10, x11, x12⟩ := RowNd hX2.out))
          go_roundw
          case rel => exact hnx.out _ hP2.out ((((Fr.refl (FmS B) wr).alloc (ndB x)).trans hf1).trans hf2)
          case measure => (simp [intOf]; try omega)
        | false =>
          rw [hbr] at hTu a1 b1
          rw [if_neg (by rintro (e | e); cases e; omega)] at hTu
          have hnx := Bx.mk (fun w2 => hnext.out w2)
          rw [hTu] at hnx
          clear hTu hnext hclimb h6
          go_wp2_with (first | (go_at_call 204; refine (hkid.out x.a N (T) 4 _ xa0 xa1 hA.out ((Fr.refl (FmS B) wr).alloc (ndB x))).mono ?_; rintro e w1 ⟨rfl, hP1, hf1⟩; have hX1 := Bx.mk (hf1.row hRx.out hwb.out); have hP1 := Bx.mk hP1; clear hA; obtain ⟨x0, x1, x2, x3, x4, x5, x6, x7, x8, x9, x10, x11, x12⟩ := RowNd hX1.out))
          go_roundw
          case rel => exact hnx.out _ hP1.out (((Fr.refl (FmS B) wr).alloc (ndB x)).trans hf1)
          case measure => (simp [intOf]; try omega)
      rw [if_neg h6] at hTu
      have d6 : (x.kind == 6) = false := by simpa using h6
      by_cases h7 : x.kind = 7
      · rw [if_pos h7] at hTu
        have d7 : (x.kind == 7) = true := by simpa using h7
        have d8 : (x.kind == 8) = false := by simp [h7]
        obtain ⟨xa0, xa1⟩ := hxOK.a (.inr (.inl h7))
        obtain ⟨xb0, xb1⟩ := hxOK.b7 h7
        clear hxOK hleaf
        have hsb : 1 ≤ strength x.op ∧ strength x.op ≤ 3 := by unfold strength; split; decide; split <;> decide
        obtain ⟨sb0, sb1⟩ := hsb
        by_cases hs : strength x.op = 1
        · have ds : (strength x.op == 1) = true := by simpa using hs
          have hln : leftNeed (strength x.op) = 2 := by unfold leftNeed; rw [if_pos hs]
          rw [hln] at hTu
          rw [hs] at hst hTu
          clear hs ds hln sb0 sb1
          cases hbr : (N k).2 with
          | true =>
            rw [hbr] at hTu a1 b1
            rw [if_pos (.inl rfl)] at hTu
            have hnx := Bx.mk (fun w2 => hnext.out w2)
            rw [hTu] at hnx
            clear hTu hnext hclimb h7
            go_wp2_with (first | (go_at_call 203; refine (hput.out T _ hA.out (by omega)).mono ?_; rintro e w1 ⟨rfl, hP1, hf1⟩; have hX1 := Bx.mk (hf1.row hRx.out hwb.out); have hP1 := Bx.mk hP1; clear hA; obtain ⟨x0, x1, x2, x3, x4, x5, x6, x7, x8, x9, x10, x11, x12⟩ := RowNd hX1.out) | (go_at_call 191; refine (hst.out _).mono ?_; rintro e w' ⟨rfl, rfl⟩) | (go_at_call 204; refine (hkid.out x.b N (41 :: T) 2 _ xb0 xb1 hP1.out (((Fr.refl (FmS B) wr).alloc (ndB x)).trans hf1)).mono ?_; rintro e w2 ⟨rfl, hP2, hf2⟩; have hX2 := Bx.mk (hf2.row hX1.out hwb.out); have hP2 := Bx.mk hP2; clear hP1; obtain ⟨x0, x1, x2, x3, x4, x5, x6, x7, x8, x9, x10, x11, x12⟩ := RowNd hX2.out) | (go_at_call 204; refine (hkid.out x.a _ (41 :: T) 2 _ xa0 xa1 hP2.out ((((Fr.refl (FmS B) wr).alloc (ndB x)).trans hf1).trans hf2)).mono ?_; rintro e w3 ⟨rfl, hP3, hf3⟩; have hX3 := Bx.mk (hf3.row hX2.out hwb.out); have hP3 := Bx.mk hP3; clear hP2; obtain ⟨x0, x1, x2, x3, x4, x5, x6, x7, x8, x9, x10, x11, x12⟩ := RowNd hX3.out))
            go_roundw
            case rel => exact hnx.out _ hP3.out (((((Fr.refl (FmS B) wr).alloc (ndB x)).trans hf1).trans hf2).trans hf3)
            case measure => (simp [intOf]; try omega)
          | false =>
            rw [hbr] at hTu a1 b1
            rw [if_neg (by rintro (e | e); cases e; omega)] at hTu
            have hnx := Bx.mk (fun w2 => hnext.out w2)
            rw [hTu] at hnx
            clear hTu hnext hclimb h7
            go_wp2_with (first | (go_at_call 191; refine (hst.out _).mono ?_; rintro e w' ⟨rfl, rfl⟩) | (go_at_call 204; refine (hkid.out x.b N (T) 2 _ xb0 xb1 hA.out ((Fr.refl (FmS B) wr).alloc (ndB x))).mono ?_; rintro e w1 ⟨rfl, hP1, hf1⟩; have hX1 := Bx.mk (hf1.row hRx.out hwb.out); have hP1 := Bx.mk hP1; clear hA; obtain ⟨x0, x1, x2, x3, x4, x5, x6, x7, x8, x9, x10, x11, x12⟩ := RowNd hX1.out) | (go_at_call 204; refine (hkid.out x.a _ (T) 2 _ xa0 xa1 hP1.out (((Fr.refl (FmS B) wr).alloc (ndB x)).trans hf1)).mono ?_; rintro e w2 ⟨rfl, hP2, hf2⟩; have hX2 := Bx.mk (hf2.row hX1.out hwb.out); have hP2 := Bx.mk hP2; clear hP1; obtain ⟨x0, x1, x2, x3, x4, x5, x6, x7, x8, x9, x10, x11, x12⟩ := RowNd hX2.out))
            go_roundw
            case rel => exact hnx.out _ hP2.out ((((Fr.refl (FmS B) wr).alloc (ndB x)).trans hf1).trans hf2)
            case measure => (simp [intOf]; try omega)
        · have ds : (strength x.op == 1) = false := by simpa using hs
          have hln : leftNeed (strength x.op) = strength x.op := by unfold leftNeed; rw [if_neg hs]
          rw [hln] at hTu
          generalize strength x.op = sg at *
          clear hs hln
          cases hbr : (N k).2 with
          | true =>
            rw [hbr] at hTu a1 b1
            rw [if_pos (.inl rfl)] at hTu
            have hnx := Bx.mk (fun w2 => hnext.out w2)
            rw [hTu] at hnx
            clear hTu hnext hclimb h7
            go_wp2_with (first | (go_at_call 203; refine (hput.out T _ hA.out (by omega)).mono ?_; rintro e w1 ⟨rfl, hP1, hf1⟩; have hX1 := Bx.mk (hf1.row hRx.out hwb.out); have hP1 := Bx.mk hP1; clear hA; obtain ⟨x0, x1, x2, x3, x4, x5, x6, x7, x8, x9, x10, x11, x12⟩ := RowNd hX1.out) | (go_at_call 191; refine (hst.out _).mono ?_; rintro e w' ⟨rfl, rfl⟩) | (go_at_call 204; refine (hkid.out x.b N (41 :: T) (sg + 1) _ xb0 xb1 hP1.out (((Fr.refl (FmS B) wr).alloc (ndB x)).trans hf1)).mono ?_; rintro e w2 ⟨rfl, hP2, hf2⟩; have hX2 := Bx.mk (hf2.row hX1.out hwb.out); have hP2 := Bx.mk hP2; clear hP1; obtain ⟨x0, x1, x2, x3, x4, x5, x6, x7, x8, x9, x10, x11, x12⟩ := RowNd hX2.out) | (go_at_call 204; refine (hkid.out x.a _ (41 :: T) sg _ xa0 xa1 hP2.out ((((Fr.refl (FmS B) wr).alloc (ndB x)).trans hf1).trans hf2)).mono ?_; rintro e w3 ⟨rfl, hP3, hf3⟩; have hX3 := Bx.mk (hf3.row hX2.out hwb.out); have hP3 := Bx.mk hP3; clear hP2; obtain ⟨x0, x1, x2, x3, x4, x5, x6, x7, x8, x9, x10, x11, x12⟩ := RowNd hX3.out))
            go_roundw
            case rel => exact hnx.out _ hP3.out (((((Fr.refl (FmS B) wr).alloc (ndB x)).trans hf1).trans hf2).trans hf3)
            case measure => (simp [intOf]; try omega)
          | false =>
            rw [hbr] at hTu a1 b1
            rw [if_neg (by rintro (e | e); cases e; omega)] at hTu
            have hnx := Bx.mk (fun w2 => hnext.out w2)
            rw [hTu] at hnx
            clear hTu hnext hclimb h7
            go_wp2_with (first | (go_at_call 191; refine (hst.out _).mono ?_; rintro e w' ⟨rfl, rfl⟩) | (go_at_call 204; refine (hkid.out x.b N (T) (sg + 1) _ xb0 xb1 hA.out ((Fr.refl (FmS B) wr).alloc (ndB x))).mono ?_; rintro e w1 ⟨rfl, hP1, hf1⟩; have hX1 := Bx.mk (hf1.row hRx.out hwb.out); have hP1 := Bx.mk hP1; clear hA; obtain ⟨x0, x1, x2, x3, x4, x5, x6, x7, x8, x9, x10, x11, x12⟩ := RowNd hX1.out) | (go_at_call 204; refine (hkid.out x.a _ (T) sg _ xa0 xa1 hP1.out (((Fr.refl (FmS B) wr).alloc (ndB x)).trans hf1)).mono ?_; rintro e w2 ⟨rfl, hP2, hf2⟩; have hX2 := Bx.mk (hf2.row hX1.out hwb.out); have hP2 := Bx.mk hP2; clear hP1; obtain ⟨x0, x1, x2, x3, x4, x5, x6, x7, x8, x9, x10, x11, x12⟩ := RowNd hX2.out))
            go_roundw
            case rel => exact hnx.out _ hP2.out ((((Fr.refl (FmS B) wr).alloc (ndB x)).trans hf1).trans hf2)
            case measure => (simp [intOf]; try omega)
      rw [if_neg h7] at hTu
      have d7 : (x.kind == 7) = false := by simpa using h7
      by_cases h8 : x.kind = 8
      · rw [if_pos h8] at hTu
        have d8 : (x.kind == 8) = true := by simpa using h8
        obtain ⟨xa0, xa1⟩ := hxOK.a (.inr (.inr (.inl h8)))
        clear hxOK hleaf
        cases hbr : (N k).2 with
        | true =>
          rw [hbr] at hTu a1 b1
          rw [if_pos (.inr h8)] at hTu
          have hnx := Bx.mk (fun w2 => hnext.out w2)
          rw [hTu] at hnx
          clear hTu hnext hclimb h8
          go_wp2_with (first | (go_at_call 203; refine (hput.out T _ hA.out (by omega)).mono ?_; rintro e w1 ⟨rfl, hP1, hf1⟩; have hX1 := Bx.mk (hf1.row hRx.out hwb.out); have hP1 := Bx.mk hP1; clear hA; obtain ⟨x0, x1, x2, x3, x4, x5, x6, x7, x8, x9, x10, x11, x12⟩ := RowNd hX1.out) | (go_at_call 204; refine (hkid.out x.a N (41 :: T) 1 _ xa0 xa1 hP1.out (((Fr.refl (FmS B) wr).alloc (ndB x)).trans hf1)).mono ?_; rintro e w2 ⟨rfl, hP2, hf2⟩; have hX2 := Bx.mk (hf2.row hX1.out hwb.out); have hP2 := Bx.mk hP2; clear hP1; obtain ⟨x0, x1, x2, x3, x4, x5, x6, x7, x8, x9, x10, x11, x12⟩ := RowNd hX2.out))
          go_roundw
          case rel => exact hnx.out _ hP2.out ((((Fr.refl (FmS B) wr).alloc (ndB x)).trans hf1).trans hf2)
          case measure => (simp [intOf]; try omega)
        | false =>
          rw [hbr] at hTu a1 b1
          rw [if_pos (.inr h8)] at hTu
          have hnx := Bx.mk (fun w2 => hnext.out w2)
          rw [hTu] at hnx
          clear hTu hnext hclimb h8
          go_wp2_with (first | (go_at_call 203; refine (hput.out T _ hA.out (by omega)).mono ?_; rintro e w1 ⟨rfl, hP1, hf1⟩; have hX1 := Bx.mk (hf1.row hRx.out hwb.out); have hP1 := Bx.mk hP1; clear hA; obtain ⟨x0, x1, x2, x3, x4, x5, x6, x7, x8, x9, x10, x11, x12⟩ := RowNd hX1.out) | (go_at_call 204; refine (hkid.out x.a N (41 :: T) 1 _ xa0 xa1 hP1.out (((Fr.refl (FmS B) wr).alloc (ndB x)).trans hf1)).mono ?_; rintro e w2 ⟨rfl, hP2, hf2⟩; have hX2 := Bx.mk (hf2.row hX1.out hwb.out); have hP2 := Bx.mk hP2; clear hP1; obtain ⟨x0, x1, x2, x3, x4, x5, x6, x7, x8, x9, x10, x11, x12⟩ := RowNd hX2.out))
          go_roundw
          case rel => exact hnx.out _ hP2.out ((((Fr.refl (FmS B) wr).alloc (ndB x)).trans hf1).trans hf2)
          case measure => (simp [intOf]; try omega)
      rw [if_neg h8] at hTu
      have d8 : (x.kind == 8) = false := by simpa using h8
      by_cases h9 : x.kind = 9
      · rw [if_pos h9] at hTu
        have d9 : (x.kind == 9) = true := by simpa using h9
        obtain ⟨xa0, xa1⟩ := hxOK.a (.inr (.inr (.inr h9)))
        have xb1 := hxOK.b9 h9
        clear hxOK hleaf
        by_cases hb : 0 ≤ x.b
        · have db : decide (0 ≤ x.b) = true := decide_eq_true hb
          rw [if_pos hb] at hTu
          cases hbr : (N k).2 with
          | true =>
            rw [hbr] at hTu a1 b1
            rw [if_pos (.inl rfl)] at hTu
            have hnx := Bx.mk (fun w2 => hnext.out w2)
            rw [hTu] at hnx
            clear hTu hnext hclimb h9
            go_wp2_with (first | (go_at_call 203; refine (hput.out T _ hA.out (by omega)).mono ?_; rintro e w1 ⟨rfl, hP1, hf1⟩; have hX1 := Bx.mk (hf1.row hRx.out hwb.out); have hP1 := Bx.mk hP1; clear hA; obtain ⟨x0, x1, x2, x3, x4, x5, x6, x7, x8, x9, x10, x11, x12⟩ := RowNd hX1.out) | (go_at_call 204; refine (hkid.out x.a N (41 :: T) 1 _ xa0 xa1 hP1.out (((Fr.refl (FmS B) wr).alloc (ndB x)).trans hf1)).mono ?_; rintro e w2 ⟨rfl, hP2, hf2⟩; have hX2 := Bx.mk (hf2.row hX1.out hwb.out); have hP2 := Bx.mk hP2; clear hP1; obtain ⟨x0, x1, x2, x3, x4, x5, x6, x7, x8, x9, x10, x11, x12⟩ := RowNd hX2.out) | (go_at_call 204; refine (hkid.out x.b _ (41 :: T) 1 _ hb xb1 hP2.out ((((Fr.refl (FmS B) wr).alloc (ndB x)).trans hf1).trans hf2)).mono ?_; rintro e w3 ⟨rfl, hP3, hf3⟩; have hX3 := Bx.mk (hf3.row hX2.out hwb.out); have hP3 := Bx.mk hP3; clear hP2; obtain ⟨x0, x1, x2, x3, x4, x5, x6, x7, x8, x9, x10, x11, x12⟩ := RowNd hX3.out))
            go_roundw
            case rel => exact hnx.out _ hP3.out (((((Fr.refl (FmS B) wr).alloc (ndB x)).trans hf1).trans hf2).trans hf3)
            case measure => (simp [intOf]; try omega)
          | false =>
            rw [hbr] at hTu a1 b1
            rw [if_neg (by rintro (e | e); cases e; omega)] at hTu
            have hnx := Bx.mk (fun w2 => hnext.out w2)
            rw [hTu] at hnx
            clear hTu hnext hclimb h9
            go_wp2_with (first | (go_at_call 204; refine (hkid.out x.a N (T) 1 _ xa0 xa1 hA.out ((Fr.refl (FmS B) wr).alloc (ndB x))).mono ?_; rintro e w1 ⟨rfl, hP1, hf1⟩; have hX1 := Bx.mk (hf1.row hRx.out hwb.out); have hP1 := Bx.mk hP1; clear hA; obtain ⟨x0, x1, x2, x3, x4, x5, x6, x7, x8, x9, x10, x11, x12⟩ := RowNd hX1.out) | (go_at_call 204; refine (hkid.out x.b _ (T) 1 _ hb xb1 hP1.out (((Fr.refl (FmS B) wr).alloc (ndB x)).trans hf1)).mono ?_; rintro e w2 ⟨rfl, hP2, hf2⟩; have hX2 := Bx.mk (hf2.row hX1.out hwb.out); have hP2 := Bx.mk hP2; clear hP1; obtain ⟨x0, x1, x2, x3, x4, x5, x6, x7, x8, x9, x10, x11, x12⟩ := RowNd hX2.out))
            go_roundw
            case rel => exact hnx.out _ hP2.out ((((Fr.refl (FmS B) wr).alloc (ndB x)).trans hf1).trans hf2)
            case measure => (simp [intOf]; try omega)
        · have db : decide (0 ≤ x.b) = false := decide_eq_false hb
          rw [if_neg hb] at hTu
          cases hbr : (N k).2 with
          | true =>
            rw [hbr] at hTu a1 b1
            rw [if_pos (.inl rfl)] at hTu
            have hnx := Bx.mk (fun w2 => hnext.out w2)
            rw [hTu] at hnx
            clear hTu hnext hclimb h9
            go_wp2_with (first | (go_at_call 203; refine (hput.out T _ hA.out (by omega)).mono ?_; rintro e w1 ⟨rfl, hP1, hf1⟩; have hX1 := Bx.mk (hf1.row hRx.out hwb.out); have hP1 := Bx.mk hP1; clear hA; obtain ⟨x0, x1, x2, x3, x4, x5, x6, x7, x8, x9, x10, x11, x12⟩ := RowNd hX1.out) | (go_at_call 204; refine (hkid.out x.a N (41 :: T) 1 _ xa0 xa1 hP1.out (((Fr.refl (FmS B) wr).alloc (ndB x)).trans hf1)).mono ?_; rintro e w2 ⟨rfl, hP2, hf2⟩; have hX2 := Bx.mk (hf2.row hX1.out hwb.out); have hP2 := Bx.mk hP2; clear hP1; obtain ⟨x0, x1, x2, x3, x4, x5, x6, x7, x8, x9, x10, x11, x12⟩ := RowNd hX2.out))
            go_roundw
            case rel => exact hnx.out _ hP2.out ((((Fr.refl (FmS B) wr).alloc (ndB x)).trans hf1).trans hf2)
            case measure => (simp [intOf]; try omega)
          | false =>
            rw [hbr] at hTu a1 b1
            rw [if_neg (by rintro (e | e); cases e; omega)] at hTu
            have hnx := Bx.mk (fun w2 => hnext.out w2)
            rw [hTu] at hnx
            clear hTu hnext hclimb h9
            go_wp2_with (first | (go_at_call 204; refine (hkid.out x.a N (T) 1 _ xa0 xa1 hA.out ((Fr.refl (FmS B) wr).alloc (ndB x))).mono ?_; rintro e w1 ⟨rfl, hP1, hf1⟩; have hX1 := Bx.mk (hf1.row hRx.out hwb.out); have hP1 := Bx.mk hP1; clear hA; obtain ⟨x0, x1, x2, x3, x4, x5, x6, x7, x8, x9, x10, x11, x12⟩ := RowNd hX1.out))
            go_roundw
            case rel => exact hnx.out _ hP1.out (((Fr.refl (FmS B) wr).alloc (ndB x)).trans hf1)
            case measure => (simp [intOf]; try omega)
      have d9 : (x.kind == 9) = false := by simpa using h9
      have hlx := hxOK.leaf h6 h7 h8 h9
      obtain ⟨hNe, m, hcm⟩ := hleaf h6 h7 h8 h9
      clear hTu hxOK hleaf h6 h7 h8 h9
      have hle := Bx.mk (fun U wx (hx : FP wx B N U) (hl : U.length + 20 ≤ 288) => leafX B N U x wx hx hlx hl)
      rw [show s1.N = N from hNe] at hnext
      have hnx := Bx.mk (fun w2 => hnext.out w2)
      clear hlx hnext hNe
      cases hbr : (N k).2 with
      | true =>
        rw [show ((⟨T, N⟩ : FS).N k).2 = true from hbr] at hcm
        rw [hbr] at a1 b1
        rw [if_pos rfl] at hcm
        have hcB := Bx.mk hcm
        clear hcm
        go_wp2_with (first | (go_at_call 203; refine (hput.out T _ hA.out (by omega)).mono ?_; rintro e w1 ⟨rfl, hP1, hf1⟩; have hX1 := Bx.mk (hf1.row hRx.out hwb.out); have hP1 := Bx.mk hP1; clear hA; obtain ⟨x0, x1, x2, x3, x4, x5, x6, x7, x8, x9, x10, x11, x12⟩ := RowNd hX1.out) | (go_at_call 205; refine (hle.out (41 :: T) _ hP1.out (by simp; omega)).mono ?_; rintro e w2 ⟨rfl, hP2, hf2⟩; have hX2 := Bx.mk (hf2.row hX1.out hwb.out); have hP2 := Bx.mk hP2; clear hP1; obtain ⟨x0, x1, x2, x3, x4, x5, x6, x7, x8, x9, x10, x11, x12⟩ := RowNd hX2.out) | (go_at_call 206; refine (hclimb.out (leafTxt x ++ (41 :: T)) m _ hP2.out hcB.out ((((Fr.refl (FmS B) wr).alloc (ndB x)).trans hf1).trans hf2)).mono ?_; rintro e w3 ⟨rfl, hP3, hf3⟩; have hX3 := Bx.mk (hf3.row hX2.out hwb.out); have hP3 := Bx.mk hP3; clear hP2; obtain ⟨x0, x1, x2, x3, x4, x5, x6, x7, x8, x9, x10, x11, x12⟩ := RowNd hX3.out))
        go_roundw
        case rel => exact hnx.out _ hP3.out (((((Fr.refl (FmS B) wr).alloc (ndB x)).trans hf1).trans hf2).trans hf3)
        case measure => (simp [intOf]; try omega)
      | false =>
        rw [show ((⟨T, N⟩ : FS).N k).2 = false from hbr] at hcm
        rw [hbr] at a1 b1
        rw [if_neg (by decide)] at hcm
        have hcB := Bx.mk hcm
        clear hcm
        go_wp2_with (first | (go_at_call 205; refine (hle.out (T) _ hA.out (by omega)).mono ?_; rintro e w1 ⟨rfl, hP1, hf1⟩; have hX1 := Bx.mk (hf1.row hRx.out hwb.out); have hP1 := Bx.mk hP1; clear hA; obtain ⟨x0, x1, x2, x3, x4, x5, x6, x7, x8, x9, x10, x11, x12⟩ := RowNd hX1.out) | (go_at_call 206; refine (hclimb.out (leafTxt x ++ (T)) m _ hP1.out hcB.out (((Fr.refl (FmS B) wr).alloc (ndB x)).trans hf1)).mono ?_; rintro e w2 ⟨rfl, hP2, hf2⟩; have hX2 := Bx.mk (hf2.row hX1.out hwb.out); have hP2 := Bx.mk hP2; clear hP1; obtain ⟨x0, x1, x2, x3, x4, x5, x6, x7, x8, x9, x10, x11, x12⟩ := RowNd hX2.out))
        go_roundw
        case rel => exact hnx.out _ hP2.out ((((Fr.refl (FmS B) wr).alloc (ndB x)).trans hf1).trans hf2)
        case measure => (simp [intOf]; try omega)
end Go.Proofs.Qxb6500326aGreat
