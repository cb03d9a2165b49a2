import Derived.Test.Qxb6500326aGreatZ4
namespace Go.Proofs.Qxb6500326aGreat
set_option linter.unusedVariables false
set_option linter.unusedSimpArgs false
open Go.RowKit Go.PlainAid
/-- What fill and climb want of a node. -/
structure NdOK (L : List Nd) (x : Nd) : Prop where
  a : x.kind = 6 ∨ x.kind = 7 ∨ x.kind = 8 ∨ x.kind = 9 → 0 ≤ x.a ∧ x.a < (L.length : Int)
  b7 : x.kind = 7 → 0 ≤ x.b ∧ x.b < (L.length : Int)
  b9 : x.kind = 9 → x.b < (L.length : Int)
  op : x.kind = 7 → 1 ≤ x.op ∧ x.op ≤ 10
  leaf : x.kind ≠ 6 → x.kind ≠ 7 → x.kind ≠ 8 → x.kind ≠ 9 → LeafX x
theorem NL.node {w : World} {g cap : Nat} {L : List Nd} (h : NL w (.slice (some ⟨g, 0, none⟩) L.length cap) L) (p : Nat) (hp : p < L.length) {x : Nd} (hx : nd L p = x) :
    w.cell? ⟨g, p * 13, none⟩ = some (I x.kind) ∧ w.cell? ⟨g, p * 13 + 1, none⟩ = some (I x.op) ∧ w.cell? ⟨g, p * 13 + 2, none⟩ = some (I x.a) ∧ w.cell? ⟨g, p * 13 + 3, none⟩ = some (I x.b) ∧ w.cell? ⟨g, p * 13 + 4, none⟩ = some (I x.n) ∧ w.cell? ⟨g, p * 13 + 5, none⟩ = some (I x.r1.col) ∧ w.cell? ⟨g, p * 13 + 6, none⟩ = some (I x.r1.row) ∧ w.cell? ⟨g, p * 13 + 7, none⟩ = some (.bool x.r1.absC) ∧ w.cell? ⟨g, p * 13 + 8, none⟩ = some (.bool x.r1.absR) ∧ w.cell? ⟨g, p * 13 + 9, none⟩ = some (I x.r2.col) ∧ w.cell? ⟨g, p * 13 + 10, none⟩ = some (I x.r2.row) ∧ w.cell? ⟨g, p * 13 + 11, none⟩ = some (.bool x.r2.absC) ∧ w.cell? ⟨g, p * 13 + 12, none⟩ = some (.bool x.r2.absR) := by
  have hg : L[p] = x := by rw [← hx]; unfold nd; rw [List.getElem?_eq_getElem hp]; rfl
  have h0 := h.cell p 0 hp (by omega) (I x.kind) (by rw [hg]; rfl)
  rw [Nat.add_zero] at h0
  exact ⟨h0, h.cell p 1 hp (by omega) _ (by rw [hg]; rfl), h.cell p 2 hp (by omega) _ (by rw [hg]; rfl), h.cell p 3 hp (by omega) _ (by rw [hg]; rfl), h.cell p 4 hp (by omega) _ (by rw [hg]; rfl), h.cell p 5 hp (by omega) _ (by rw [hg]; rfl), h.cell p 6 hp (by omega) _ (by rw [hg]; rfl), h.cell p 7 hp (by omega) _ (by rw [hg]; rfl), h.cell p 8 hp (by omega) _ (by rw [hg]; rfl), h.cell p 9 hp (by omega) _ (by rw [hg]; rfl), h.cell p 10 hp (by omega) _ (by rw [hg]; rfl), h.cell p 11 hp (by omega) _ (by rw [hg]; rfl), h.cell p 12 hp (by omega) _ (by rw [hg]; rfl)⟩
/-- One step up, as climbF says it. -/
theorem climb_cases {L : List Nd} {N : Notes} {m c : Nat} {T T' : List Int} (h : climbF L N m c T = some T') :
    ((N c).1 < 0 ∧ T = T') ∨ (∃ (p m' : Nat), (N c).1 = (p : Int) ∧ c < p ∧ p < L.length ∧
      (let go := fun T => climbF L N m' p (if (N p).2 = true then 40 :: T else T)
      (if (nd L p).kind = 6 then go (45 :: T)
      else if (nd L p).kind = 7 then (if (c : Int) = (nd L p).b then some (opTxt (nd L p).op ++ T) else go T)
      else if (nd L p).kind = 9 then (if (c : Int) = (nd L p).a ∧ 0 ≤ (nd L p).b then some (44 :: T) else go T)
      else go (fnName (nd L p).op ++ 40 :: T)) = some T')) := by
  cases m with
  | zero => simp [climbF] at h
  | succ m =>
    unfold climbF at h
    by_cases h1 : (N c).1 < 0
    · rw [if_pos h1] at h; injection h with h; exact .inl ⟨h1, h⟩
    · rw [if_neg h1] at h
      by_cases h2 : (N c).1 ≤ (c : Int) ∨ (L.length : Int) ≤ (N c).1
      · rw [if_pos h2] at h; cases h
      · rw [if_neg h2] at h
        exact .inr ⟨(N c).1.toNat, m, by omega, by omega, by omega, h⟩
theorem fnName_len (f : Int) : (fnName f).length ≤ 5 := by
  unfold fnName
  repeat' split
  all_goals simp
/-- What climb's loop keeps. -/
def CI (w : World) (B : FB) (N : Notes) (g cap : Nat) (L : List Nd) (T' : List Int) (cc : Value) (wr : World) : Prop := ∃ (c m : Nat) (T : List Int), cc = I c ∧ c < L.length ∧ climbF L N m c T = some T' ∧ FP wr B N T ∧ NL wr (.slice (some ⟨g, 0, none⟩) L.length cap) L ∧ Fr (FmS B) w wr
set_option maxRecDepth 100000 in
set_option maxHeartbeats 8000000 in
theorem climbX (B : FB) (N : Notes) (T0 T' : List Int) (g cap c0 m0 : Nat) (L : List Nd) (w : World) (h : FP w B N T0) (hL : NL w (.slice (some ⟨g, 0, none⟩) L.length cap) L) (hgB : ¬ FmS B g) (h24 : L.length ≤ 24) (hT' : T'.length ≤ 264) (hc0 : c0 < L.length) (hcl : climbF L N m0 c0 T0 = some T') (hOK : ∀ i, i < L.length → NdOK L (nd L i)) :
    Calls Tryz.prog 206 #[pt B.f, .slice (some ⟨g, 0, none⟩) L.length cap, I c0] w (Puts w B N T') := by
  have hst : CI w B N g cap L T' (I c0) w := ⟨c0, m0, T0, rfl, hc0, hcl, h, hL, Fr.refl _ _⟩
  have hOB := Bx.mk hOK
  have hgb := Bx.mk hgB
  clear h hL hcl hOK hc0 hgB
  generalize hn : L.length = n at *
  have hnB := Bx.mk hn
  clear hn
  go_enter Tryz.func206, Tryz.ntmps206
  go_wp2_with fail
  go_loopw [2] (fun cc wr => CI w B N g cap L T' cc wr) (fun cc _ => n - (intOf cc).toNat)
  case atStart => exact hst
  case round =>
    clear hst
    obtain ⟨c, m, T, rfl, hc, hcl, hP, hNL, hfr⟩ := hrel
    have hbc := hP.cells c (by rw [hnB.out] at hc; omega)
    obtain ⟨c14, a0, a1, z0, z1, fn⟩ := hbc
    have hnl := hnB.out
    have hcn : (c : Int) < (n : Int) := by omega
    have hc24 : (c : Int) < 24 := by omega
    obtain ⟨V, hV⟩ := climb_grows _ _ _ _ hcl
    have hTl : T.length ≤ 264 := by rw [hV] at hT'; simp at hT'; omega
    clear hV
    rcases climb_cases hcl with ⟨hu, rfl⟩ | ⟨p, m', hp, hcp, hpL, hgo⟩
    · have hud : decide ((0 : Int) ≤ (N c).1) = false := decide_eq_false (by omega)
      have hPB := Bx.mk hP
      generalize (N c).1 = up at *
      clear hP hNL hcl hu hnl hc
      go_wp2_with fail
      go_end0
      exact ⟨rfl, hPB.out, hfr⟩
    · rw [hp] at a0
      have hud : decide ((0 : Int) ≤ (p : Int)) = true := decide_eq_true (by omega)
      have hbp := Bx.mk (fun wx U (hx : FP wx B N U) => hx.cells p (by omega))
      have hxOK := hOB.out p (by omega)
      obtain ⟨x, hx⟩ : ∃ x, nd L p = x := ⟨_, rfl⟩
      rw [hx] at hgo hxOK
      obtain ⟨k0, k1, k2, k3, k4, k5, k6, k7, k8, k9, k10, k11, k12⟩ := hNL.node p hpL hx
      have hpn : (p : Int) < (n : Int) := by omega
      have hp24 : (p : Int) < 24 := by omega
      have hNLB := Bx.mk hNL
      have hA := Bx.mk (hP.alloc (ndB x))
      have hput := Bx.mk (fun b U wx (hx : FP wx B N U) (hb : 0 ≤ b ∧ b ≤ 255) (hl : U.length < 288) => putX B N U b wx hx hb hl)
      have hRx := Bx.mk (nd_new wr x)
      have hwb := Bx.mk (hP.lts (Nat.le_refl wr.heap.size))
      have hNL2 : Bx (∀ w2, Fr (FmS B) wr w2 → NL w2 (.slice (some ⟨g, 0, none⟩) n cap) L) := Bx.mk (fun w2 hf => by have h := hNL.fr hf (fun k hk => by have : g = k := Option.some.inj hk; rw [← this]; exact hgb.out); rw [hnB.out] at h; exact h)
      have hnext : Bx (∀ U w2, FP w2 B N (if (N p).2 = true then 40 :: U else U) → climbF L N m' p (if (N p).2 = true then 40 :: U else U) = some T' → Fr (FmS B) wr w2 → CI w B N g cap L T' (I p) w2) := Bx.mk (fun U w2 h1 h2 h3 => ⟨p, m', _, rfl, hpL, h2, h1, by rw [hnB.out]; exact hNL2.out w2 h3, hfr.trans h3⟩)
      have hmeas : n - p < n - c := by omega
      have hgoT : Bx (∀ U, climbF L N m' p (if (N p).2 = true then 40 :: U else U) = some T' → U.length ≤ 264) := Bx.mk (fun U hU => by
        obtain ⟨V, hV⟩ := climb_grows _ _ _ _ hU
        have : (if (N p).2 = true then 40 :: U else U).length ≤ 264 := by rw [hV] at hT'; simp at hT'; omega
        split at this
        · simp at this; omega
        · exact this)
      clear hP hNL hcl hnl hc hx hp hpL hcp
      simp only [] at hgo
      by_cases h6 : x.kind = 6
      · rw [if_pos h6] at hgo
        have d6 : (x.kind == 6) = true := by simpa using h6
        clear h6 hxOK
        cases hbr : (N p).2 with
        | true =>
          rw [hbr] at hbp hnext hgo hgoT
          have hU := hgoT.out _ hgo
          have hnx := Bx.mk (fun w2 => hnext.out (45 :: T) w2)
          have hgoB := Bx.mk hgo
          go_wp2_with (first | (go_at_call 203; refine (hput.out 45 T _ hA.out (by decide) (by omega)).mono ?_; rintro e w1 ⟨rfl, hP1, hf1⟩; have hX1 := Bx.mk (hf1.row hRx.out hwb.out); have hP1 := Bx.mk hP1; clear hA; have x1 := hX1.out.cell 1 (by omega); simp only [ndC] at x1; obtain ⟨d14, d0, d1, -, -, -⟩ := hbp.out _ _ hP1.out) | (go_at_call 203; refine (hput.out 40 (45 :: T) _ hP1.out (by decide) (by omega)).mono ?_; rintro e w2 ⟨rfl, hP2, hf2⟩; have hX2 := Bx.mk (hf2.row hX1.out hwb.out); have hP2 := Bx.mk hP2; clear hP1; have x1 := hX2.out.cell 1 (by omega); simp only [ndC] at x1))
          go_roundw
          case rel => exact hnx.out _ hP2.out hgoB.out ((((Fr.refl (FmS B) wr).alloc (ndB x)).trans hf1).trans hf2)
          case measure => simp [intOf]; omega
        | false =>
          rw [hbr] at hbp hnext hgo hgoT
          have hU := hgoT.out _ hgo
          have hnx := Bx.mk (fun w2 => hnext.out (45 :: T) w2)
          have hgoB := Bx.mk hgo
          go_wp2_with (first | (go_at_call 203; refine (hput.out 45 T _ hA.out (by decide) (by omega)).mono ?_; rintro e w1 ⟨rfl, hP1, hf1⟩; have hX1 := Bx.mk (hf1.row hRx.out hwb.out); have hP1 := Bx.mk hP1; clear hA; have x1 := hX1.out.cell 1 (by omega); simp only [ndC] at x1; obtain ⟨d14, d0, d1, -, -, -⟩ := hbp.out _ _ hP1.out))
          go_roundw
          case rel => exact hnx.out _ hP1.out hgoB.out (((Fr.refl (FmS B) wr).alloc (ndB x)).trans hf1)
          case measure => simp [intOf]; omega
      rw [if_neg h6] at hgo
      have d6 : (x.kind == 6) = false := by simpa using h6
      by_cases h7 : x.kind = 7
      · rw [if_pos h7] at hgo
        have d7 : (x.kind == 7) = true := by simpa using h7
        obtain ⟨o1, o2⟩ := hxOK.op h7
        clear h7 h6 hxOK
        by_cases hb : (c : Int) = x.b
        · rw [if_pos hb] at hgo
          injection hgo with hgo
          have hgB := Bx.mk hgo
          have db : ((c : Int) == x.b) = true := by simpa using hb
          clear hgo hb
          rw [← hgB.out]
          go_wp2_with (first | (go_at_call 227; refine (putOpX B N T x.op _ hA.out o1 o2 (by omega)).mono ?_; rintro e w1 ⟨rfl, hP1, hf1⟩; have hX1 := Bx.mk (hf1.row hRx.out hwb.out); have hP1 := Bx.mk hP1; clear hA; have x1 := hX1.out.cell 1 (by omega); simp only [ndC] at x1))
          go_end0
          exact ⟨rfl, hP1.out, hfr.trans (((Fr.refl (FmS B) wr).alloc (ndB x)).trans hf1)⟩
        · rw [if_neg hb] at hgo
          have db : ((c : Int) == x.b) = false := by simpa using hb
          clear hb
          cases hbr : (N p).2 with
          | true =>
            rw [hbr] at hbp hnext hgo hgoT
            have hU := hgoT.out _ hgo
            have hnx := Bx.mk (fun w2 => hnext.out (T) w2)
            have hgoB := Bx.mk hgo
            obtain ⟨d14, d0, d1, -, -, -⟩ := hbp.out _ _ hA.out
            go_wp2_with (first | (go_at_call 203; refine (hput.out 40 (T) _ hA.out (by decide) (by omega)).mono ?_; rintro e w1 ⟨rfl, hP1, hf1⟩; have hX1 := Bx.mk (hf1.row hRx.out hwb.out); have hP1 := Bx.mk hP1; clear hA; have x1 := hX1.out.cell 1 (by omega); simp only [ndC] at x1))
            go_roundw
            case rel => exact hnx.out _ hP1.out hgoB.out (((Fr.refl (FmS B) wr).alloc (ndB x)).trans hf1)
            case measure => simp [intOf]; omega
          | false =>
            rw [hbr] at hbp hnext hgo hgoT
            have hU := hgoT.out _ hgo
            have hnx := Bx.mk (fun w2 => hnext.out (T) w2)
            have hgoB := Bx.mk hgo
            obtain ⟨d14, d0, d1, -, -, -⟩ := hbp.out _ _ hA.out
            go_wp2_with fail
            go_roundw
            case rel => exact hnx.out _ hA.out hgoB.out ((Fr.refl (FmS B) wr).alloc (ndB x))
            case measure => simp [intOf]; omega
      rw [if_neg h7] at hgo
      have d7 : (x.kind == 7) = false := by simpa using h7
      by_cases h9 : x.kind = 9
      · rw [if_pos h9] at hgo
        have d9 : (x.kind == 9) = true := by simpa using h9
        clear h7 h6 h9 hxOK
        by_cases ha : (c : Int) = x.a
        · have da : ((c : Int) == x.a) = true := by simpa using ha
          by_cases hb : 0 ≤ x.b
          · rw [if_pos ⟨ha, hb⟩] at hgo
            injection hgo with hgo
            have hgB := Bx.mk hgo
            have db : decide (0 ≤ x.b) = true := decide_eq_true hb
            clear hgo ha
            rw [← hgB.out]
            go_wp2_with (first | (go_at_call 203; refine (hput.out 44 T _ hA.out (by decide) (by omega)).mono ?_; rintro e w1 ⟨rfl, hP1, hf1⟩; have hX1 := Bx.mk (hf1.row hRx.out hwb.out); have hP1 := Bx.mk hP1; clear hA; have x1 := hX1.out.cell 1 (by omega); simp only [ndC] at x1))
            go_end0
            exact ⟨rfl, hP1.out, hfr.trans (((Fr.refl (FmS B) wr).alloc (ndB x)).trans hf1)⟩
          · rw [if_neg (fun e => hb e.2)] at hgo
            have db : decide (0 ≤ x.b) = false := decide_eq_false hb
            clear ha
            cases hbr : (N p).2 with
            | true =>
              rw [hbr] at hbp hnext hgo hgoT
              have hU := hgoT.out _ hgo
              have hnx := Bx.mk (fun w2 => hnext.out (T) w2)
              have hgoB := Bx.mk hgo
              obtain ⟨d14, d0, d1, -, -, -⟩ := hbp.out _ _ hA.out
              go_wp2_with (first | (go_at_call 203; refine (hput.out 40 (T) _ hA.out (by decide) (by omega)).mono ?_; rintro e w1 ⟨rfl, hP1, hf1⟩; have hX1 := Bx.mk (hf1.row hRx.out hwb.out); have hP1 := Bx.mk hP1; clear hA; have x1 := hX1.out.cell 1 (by omega); simp only [ndC] at x1))
              go_roundw
              case rel => exact hnx.out _ hP1.out hgoB.out (((Fr.refl (FmS B) wr).alloc (ndB x)).trans hf1)
              case measure => simp [intOf]; omega
            | false =>
              rw [hbr] at hbp hnext hgo hgoT
              have hU := hgoT.out _ hgo
              have hnx := Bx.mk (fun w2 => hnext.out (T) w2)
              have hgoB := Bx.mk hgo
              obtain ⟨d14, d0, d1, -, -, -⟩ := hbp.out _ _ hA.out
              go_wp2_with fail
              go_roundw
              case rel => exact hnx.out _ hA.out hgoB.out ((Fr.refl (FmS B) wr).alloc (ndB x))
              case measure => simp [intOf]; omega
        · have da : ((c : Int) == x.a) = false := by simpa using ha
          rw [if_neg (fun e => ha e.1)] at hgo
          clear ha
          cases hbr : (N p).2 with
          | true =>
            rw [hbr] at hbp hnext hgo hgoT
            have hU := hgoT.out _ hgo
            have hnx := Bx.mk (fun w2 => hnext.out (T) w2)
            have hgoB := Bx.mk hgo
            obtain ⟨d14, d0, d1, -, -, -⟩ := hbp.out _ _ hA.out
            go_wp2_with (first | (go_at_call 203; refine (hput.out 40 (T) _ hA.out (by decide) (by omega)).mono ?_; rintro e w1 ⟨rfl, hP1, hf1⟩; have hX1 := Bx.mk (hf1.row hRx.out hwb.out); have hP1 := Bx.mk hP1; clear hA; have x1 := hX1.out.cell 1 (by omega); simp only [ndC] at x1))
            go_roundw
            case rel => exact hnx.out _ hP1.out hgoB.out (((Fr.refl (FmS B) wr).alloc (ndB x)).trans hf1)
            case measure => simp [intOf]; omega
          | false =>
            rw [hbr] at hbp hnext hgo hgoT
            have hU := hgoT.out _ hgo
            have hnx := Bx.mk (fun w2 => hnext.out (T) w2)
            have hgoB := Bx.mk hgo
            obtain ⟨d14, d0, d1, -, -, -⟩ := hbp.out _ _ hA.out
            go_wp2_with fail
            go_roundw
            case rel => exact hnx.out _ hA.out hgoB.out ((Fr.refl (FmS B) wr).alloc (ndB x))
            case measure => simp [intOf]; omega
      rw [if_neg h9] at hgo
      have d9 : (x.kind == 9) = false := by simpa using h9
      have hfl := fnName_len x.op
      have hfz : Bx (lst (bs (fnName x.op)) = fnName x.op) := Bx.mk (lst_bs (fnName_bytes _))
      have hpus : Bx (∀ wx, FP wx B N (40 :: T) → Calls Tryz.prog 225 #[pt B.f, .string (bs (fnName x.op))] wx (Puts wx B N (fnName x.op ++ 40 :: T))) := Bx.mk (fun wx hx => by have := putsX B N (40 :: T) (bs (fnName x.op)) wx hx (by rw [hfz.out]; simp; omega) (by rw [bs_size]; omega); rw [hfz.out] at this; exact this)
      clear h6 h7 h9 hxOK hfz
      cases hbr : (N p).2 with
      | true =>
        rw [hbr] at hbp hnext hgo hgoT
        have hU := hgoT.out _ hgo
        have hnx := Bx.mk (fun w2 => hnext.out (fnName x.op ++ 40 :: T) w2)
        have hgoB := Bx.mk hgo
        go_wp2_with (first | (go_at_call 203; refine (hput.out 40 T _ hA.out (by decide) (by omega)).mono ?_; rintro e w1 ⟨rfl, hP1, hf1⟩; have hX1 := Bx.mk (hf1.row hRx.out hwb.out); have hP1 := Bx.mk hP1; clear hA; have x1 := hX1.out.cell 1 (by omega); simp only [ndC] at x1) | (go_at_call 181; refine (fn_any _ _).mono ?_; rintro e w' ⟨rfl, rfl⟩) | (go_at_call 225; refine (hpus.out _ hP1.out).mono ?_; rintro e w2 ⟨rfl, hP2, hf2⟩; have hX2 := Bx.mk (hf2.row hX1.out hwb.out); have hP2 := Bx.mk hP2; clear hP1; have x1 := hX2.out.cell 1 (by omega); simp only [ndC] at x1; obtain ⟨d14, d0, d1, -, -, -⟩ := hbp.out _ _ hP2.out) | (go_at_call 203; refine (hput.out 40 (fnName x.op ++ 40 :: T) _ hP2.out (by decide) (by omega)).mono ?_; rintro e w3 ⟨rfl, hP3, hf3⟩; have hX3 := Bx.mk (hf3.row hX2.out hwb.out); have hP3 := Bx.mk hP3; clear hP2; have x1 := hX3.out.cell 1 (by omega); simp only [ndC] at x1))
        go_roundw
        case rel => exact hnx.out _ hP3.out hgoB.out (((((Fr.refl (FmS B) wr).alloc (ndB x)).trans hf1).trans hf2).trans hf3)
        case measure => simp [intOf]; omega
      | false =>
        rw [hbr] at hbp hnext hgo hgoT
        have hU := hgoT.out _ hgo
        have hnx := Bx.mk (fun w2 => hnext.out (fnName x.op ++ 40 :: T) w2)
        have hgoB := Bx.mk hgo
        go_wp2_with (first | (go_at_call 203; refine (hput.out 40 T _ hA.out (by decide) (by omega)).mono ?_; rintro e w1 ⟨rfl, hP1, hf1⟩; have hX1 := Bx.mk (hf1.row hRx.out hwb.out); have hP1 := Bx.mk hP1; clear hA; have x1 := hX1.out.cell 1 (by omega); simp only [ndC] at x1) | (go_at_call 181; refine (fn_any _ _).mono ?_; rintro e w' ⟨rfl, rfl⟩) | (go_at_call 225; refine (hpus.out _ hP1.out).mono ?_; rintro e w2 ⟨rfl, hP2, hf2⟩; have hX2 := Bx.mk (hf2.row hX1.out hwb.out); have hP2 := Bx.mk hP2; clear hP1; have x1 := hX2.out.cell 1 (by omega); simp only [ndC] at x1; obtain ⟨d14, d0, d1, -, -, -⟩ := hbp.out _ _ hP2.out))
        go_roundw
        case rel => exact hnx.out _ hP2.out hgoB.out ((((Fr.refl (FmS B) wr).alloc (ndB x)).trans hf1).trans hf2)
        case measure => simp [intOf]; omega
end Go.Proofs.Qxb6500326aGreat
