import Derived.Test.Qxb6500326aGreatK5
namespace Go.Proofs.Qxb6500326aGreat
set_option maxRecDepth 100000
set_option linter.unusedVariables false
set_option linter.unusedSimpArgs false
open Go.RowKit Go.PlainAid
attribute [local go_sem] bv_and bv_or bv_eq_zero bv_ne_zero bv_bit

/-- What the sweep's rounds keep. -/
structure SwL (R : Nat → BitVec 32) (F : Nat → (Nat → Vl) → Vl) (c : Nat) (L : List Nat) (inv : Nat → BitVec 32 → (Nat → Vl) → Prop) : Prop where
  lw : ∀ i t e, inv i t e → LwE e
  len : L.length ≤ 576
  cell : ∀ i, i < L.length → Gr.nth L i < 24
  go : ∀ i t e, inv i t e → i < L.length → e (Gr.nth L i) = F (Gr.nth L i) e → inv (i + 1) t e
  skip : ∀ i t e, inv i t e → i < L.length → Gr.nth L i ≠ c → R (Gr.nth L i) &&& t = 0#32 → e (Gr.nth L i) ≠ vErr 6 → inv (i + 1) t e
  turn : ∀ i t e, inv i t e → i < L.length → inv (i + 1) (t ||| Gr.bit (Gr.nth L i)) (upd e (Gr.nth L i) (F (Gr.nth L i) e))
theorem Chg.swl {R R' : Nat → BitVec 32} {F F' : Nat → (Nat → Vl) → Vl} {E : Nat → Vl} {c : Nat} (h : Chg R F E R' F' c) : SwL R' F' c (Gr.ord R' (Gr.hang R' (Gr.bit c))) (SwI R' F' E c) :=
  ⟨fun i t e s => s.lw, Gr.ordTo_len _ _ 24, fun i hi => (Gr.ord_at R' _ hi).1.1, fun i t e s hi hd => s.go h hi hd, fun i t e s hi h1 h2 h3 => s.skip h hi h1 h2 h3, fun i t e s hi => s.turn h hi⟩
def SwS (V : VB) (B : FB) (sb : Nat) : Nat → Prop := fun k => VF V B k ∨ k = sb
section
variable {xb gb rb sb : Nat} {V : VB} {B : FB} {x : Gr.XS} {T : Nat → ByteArray} {E : Nat → Vl}
set_option maxHeartbeats 16000000 in
theorem sweep_any (c : Nat) (hc : c < 24) (ad : Option Addr) (cap : Nat) (L : List Nat) (inv : Nat → BitVec 32 → (Nat → Vl) → Prop) (w : World) (h : KM w xb V B gb rb sb x T E) (hok : TxOK T) (law : SwL (RT T) (FT T) c L inv) (h0 : inv 0 0#32 E)
    (hL : L.length = 0 ∨ ∃ g, ad = some ⟨g, 0, none⟩ ∧ ¬ SwS V B sb g ∧ Row w g L.length (fun i => I (Gr.nth L i : Nat))) :
    Calls Tryz.prog 129 #[pt xb, I (c : Int), .slice ad L.length cap] w fun e w' => e = .returned (.tuple #[]) ∧ ∃ t e', inv L.length t e' ∧ KM w' xb V B gb rb sb x T e' ∧ Fr (SwS V B sb) w w' := by
  have hn := h.n
  have HO : Bx (∀ w', Fr (SwS V B sb) w w' → Row w' xb 4 (kC V.e gb rb sb)) := ⟨fun w' f => f.row h.obj (by rintro (e | e); exact hn.x1 e; exact hn.d2 e)⟩
  have HR : Bx (∀ w', Fr (SwS V B sb) w w' → Row w' rb 24 (fun i => .string (T i))) := ⟨fun w' f => f.row h.raw (by rintro (e | e); exact hn.r1 e; exact hn.d3 e)⟩
  have HX : Bx (∀ w', Fr (SwS V B sb) w w' → Gr.XG w' gb x) := ⟨fun w' f => h.xg.fr f (by rintro k (e | e) hk; exact hn.g k hk e; exact hn.s2 (e ▸ hk))⟩
  have HL : Bx (L.length = 0 ∨ ∃ g, ad = some ⟨g, 0, none⟩ ∧ ∀ w', Fr (SwS V B sb) w w' → Row w' g L.length (fun i => I (Gr.nth L i : Nat))) := ⟨by
    rcases hL with e | ⟨g, e1, e2, e3⟩
    · exact .inl e
    · exact .inr ⟨g, e1, fun w' f => f.row e3 e2⟩⟩
  have HC : Bx (∀ (y : Nat) (env : Nat → Vl) (w' : World), y < 24 → EZ w' V B → EL w' sb 24 env → LwE env → Calls Tryz.prog 158 #[pt V.e, .string (T y), sl sb 24 24] w' fun e w'' => e = .returned (.tuple #[vV (FT T y env), I 0]) ∧ EZ w'' V B ∧ Fr (VF V B) w' w'') := ⟨fun y env w' hy hz hE hl => (mf_mean (hok y hy)).real V B w' sb 24 env hz hE hn.s1 hl⟩
  have hfin : Bx (∀ w' e', Fr (SwS V B sb) w w' → EZ w' V B → EL w' sb 24 e' → KM w' xb V B gb rb sb x T e') := ⟨fun w' e' f hz hE => ⟨HO.out w' f, hz, HX.out w' f, h.xi, HR.out w' f, hE, hn⟩⟩
  have hrd : Bx (x.reads = RT T) := ⟨h.xi.reads⟩
  have hring : Bx (∃ y : Vl, y = vErr 6) := ⟨⟨_, rfl⟩⟩
  have hns := Bx.mk hn.s1
  have hx1 := Bx.mk hn.x1
  have hr1 := Bx.mk hn.r1
  have hEZ : Bx (∀ w', Fr S0 w w' → EZ w' V B) := ⟨fun w' f => h.ez.fr f (fun k _ e => e)⟩
  have hE0 := Bx.mk h.sh
  have law := Bx.mk law
  have h0 := Bx.mk h0
  have hbS : Bx (∀ k, SwS V B sb k → k < w.heap.size) := ⟨by
    rintro k (e | e)
    · exact h.ez.lt e
    · subst e; exact Row.lt h.sh⟩
  generalize FT T = F at HC law
  generalize RT T = R at law hrd
  clear h hok hL hn
  go_enter Tryz.func129, Tryz.ntmps129
  go_wp2_with (first | (go_at_call 139; refine (err_any 6 _).mono ?_; generalize hy : vErr 6 = y; have hy := Bx.mk hy; rintro e w1 ⟨rfl, hf1⟩; have hf1 := Bx.mk hf1))
  have hring := Bx.mk (v_new w1 y 92 rfl)
  have hw1 : Bx (w.heap.size ≤ w1.heap.size) := ⟨hf1.out.size⟩
  go_loopw [6, 8] (fun tv c wr => ∃ (i : Nat) (t : BitVec 32) (e : Nat → Vl), i ≤ L.length ∧ tv = U t ∧ c = I (i : Int) ∧ Bx (inv i t e) ∧ Bx (EZ wr V B) ∧ Bx (EL wr sb 24 e) ∧ Bx (Row wr w1.heap.size 3 (vC y)) ∧ Bx (Fr (SwS V B sb) w wr)) (fun _ c _ => L.length - (intOf c).toNat)
  case atStart => exact ⟨0, 0#32, E, by omega, rfl, rfl, h0, ⟨hEZ.out _ (hf1.out.alloc _)⟩, ⟨hE0.out.of (S := S0) (hf1.out.alloc _) (by simp)⟩, hring, ⟨(hf1.out.alloc _).up⟩⟩
  case round =>
    clear hring h0 hE0 hEZ hf1
    obtain ⟨i, t, ev, hi, rfl, rfl, hI, hZ, hE, hg, hf⟩ := hrel
    cases hlt : decide ((i : Int) < (L.length : Int))
    · have hiL : i = L.length := by simp at hlt; omega
      clear HO HR HX HL HC law
      go_wp2_with fail
      go_end0
      exact ⟨rfl, t, ev, hiL ▸ hI.out, hfin.out _ ev hf.out hZ.out hE.out, hf.out⟩
    · have hiL : i < L.length := by simp at hlt; omega
      have hiI : (i : Int) < (L.length : Int) := by omega
      obtain ⟨g2, rfl, hLr⟩ : ∃ g, ad = some ⟨g, 0, none⟩ ∧ ∀ w', Fr (SwS V B sb) w w' → Row w' g L.length (fun i => I (Gr.nth L i : Nat)) := by
        rcases HL.out with e | e
        · omega
        · exact e
      have o0 := (hLr _ hf.out).cell i hiL
      have og := (hLr _ hf.out).lt
      clear hLr HL
      have hz24 := law.out.cell i hiL
      have hi6 : i < 600 := by have := law.out.len; omega
      have hi6I : (i : Int) < 600 := by omega
      have hgo := Bx.mk (law.out.go i t ev hI.out hiL)
      have hskip := Bx.mk (law.out.skip i t ev hI.out hiL)
      have hturn := Bx.mk (law.out.turn i t ev hI.out hiL)
      have hlw := Bx.mk (law.out.lw i t ev hI.out)
      have hO := Bx.mk (HO.out _ hf.out)
      obtain ⟨c0, c1, c2, c3⟩ := hO.out.k4
      have hOl := hO.out.lt
      have hRr := Bx.mk (HR.out _ hf.out)
      have hRl := hRr.out.lt
      have hXr := Bx.mk (HX.out _ hf.out)
      obtain ⟨q0, q1, q2, -, -, -⟩ := hg.out.v3
      have hgl := hg.out.lt
      have hEl := Row.lt hE.out
      generalize Gr.nth L i = z at *
      have hzI : (z : Int) < 24 := by omega
      have r0 := hRr.out.cell z hz24
      obtain ⟨m0, m1, m2, -, -, -⟩ := hE.out.ev3 hz24
      have hRx : Bx (∀ w', Fr (SwS V B sb) w w' → Calls Tryz.prog 157 #[pt gb, .int .i64 (z : Int)] w' fun e w'' => e = .returned (U (R z)) ∧ w' = w'') := ⟨fun w' f => by have := Gr.xReads_in gb x z w' (HX.out w' f) hz24; rw [hrd.out] at this; exact this⟩
      clear law HX HO HR hI hrd
      have hC0 : Bx (∀ w', EZ w' V B → EL w' sb 24 ev → Calls Tryz.prog 158 #[pt V.e, .string (T z), sl sb 24 24] w' fun e w'' => e = .returned (.tuple #[vV (F z ev), I 0]) ∧ EZ w'' V B ∧ Fr (VF V B) w' w'') := ⟨fun w' h1 h2 => HC.out z ev w' hz24 h1 h2 hlw.out⟩
      generalize hxx : F z ev = xx at hC0 hturn hgo
      have hxx := Bx.mk hxx
      generalize hez : ev z = ez at m0 m1 m2 hgo hskip
      have hez := Bx.mk hez
      -- skip, or work out
      have hzc : (z : Int) = (c : Int) ↔ z = c := by omega
      by_cases hsk : z ≠ c ∧ R z &&& t = 0#32 ∧ ez ≠ y
      · have hne : ((z : Int) != (c : Int)) = true := by simp; omega
        have hand : (R z &&& t == 0#32) = true := by simp [hsk.2.1]
        have hrun : ∀ u : World, (binOp .neq 92 (vV ez) (vV y)).run Tryz.prog u = .ok (.bool true) u := fun u => by
          rw [neq_v]
          cases hv : vEq ez y
          · rfl
          · exact absurd (vEq_iff.1 hv) hsk.2.2
        have hgd : ∀ u : World, (eqGuard .neq 92 (.tmp 45) (.tmp 46) (vV ez) (vV y)).run Tryz.prog u = .ok () u := fun u => guard_v _ _ _ _ u
        have hnext := Bx.mk (hskip.out hsk.1 hsk.2.1 (by rw [hy.out]; exact hsk.2.2))
        clear hzc hsk hskip hturn hgo hC0 HC
        go_wp2_with (first | (go_at_call 157; refine (hRx.out _ hf.out).mono ?_; clear hRx; rintro e w2 ⟨rfl, rfl⟩))
        go_quiet (fail)
        go_wp2_with fail
        go_roundw
        case rel =>
          have hq := Bx.mk (Fr.refl S0 wr)
          exact ⟨i + 1, t, ev, by omega, rfl, by go_num, hnext, ⟨hZ.out.fr0 ⟨rfl, rfl, rfl, Nat.le_refl _, fun _ _ _ => rfl⟩⟩, ⟨hE.out⟩, ⟨hg.out⟩, ⟨hf.out.trans ⟨rfl, rfl, rfl, Nat.le_refl _, fun _ _ _ => rfl⟩⟩⟩
        case measure => simp [intOf]; omega
      · have hne3 : (z = c) ∨ (z ≠ c ∧ (R z &&& t == 0#32) = false) ∨ (z ≠ c ∧ (R z &&& t == 0#32) = true ∧ ez = y) := by
          by_cases e1 : z = c
          · exact .inl e1
          · by_cases e2 : R z &&& t = 0#32
            · by_cases e3 : ez = y
              · exact .inr (.inr ⟨e1, by simp [e2], e3⟩)
              · exact absurd ⟨e1, e2, e3⟩ hsk
            · exact .inr (.inl ⟨e1, by simpa using e2⟩)
        clear hsk hskip HC hzc
        have hrunC : Bx (ez = y → ∀ u : World, (binOp .neq 92 (vV ez) (vV y)).run Tryz.prog u = .ok (.bool false) u) := ⟨fun e u => by rw [neq_v, e, vEq_self]; rfl⟩
        have hgd : ∀ u : World, (eqGuard .neq 92 (.tmp 45) (.tmp 46) (vV ez) (vV y)).run Tryz.prog u = .ok () u := fun u => guard_v _ _ _ _ u
        rcases hne3 with e1 | ⟨e1, e2⟩ | ⟨e1, e2, e3⟩
        · have hne : ((z : Int) != (c : Int)) = false := by simp [e1]
          clear e1 hRx hrunC hgd
          go_upto_region 9 with fail
          refine world_cut (fun wz => Bx (Fr S0 wr wz)) ⟨⟨rfl, rfl, rfl, Nat.le_refl _, fun _ _ _ => rfl⟩⟩ ?_
          rintro ws hfs
          clear c0 c1 c2 c3 r0 m0 m1 m2 q0 q1 q2 o0
          have hZ := Bx.mk (hZ.out.fr0 hfs.out)
          have hE := Bx.mk (hE.out.of hfs.out (by simp))
          have hg := Bx.mk (hfs.out.row0 hg.out)
          have hf := Bx.mk (hf.out.trans hfs.out.up)
          have hO := Bx.mk (hfs.out.row0 hO.out)
          have hRr := Bx.mk (hfs.out.row0 hRr.out)
          obtain ⟨c0, c1, c2, c3⟩ := hO.out.k4
          have hOl := hO.out.lt
          have hRl := hRr.out.lt
          have r0 := hRr.out.cell z hz24
          have hC1 := Bx.mk (hC0.out ws.drew (hZ.out.fr0 (Fr.refl S0 _).drew) hE.out)
          have hC2 : Bx (∀ o, Calls Tryz.prog 158 #[pt V.e, .string (T z), sl sb 24 24] (ws.alloc o).drew fun e w'' => e = .returned (.tuple #[vV xx, I 0]) ∧ EZ w'' V B ∧ Fr (VF V B) (ws.alloc o).drew w'') := ⟨fun o => hC0.out _ (hZ.out.fr0 ((Fr.refl S0 _).alloc o).drew) (hE.out.of (S := S0) ((Fr.refl S0 _).alloc o).drew (by simp))⟩
          have hz : Bx (Row (ws.alloc (.cells #[I 0, I 0, .string es] 92)).drew ws.heap.size 3 (vC v0)) := ⟨(v_zero ws 92 rfl).drew⟩
          have hnq : Bx (¬ VF V B ws.heap.size) := ⟨hZ.out.ne (Nat.le_refl _)⟩
          have hcells : Bx (∀ w', Fr (VF V B) ws w' → w'.cell? ⟨xb, 0, none⟩ = some (pt V.e) ∧ w'.cell? ⟨xb, 2, none⟩ = some (sl rb 24 24) ∧ w'.cell? ⟨xb, 3, none⟩ = some (sl sb 24 24) ∧ w'.cell? ⟨rb, z, none⟩ = some (.string (T z)) ∧ xb < w'.heap.size ∧ rb < w'.heap.size) := ⟨fun w' f => by
            have q1 := f.row hO.out hx1.out
            have q2 := f.row hRr.out hr1.out
            exact ⟨q1.k4.1, q1.k4.2.2.1, q1.k4.2.2.2, q2.cell z hz24, q1.lt, q2.lt⟩⟩
          generalize T z = tz at r0 hC1 hC2 hcells
          have nq1 : ¬ xb = ws.heap.size := by omega
          have nq2 : ¬ rb = ws.heap.size := by omega
          clear hC0
          go_cut [11] from 15 to 88 (fun p wy => ∃ H : Nat, p = pt H ∧ Bx (Row wy H 3 (vC xx)) ∧ Bx (EZ wy V B) ∧ Bx (Fr (VF V B) ws wy) ∧ Bx (ws.heap.size ≤ H))
          case first =>
            go_region_held3 (fun w' => w'.cell? ⟨xb, 0, none⟩ = some (pt V.e) ∧ w'.cell? ⟨xb, 2, none⟩ = some (sl rb 24 24) ∧ w'.cell? ⟨xb, 3, none⟩ = some (sl sb 24 24) ∧ w'.cell? ⟨rb, z, none⟩ = some (.string tz)) (first | go_keep | exact ⟨(cell_sets3 nq1).trans (by assumption), (cell_sets3 nq1).trans (by assumption), (cell_sets3 nq1).trans (by assumption), (cell_sets3 nq2).trans (by assumption)⟩)
              (first
              | (go_at_call 158; refine hC1.out.mono ?_; rintro e w5 ⟨rfl, hm5, hf5⟩; obtain ⟨k0, k1, k2, k3, k4, k5⟩ := hcells.out w5 (((Fr.refl _ ws).drew).trans hf5); have hm5 := Bx.mk hm5; have hf5A := Bx.mk hf5)
              | (go_at_call 158; refine (hC2.out _).mono ?_; rintro e w5 ⟨rfl, hm5, hf5⟩; obtain ⟨k0, k1, k2, k3, k4, k5⟩ := hcells.out w5 ((((Fr.refl _ ws).alloc _).drew).trans hf5); have hT5 := Bx.mk (hf5.row hz.out hnq.out); obtain ⟨x0, x1, x2, y0, y1, y2⟩ := hT5.out.v3; have hm5 := Bx.mk hm5; have hf5B := Bx.mk hf5))
            all_goals (first | go_wp2_with fail | skip)
            all_goals go_meet
            all_goals first
              | (obtain ⟨a1, a2, a3, a4⟩ := cut_B xx hf5B.out hT5.out
                 exact ⟨ws.heap.size, rfl, ⟨a1⟩, ⟨hm5.out.fr a4 (fun k hk e => hnq.out (e ▸ hk))⟩, ⟨a2⟩, ⟨a3⟩⟩)
              | (obtain ⟨a1, a2, a3, a4⟩ := cut_A xx hf5A.out
                 exact ⟨w5.heap.size, rfl, ⟨a1⟩, ⟨hm5.out.fr0 a4⟩, ⟨a2⟩, ⟨a3⟩⟩)
          case rest =>
          obtain ⟨H, rfl, hX, hZ5, hf5, hH⟩ := hcut
          have hnw : Bx (∀ k, w.heap.size ≤ k → ¬ SwS V B sb k) := ⟨fun k hk e => by have := hbS.out k e; omega⟩
          have hE5 := Bx.mk (hE.out.of hf5.out hns.out)
          have hg5 := Bx.mk (hf5.out.row hg.out (fun e => hnw.out _ hw1.out (.inl e)))
          have hf5w := Bx.mk (hf.out.trans (hf5.out.mono (S' := SwS V B sb) (fun k hk => .inl hk)))
          have hO5 := Bx.mk (hf5.out.row hO.out hx1.out)
          obtain ⟨-, -, -, c3⟩ := hO5.out.k4
          have hOl := hO5.out.lt
          obtain ⟨x0, x1, x2, -, -, -⟩ := hX.out.v3
          have hXl := hX.out.lt
          obtain ⟨m0, m1, m2, z0, z1, z2⟩ := hE5.out.ev3 hz24
          rw [hez.out] at m0 m1 m2
          have hEl := Row.lt hE5.out
          clear hC1 hC2 hz hO hRr hE hg hZ hf
          have hgd2 : ∀ u : World, (eqGuard .neq 92 (.tmp 68) (.tmp 75) (vV xx) (vV ez)).run Tryz.prog u = .ok () u := fun u => guard_v _ _ _ _ u
          cases hv : vEq xx ez
          · have hrun2 : ∀ u : World, (binOp .neq 92 (vV xx) (vV ez)).run Tryz.prog u = .ok (.bool true) u := fun u => by rw [neq_v, hv]; rfl
            go_wp2_with fail
            go_quiet (fail)
            go_upto_region 11 with fail
            refine world_cut (fun wz => Bx (Fr S0 wc wz)) ⟨⟨rfl, rfl, rfl, Nat.le_refl _, fun _ _ _ => rfl⟩⟩ ?_
            rintro wt hft
            have hE6 := Bx.mk (hE5.out.of hft.out (by simp))
            have hO6 := Bx.mk (hft.out.row0 hO5.out)
            have hX6 := Bx.mk (hft.out.row0 hX.out)
            clear c3 x0 x1 x2 m0 m1 m2 z0 z1 z2 hgd2 hrun2
            obtain ⟨-, -, -, c3⟩ := hO6.out.k4
            have hOl := hO6.out.lt
            obtain ⟨x0, x1, x2, -, -, -⟩ := hX6.out.v3
            obtain ⟨m0, m1, m2, z0, z1, z2⟩ := hE6.out.ev3 hz24
            have hEl := Row.lt hE6.out
            refine region_cut (fun w' => Bx (Fr S0 (sets wt sb (z * 3) (vA xx).toList) w')) ?_
            apply Exists.intro
            apply And.intro
            · go_region
              all_goals exact ⟨rfl, ⟨⟨rfl, rfl, rfl, Nat.le_refl _, fun _ _ _ => rfl⟩⟩⟩
            rintro wd hfd
            clear c3 x0 x1 x2 m0 m1 m2 z0 z1 z2
            go_wp2_with (first | (go_at_call 124; refine (Gr.bit_any z _ hz24).mono ?_; rintro e w' ⟨rfl, rfl⟩))
            go_roundw
            case rel =>
              have hS0 : Fr (fun k => k = sb) wt (sets wt sb (z * 3) (vA xx).toList) := fr_val (.inl rfl) (Fr.refl _ _)
              have hS1 := hS0.trans hfd.out.up
              exact ⟨i + 1, _, _, by omega, rfl, by go_num, hturn, ⟨(hZ5.out.fr0 hft.out).fr hS1 (fun k hk e => hns.out (e ▸ hk))⟩, ⟨(hE6.out.eput z xx).of hfd.out (by simp)⟩, ⟨hS1.row (hft.out.row0 hg5.out) (fun e => hnw.out _ hw1.out (.inr e))⟩, ⟨(hf5w.out.trans hft.out.up).trans (hS1.mono (S' := SwS V B sb) (fun k hk => .inr hk))⟩⟩
            case measure => simp [intOf]; omega
          · have hrun2 : ∀ u : World, (binOp .neq 92 (vV xx) (vV ez)).run Tryz.prog u = .ok (.bool false) u := fun u => by rw [neq_v, hv]; rfl
            have hnext := Bx.mk (hgo.out (vEq_iff.1 hv).symm)
            go_wp2_with fail
            go_quiet (fail)
            go_wp2_with fail
            go_roundw
            case rel => exact ⟨i + 1, t, ev, by omega, rfl, by go_num, hnext, ⟨hZ5.out.fr0 ⟨rfl, rfl, rfl, Nat.le_refl _, fun _ _ _ => rfl⟩⟩, ⟨hE5.out⟩, ⟨hg5.out⟩, ⟨hf5w.out.trans ⟨rfl, rfl, rfl, Nat.le_refl _, fun _ _ _ => rfl⟩⟩⟩
            case measure => simp [intOf]; omega
        · have hne : ((z : Int) != (c : Int)) = true := by simp; omega
          clear e1 hrunC hgd
          go_upto_region 8 with (first | (go_at_call 157; refine (hRx.out _ hf.out).mono ?_; clear hRx; rintro e w2 ⟨rfl, rfl⟩))
          go_quiet (fail)
          go_upto_region 9 with fail
          refine world_cut (fun wz => Bx (Fr S0 wr wz)) ⟨⟨rfl, rfl, rfl, Nat.le_refl _, fun _ _ _ => rfl⟩⟩ ?_
          rintro ws hfs
          clear c0 c1 c2 c3 r0 m0 m1 m2 q0 q1 q2 o0
          have hZ := Bx.mk (hZ.out.fr0 hfs.out)
          have hE := Bx.mk (hE.out.of hfs.out (by simp))
          have hg := Bx.mk (hfs.out.row0 hg.out)
          have hf := Bx.mk (hf.out.trans hfs.out.up)
          have hO := Bx.mk (hfs.out.row0 hO.out)
          have hRr := Bx.mk (hfs.out.row0 hRr.out)
          obtain ⟨c0, c1, c2, c3⟩ := hO.out.k4
          have hOl := hO.out.lt
          have hRl := hRr.out.lt
          have r0 := hRr.out.cell z hz24
          have hC1 := Bx.mk (hC0.out ws.drew (hZ.out.fr0 (Fr.refl S0 _).drew) hE.out)
          have hC2 : Bx (∀ o, Calls Tryz.prog 158 #[pt V.e, .string (T z), sl sb 24 24] (ws.alloc o).drew fun e w'' => e = .returned (.tuple #[vV xx, I 0]) ∧ EZ w'' V B ∧ Fr (VF V B) (ws.alloc o).drew w'') := ⟨fun o => hC0.out _ (hZ.out.fr0 ((Fr.refl S0 _).alloc o).drew) (hE.out.of (S := S0) ((Fr.refl S0 _).alloc o).drew (by simp))⟩
          have hz : Bx (Row (ws.alloc (.cells #[I 0, I 0, .string es] 92)).drew ws.heap.size 3 (vC v0)) := ⟨(v_zero ws 92 rfl).drew⟩
          have hnq : Bx (¬ VF V B ws.heap.size) := ⟨hZ.out.ne (Nat.le_refl _)⟩
          have hcells : Bx (∀ w', Fr (VF V B) ws w' → w'.cell? ⟨xb, 0, none⟩ = some (pt V.e) ∧ w'.cell? ⟨xb, 2, none⟩ = some (sl rb 24 24) ∧ w'.cell? ⟨xb, 3, none⟩ = some (sl sb 24 24) ∧ w'.cell? ⟨rb, z, none⟩ = some (.string (T z)) ∧ xb < w'.heap.size ∧ rb < w'.heap.size) := ⟨fun w' f => by
            have q1 := f.row hO.out hx1.out
            have q2 := f.row hRr.out hr1.out
            exact ⟨q1.k4.1, q1.k4.2.2.1, q1.k4.2.2.2, q2.cell z hz24, q1.lt, q2.lt⟩⟩
          generalize T z = tz at r0 hC1 hC2 hcells
          have nq1 : ¬ xb = ws.heap.size := by omega
          have nq2 : ¬ rb = ws.heap.size := by omega
          clear hC0
          go_cut [11] from 15 to 88 (fun p wy => ∃ H : Nat, p = pt H ∧ Bx (Row wy H 3 (vC xx)) ∧ Bx (EZ wy V B) ∧ Bx (Fr (VF V B) ws wy) ∧ Bx (ws.heap.size ≤ H))
          case first =>
            go_region_held3 (fun w' => w'.cell? ⟨xb, 0, none⟩ = some (pt V.e) ∧ w'.cell? ⟨xb, 2, none⟩ = some (sl rb 24 24) ∧ w'.cell? ⟨xb, 3, none⟩ = some (sl sb 24 24) ∧ w'.cell? ⟨rb, z, none⟩ = some (.string tz)) (first | go_keep | exact ⟨(cell_sets3 nq1).trans (by assumption), (cell_sets3 nq1).trans (by assumption), (cell_sets3 nq1).trans (by assumption), (cell_sets3 nq2).trans (by assumption)⟩)
              (first
              | (go_at_call 158; refine hC1.out.mono ?_; rintro e w5 ⟨rfl, hm5, hf5⟩; obtain ⟨k0, k1, k2, k3, k4, k5⟩ := hcells.out w5 (((Fr.refl _ ws).drew).trans hf5); have hm5 := Bx.mk hm5; have hf5A := Bx.mk hf5)
              | (go_at_call 158; refine (hC2.out _).mono ?_; rintro e w5 ⟨rfl, hm5, hf5⟩; obtain ⟨k0, k1, k2, k3, k4, k5⟩ := hcells.out w5 ((((Fr.refl _ ws).alloc _).drew).trans hf5); have hT5 := Bx.mk (hf5.row hz.out hnq.out); obtain ⟨x0, x1, x2, y0, y1, y2⟩ := hT5.out.v3; have hm5 := Bx.mk hm5; have hf5B := Bx.mk hf5))
            all_goals (first | go_wp2_with fail | skip)
            all_goals go_meet
            all_goals first
              | (obtain ⟨a1, a2, a3, a4⟩ := cut_B xx hf5B.out hT5.out
                 exact ⟨ws.heap.size, rfl, ⟨a1⟩, ⟨hm5.out.fr a4 (fun k hk e => hnq.out (e ▸ hk))⟩, ⟨a2⟩, ⟨a3⟩⟩)
              | (obtain ⟨a1, a2, a3, a4⟩ := cut_A xx hf5A.out
                 exact ⟨w5.heap.size, rfl, ⟨a1⟩, ⟨hm5.out.fr0 a4⟩, ⟨a2⟩, ⟨a3⟩⟩)
          case rest =>
          obtain ⟨H, rfl, hX, hZ5, hf5, hH⟩ := hcut
          have hnw : Bx (∀ k, w.heap.size ≤ k → ¬ SwS V B sb k) := ⟨fun k hk e => by have := hbS.out k e; omega⟩
          have hE5 := Bx.mk (hE.out.of hf5.out hns.out)
          have hg5 := Bx.mk (hf5.out.row hg.out (fun e => hnw.out _ hw1.out (.inl e)))
          have hf5w := Bx.mk (hf.out.trans (hf5.out.mono (S' := SwS V B sb) (fun k hk => .inl hk)))
          have hO5 := Bx.mk (hf5.out.row hO.out hx1.out)
          obtain ⟨-, -, -, c3⟩ := hO5.out.k4
          have hOl := hO5.out.lt
          obtain ⟨x0, x1, x2, -, -, -⟩ := hX.out.v3
          have hXl := hX.out.lt
          obtain ⟨m0, m1, m2, z0, z1, z2⟩ := hE5.out.ev3 hz24
          rw [hez.out] at m0 m1 m2
          have hEl := Row.lt hE5.out
          clear hC1 hC2 hz hO hRr hE hg hZ hf
          have hgd2 : ∀ u : World, (eqGuard .neq 92 (.tmp 68) (.tmp 75) (vV xx) (vV ez)).run Tryz.prog u = .ok () u := fun u => guard_v _ _ _ _ u
          cases hv : vEq xx ez
          · have hrun2 : ∀ u : World, (binOp .neq 92 (vV xx) (vV ez)).run Tryz.prog u = .ok (.bool true) u := fun u => by rw [neq_v, hv]; rfl
            go_wp2_with fail
            go_quiet (fail)
            go_upto_region 11 with fail
            refine world_cut (fun wz => Bx (Fr S0 wc wz)) ⟨⟨rfl, rfl, rfl, Nat.le_refl _, fun _ _ _ => rfl⟩⟩ ?_
            rintro wt hft
            have hE6 := Bx.mk (hE5.out.of hft.out (by simp))
            have hO6 := Bx.mk (hft.out.row0 hO5.out)
            have hX6 := Bx.mk (hft.out.row0 hX.out)
            clear c3 x0 x1 x2 m0 m1 m2 z0 z1 z2 hgd2 hrun2
            obtain ⟨-, -, -, c3⟩ := hO6.out.k4
            have hOl := hO6.out.lt
            obtain ⟨x0, x1, x2, -, -, -⟩ := hX6.out.v3
            obtain ⟨m0, m1, m2, z0, z1, z2⟩ := hE6.out.ev3 hz24
            have hEl := Row.lt hE6.out
            refine region_cut (fun w' => Bx (Fr S0 (sets wt sb (z * 3) (vA xx).toList) w')) ?_
            apply Exists.intro
            apply And.intro
            · go_region
              all_goals exact ⟨rfl, ⟨⟨rfl, rfl, rfl, Nat.le_refl _, fun _ _ _ => rfl⟩⟩⟩
            rintro wd hfd
            clear c3 x0 x1 x2 m0 m1 m2 z0 z1 z2
            go_wp2_with (first | (go_at_call 124; refine (Gr.bit_any z _ hz24).mono ?_; rintro e w' ⟨rfl, rfl⟩))
            go_roundw
            case rel =>
              have hS0 : Fr (fun k => k = sb) wt (sets wt sb (z * 3) (vA xx).toList) := fr_val (.inl rfl) (Fr.refl _ _)
              have hS1 := hS0.trans hfd.out.up
              exact ⟨i + 1, _, _, by omega, rfl, by go_num, hturn, ⟨(hZ5.out.fr0 hft.out).fr hS1 (fun k hk e => hns.out (e ▸ hk))⟩, ⟨(hE6.out.eput z xx).of hfd.out (by simp)⟩, ⟨hS1.row (hft.out.row0 hg5.out) (fun e => hnw.out _ hw1.out (.inr e))⟩, ⟨(hf5w.out.trans hft.out.up).trans (hS1.mono (S' := SwS V B sb) (fun k hk => .inr hk))⟩⟩
            case measure => simp [intOf]; omega
          · have hrun2 : ∀ u : World, (binOp .neq 92 (vV xx) (vV ez)).run Tryz.prog u = .ok (.bool false) u := fun u => by rw [neq_v, hv]; rfl
            have hnext := Bx.mk (hgo.out (vEq_iff.1 hv).symm)
            go_wp2_with fail
            go_quiet (fail)
            go_wp2_with fail
            go_roundw
            case rel => exact ⟨i + 1, t, ev, by omega, rfl, by go_num, hnext, ⟨hZ5.out.fr0 ⟨rfl, rfl, rfl, Nat.le_refl _, fun _ _ _ => rfl⟩⟩, ⟨hE5.out⟩, ⟨hg5.out⟩, ⟨hf5w.out.trans ⟨rfl, rfl, rfl, Nat.le_refl _, fun _ _ _ => rfl⟩⟩⟩
            case measure => simp [intOf]; omega
        · have hne : ((z : Int) != (c : Int)) = true := by simp; omega
          have hrun := hrunC.out e3
          clear e1 hrunC e3
          go_upto_region 8 with (first | (go_at_call 157; refine (hRx.out _ hf.out).mono ?_; clear hRx; rintro e w2 ⟨rfl, rfl⟩))
          go_quiet (fail)
          go_upto_region 9 with fail
          refine world_cut (fun wz => Bx (Fr S0 wr wz)) ⟨⟨rfl, rfl, rfl, Nat.le_refl _, fun _ _ _ => rfl⟩⟩ ?_
          rintro ws hfs
          clear c0 c1 c2 c3 r0 m0 m1 m2 q0 q1 q2 o0 hrun hgd
          have hZ := Bx.mk (hZ.out.fr0 hfs.out)
          have hE := Bx.mk (hE.out.of hfs.out (by simp))
          have hg := Bx.mk (hfs.out.row0 hg.out)
          have hf := Bx.mk (hf.out.trans hfs.out.up)
          have hO := Bx.mk (hfs.out.row0 hO.out)
          have hRr := Bx.mk (hfs.out.row0 hRr.out)
          obtain ⟨c0, c1, c2, c3⟩ := hO.out.k4
          have hOl := hO.out.lt
          have hRl := hRr.out.lt
          have r0 := hRr.out.cell z hz24
          have hC1 := Bx.mk (hC0.out ws.drew (hZ.out.fr0 (Fr.refl S0 _).drew) hE.out)
          have hC2 : Bx (∀ o, Calls Tryz.prog 158 #[pt V.e, .string (T z), sl sb 24 24] (ws.alloc o).drew fun e w'' => e = .returned (.tuple #[vV xx, I 0]) ∧ EZ w'' V B ∧ Fr (VF V B) (ws.alloc o).drew w'') := ⟨fun o => hC0.out _ (hZ.out.fr0 ((Fr.refl S0 _).alloc o).drew) (hE.out.of (S := S0) ((Fr.refl S0 _).alloc o).drew (by simp))⟩
          have hz : Bx (Row (ws.alloc (.cells #[I 0, I 0, .string es] 92)).drew ws.heap.size 3 (vC v0)) := ⟨(v_zero ws 92 rfl).drew⟩
          have hnq : Bx (¬ VF V B ws.heap.size) := ⟨hZ.out.ne (Nat.le_refl _)⟩
          have hcells : Bx (∀ w', Fr (VF V B) ws w' → w'.cell? ⟨xb, 0, none⟩ = some (pt V.e) ∧ w'.cell? ⟨xb, 2, none⟩ = some (sl rb 24 24) ∧ w'.cell? ⟨xb, 3, none⟩ = some (sl sb 24 24) ∧ w'.cell? ⟨rb, z, none⟩ = some (.string (T z)) ∧ xb < w'.heap.size ∧ rb < w'.heap.size) := ⟨fun w' f => by
            have q1 := f.row hO.out hx1.out
            have q2 := f.row hRr.out hr1.out
            exact ⟨q1.k4.1, q1.k4.2.2.1, q1.k4.2.2.2, q2.cell z hz24, q1.lt, q2.lt⟩⟩
          generalize T z = tz at r0 hC1 hC2 hcells
          have nq1 : ¬ xb = ws.heap.size := by omega
          have nq2 : ¬ rb = ws.heap.size := by omega
          clear hC0
          go_cut [11] from 15 to 88 (fun p wy => ∃ H : Nat, p = pt H ∧ Bx (Row wy H 3 (vC xx)) ∧ Bx (EZ wy V B) ∧ Bx (Fr (VF V B) ws wy) ∧ Bx (ws.heap.size ≤ H))
          case first =>
            go_region_held3 (fun w' => w'.cell? ⟨xb, 0, none⟩ = some (pt V.e) ∧ w'.cell? ⟨xb, 2, none⟩ = some (sl rb 24 24) ∧ w'.cell? ⟨xb, 3, none⟩ = some (sl sb 24 24) ∧ w'.cell? ⟨rb, z, none⟩ = some (.string tz)) (first | go_keep | exact ⟨(cell_sets3 nq1).trans (by assumption), (cell_sets3 nq1).trans (by assumption), (cell_sets3 nq1).trans (by assumption), (cell_sets3 nq2).trans (by assumption)⟩)
              (first
              | (go_at_call 158; refine hC1.out.mono ?_; rintro e w5 ⟨rfl, hm5, hf5⟩; obtain ⟨k0, k1, k2, k3, k4, k5⟩ := hcells.out w5 (((Fr.refl _ ws).drew).trans hf5); have hm5 := Bx.mk hm5; have hf5A := Bx.mk hf5)
              | (go_at_call 158; refine (hC2.out _).mono ?_; rintro e w5 ⟨rfl, hm5, hf5⟩; obtain ⟨k0, k1, k2, k3, k4, k5⟩ := hcells.out w5 ((((Fr.refl _ ws).alloc _).drew).trans hf5); have hT5 := Bx.mk (hf5.row hz.out hnq.out); obtain ⟨x0, x1, x2, y0, y1, y2⟩ := hT5.out.v3; have hm5 := Bx.mk hm5; have hf5B := Bx.mk hf5))
            all_goals (first | go_wp2_with fail | skip)
            all_goals go_meet
            all_goals first
              | (obtain ⟨a1, a2, a3, a4⟩ := cut_B xx hf5B.out hT5.out
                 exact ⟨ws.heap.size, rfl, ⟨a1⟩, ⟨hm5.out.fr a4 (fun k hk e => hnq.out (e ▸ hk))⟩, ⟨a2⟩, ⟨a3⟩⟩)
              | (obtain ⟨a1, a2, a3, a4⟩ := cut_A xx hf5A.out
                 exact ⟨w5.heap.size, rfl, ⟨a1⟩, ⟨hm5.out.fr0 a4⟩, ⟨a2⟩, ⟨a3⟩⟩)
          case rest =>
          obtain ⟨H, rfl, hX, hZ5, hf5, hH⟩ := hcut
          have hnw : Bx (∀ k, w.heap.size ≤ k → ¬ SwS V B sb k) := ⟨fun k hk e => by have := hbS.out k e; omega⟩
          have hE5 := Bx.mk (hE.out.of hf5.out hns.out)
          have hg5 := Bx.mk (hf5.out.row hg.out (fun e => hnw.out _ hw1.out (.inl e)))
          have hf5w := Bx.mk (hf.out.trans (hf5.out.mono (S' := SwS V B sb) (fun k hk => .inl hk)))
          have hO5 := Bx.mk (hf5.out.row hO.out hx1.out)
          obtain ⟨-, -, -, c3⟩ := hO5.out.k4
          have hOl := hO5.out.lt
          obtain ⟨x0, x1, x2, -, -, -⟩ := hX.out.v3
          have hXl := hX.out.lt
          obtain ⟨m0, m1, m2, z0, z1, z2⟩ := hE5.out.ev3 hz24
          rw [hez.out] at m0 m1 m2
          have hEl := Row.lt hE5.out
          clear hC1 hC2 hz hO hRr hE hg hZ hf
          have hgd2 : ∀ u : World, (eqGuard .neq 92 (.tmp 68) (.tmp 75) (vV xx) (vV ez)).run Tryz.prog u = .ok () u := fun u => guard_v _ _ _ _ u
          cases hv : vEq xx ez
          · have hrun2 : ∀ u : World, (binOp .neq 92 (vV xx) (vV ez)).run Tryz.prog u = .ok (.bool true) u := fun u => by rw [neq_v, hv]; rfl
            go_wp2_with fail
            go_quiet (fail)
            go_upto_region 11 with fail
            refine world_cut (fun wz => Bx (Fr S0 wc wz)) ⟨⟨rfl, rfl, rfl, Nat.le_refl _, fun _ _ _ => rfl⟩⟩ ?_
            rintro wt hft
            have hE6 := Bx.mk (hE5.out.of hft.out (by simp))
            have hO6 := Bx.mk (hft.out.row0 hO5.out)
            have hX6 := Bx.mk (hft.out.row0 hX.out)
            clear c3 x0 x1 x2 m0 m1 m2 z0 z1 z2 hgd2 hrun2
            obtain ⟨-, -, -, c3⟩ := hO6.out.k4
            have hOl := hO6.out.lt
            obtain ⟨x0, x1, x2, -, -, -⟩ := hX6.out.v3
            obtain ⟨m0, m1, m2, z0, z1, z2⟩ := hE6.out.ev3 hz24
            have hEl := Row.lt hE6.out
            refine region_cut (fun w' => Bx (Fr S0 (sets wt sb (z * 3) (vA xx).toList) w')) ?_
            apply Exists.intro
            apply And.intro
            · go_region
              all_goals exact ⟨rfl, ⟨⟨rfl, rfl, rfl, Nat.le_refl _, fun _ _ _ => rfl⟩⟩⟩
            rintro wd hfd
            clear c3 x0 x1 x2 m0 m1 m2 z0 z1 z2
            go_wp2_with (first | (go_at_call 124; refine (Gr.bit_any z _ hz24).mono ?_; rintro e w' ⟨rfl, rfl⟩))
            go_roundw
            case rel =>
              have hS0 : Fr (fun k => k = sb) wt (sets wt sb (z * 3) (vA xx).toList) := fr_val (.inl rfl) (Fr.refl _ _)
              have hS1 := hS0.trans hfd.out.up
              exact ⟨i + 1, _, _, by omega, rfl, by go_num, hturn, ⟨(hZ5.out.fr0 hft.out).fr hS1 (fun k hk e => hns.out (e ▸ hk))⟩, ⟨(hE6.out.eput z xx).of hfd.out (by simp)⟩, ⟨hS1.row (hft.out.row0 hg5.out) (fun e => hnw.out _ hw1.out (.inr e))⟩, ⟨(hf5w.out.trans hft.out.up).trans (hS1.mono (S' := SwS V B sb) (fun k hk => .inr hk))⟩⟩
            case measure => simp [intOf]; omega
          · have hrun2 : ∀ u : World, (binOp .neq 92 (vV xx) (vV ez)).run Tryz.prog u = .ok (.bool false) u := fun u => by rw [neq_v, hv]; rfl
            have hnext := Bx.mk (hgo.out (vEq_iff.1 hv).symm)
            go_wp2_with fail
            go_quiet (fail)
            go_wp2_with fail
            go_roundw
            case rel => exact ⟨i + 1, t, ev, by omega, rfl, by go_num, hnext, ⟨hZ5.out.fr0 ⟨rfl, rfl, rfl, Nat.le_refl _, fun _ _ _ => rfl⟩⟩, ⟨hE5.out⟩, ⟨hg5.out⟩, ⟨hf5w.out.trans ⟨rfl, rfl, rfl, Nat.le_refl _, fun _ _ _ => rfl⟩⟩⟩
            case measure => simp [intOf]; omega
end
end Go.Proofs.Qxb6500326aGreat
