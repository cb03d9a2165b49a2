import Derived.Test.Qxb6500326aGreatX15
import Derived.Deep.RegionWith
namespace Go.Proofs.Qxb6500326aGreat
set_option maxRecDepth 100000
set_option linter.unusedVariables false
set_option linter.unusedSimpArgs false
open Go.RowKit Go.PlainAid
def Qn (p : Act → World → Prop) : Exit → Act → World → Prop
  | .normal, a, w => p a w
  | _, _, _ => False
theorem Qn.out {p : Act → World → Prop} {e : Exit} {a : Act} {w : World} (h : Qn p e a w) : e = .normal ∧ p a w := by
  cases e <;> first | exact ⟨rfl, h⟩ | exact h.elim
theorem region_cut {P : Program} {c : Code} {Q : Exit → Act → World → Prop} {a : Act} {w : World} (R : World → Prop) (h : ∃ fr : Act, c.wp P (Qn (fun a' w' => a' = fr ∧ R w')) a w ∧ ∀ w', R w' → Q .normal fr w') : c.wp P Q a w := by
  obtain ⟨fr, h1, hk⟩ := h
  exact Code.wp_mono (fun e a w h => by obtain ⟨rfl, rfl, h2⟩ := h.out; exact hk w h2) h1
def bumped (m : Mk) (v : Int) : Mk := ⟨m.kind, m.op, m.st, m.n + 1, v⟩
theorem close_arg {b : Nat → Int} {n : Nat} {st : RS} {t : Tok} {m : Mk} {O' : List Mk} {a : Int} {V' : List Int} (hO : st.O = m :: O') (hV : st.V = a :: V') (hm : m.kind = 4) {r : RS × Int} (hr : st.add (nArg a m.link) = r) {s : RS} (hs : r.1.vo V' (bumped m r.2 :: O') = s) :
    st.close b n t = if t.kind = 44 then (s.take b n).hv false else if t.kind ≠ 41 then s.fail 3 t.st else if arity m.op (m.n + 1) = true then ((s.take b n).vo V' O').whole (nCall m.op r.2 (m.n + 1)) else ((s.take b n).vo V' O').fail 6 m.st := by
  unfold RS.close
  rw [hO]
  simp only
  rw [if_pos hm, hV]
  simp only
  rw [add_vo, hr]
  subst hs
  unfold closeArg
  simp only
  by_cases e : t.kind = 44
  · rw [if_pos e, if_pos e]; rfl
  · rw [if_neg e, if_neg e]
    unfold RS.closeTail
    by_cases e2 : t.kind ≠ 41
    · rw [if_pos e2, if_pos e2]; rfl
    · rw [if_neg e2, if_neg e2]
      simp only
      rw [if_neg (by show ¬ m.kind = 3; omega)]
      rfl
set_option maxRecDepth 100000 in
set_option maxHeartbeats 8000000 in
theorem close_call (B : FB) (b : Nat → Int) (n nt k : Nat) (st : RS) (t : Tok) (w : World) (h : AF w B b n nt k st) (hts : Hts k 1 st) (m : Mk) (O' : List Mk) (hO : st.O = m :: O') (a : Int) (V' : List Int) (hV : st.V = a :: V') (hm : m.kind = 4) (ht : t = lex b n st.pos) :
    Calls Tryz.prog 194 #[pt B.f, tkV t] w (Turned w B b n nt k st (st.close b n t)) := by
  obtain ⟨hkn, hn41, hpn⟩ := h.kn
  have hol : st.O.length ≤ 41 := by have := hts.ok; omega
  have hvl : st.V.length ≤ 41 := by have := hts.vk; omega
  obtain ⟨c9, z9, c8, k0, k1, k2, k3, k4, lf, lo⟩ := h.top hO hol
  have hmn := hts.mn m (by rw [hO]; exact List.mem_cons_self)
  obtain ⟨mn0, mnk⟩ := hmn
  have mn1 : m.n ≤ 40 := by omega
  obtain ⟨r, hr⟩ : ∃ r, st.add (nArg a m.link) = r := ⟨_, rfl⟩
  obtain ⟨s, hs⟩ : ∃ s, r.1.vo V' (bumped m r.2 :: O') = s := ⟨_, rfl⟩
  rw [close_arg hO hV hm hr hs]
  have hnb := Bx.mk (fun j (hj : w.heap.size ≤ j) => h.lts hj)
  obtain ⟨F, hF, hR, rfl, rfl⟩ := h
  have hnv := hR.nvl
  have hno := hR.nol
  obtain ⟨v1, v2, v3⟩ := hR.topV hV
  obtain ⟨o1, o2, o3⟩ := hR.topO hO
  obtain ⟨q, hq⟩ : ∃ q, F.nv = q + 1 := ⟨F.nv - 1, by omega⟩
  rw [hq, Nat.add_sub_cancel] at v2 v3
  have hq41 : (q : Int) < 41 := by omega
  have hpl : F.no = O'.length + 1 := by rw [hno, hO]; rfl
  rw [hpl, Nat.add_sub_cancel] at o2 o3
  have hp41 : (O'.length : Int) < 41 := by omega
  have hp41n : O'.length < 41 := by omega
  have c7 := hF.row.cell 7 (by omega)
  have z7 := hF.row.frozen 7
  have c6 := hF.row.cell 6 (by omega)
  simp only [fmC] at c7 c6
  rw [hq] at c7
  have cq := hF.opnd.cell q (by omega)
  rw [v2] at cq
  obtain ⟨l1, l2, l3, l4, l5, l6, l7⟩ := hF.lts
  have h1 := hF.set (F' := { F with nv := q }) 7 (I q) (by intro i hi; rcases i with _ | _ | _ | _ | _ | _ | _ | _ | _ | _ | _ | _ | _ | _ | _ | _ | _ | i <;> first | rfl | omega) rfl rfl rfl rfl rfl rfl rfl
  have g6 := h1.row.cell 6 (by omega)
  have g7 := h1.row.cell 7 (by omega)
  have gq := h1.opnd.cell q (by omega)
  simp only [fmC] at g6 g7
  rw [show ({ F with nv := q } : Fmr).opnd q = a from v2] at gq
  have hrel1 : Rel b n { F with nv := q } (st.vo V' (m :: O')) := { hR with
    V := v3
    O := by show m :: O' = ((List.range F.no).map F.ops).reverse; rw [← hO]; exact hR.O }
  have hAx : AFx (((((w.setCell ⟨B.f, 7, none⟩ (I q)).alloc (.cells (tkA t) 213)).alloc (.cells (mkA m) 220)).drew).drew) B b n F.nt F.k (st.vo V' (m :: O')) F.ops F.opnd := ⟨_, (((h1.alloc _).alloc _).drew).drew, hrel1, rfl, rfl, rfl, rfl⟩
  have hadd := addY B b n F.nt F.k (st.vo V' (m :: O')) F.ops F.opnd (nArg a m.link) _ hAx
  rw [add_vo, hr] at hadd
  have hadd := Bx.mk hadd
  have hT0 := Bx.mk ((((tk_new (w.setCell ⟨B.f, 7, none⟩ (I q)) t (H := w.heap.size) (by simp)).alloc (.cells (mkA m) 220)).drew).drew)
  have hM0 := Bx.mk (((mk_new ((w.setCell ⟨B.f, 7, none⟩ (I q)).alloc (.cells (tkA t) 213)) m (H := w.heap.size + 1) (by simp))).drew).drew
  have hfr0 : Bx (Fr (FmS B) w (((((w.setCell ⟨B.f, 7, none⟩ (I q)).alloc (.cells (tkA t) 213)).alloc (.cells (mkA m) 220)).drew).drew)) := Bx.mk (((((Fr.refl _ _).fm 7 _).alloc _).alloc _).drew).drew
  have e4 : (m.kind == 4) = true := by simp [hm]
  have e3 : (m.kind == 3) = false := by simp [hm]
  have hsp : s.pos = st.pos := by rw [← hs, ← hr]; show (st.add (nArg a m.link)).1.pos = st.pos; unfold RS.add; split; rfl; split; exact (fail_V st 7 st.pos).2.2.2.1; rfl
  have hvin : Vin s := by rw [← hs, ← hr]; exact vin_add0 _ (fun v hv => hts.vin v (by rw [hV]; exact List.mem_cons_of_mem _ hv))
  have hs2 := hts.pop hO (by omega)
  have hg : Hts (F.k + 1) 0 s := by
    have hl := hs2.len
    have hl2 : st.V.length = bins O' + 1 := hl
    rw [hV] at hl2
    simp only [List.length_cons] at hl2
    have hVl : V'.length + 1 ≤ F.k := by have := hts.vk; rw [hV] at this; simpa using this
    have hOl : O'.length + 1 ≤ F.k := by have := hts.ok; rw [hO] at this; simpa using this
    rw [← hs]
    refine ⟨?_, by show V'.length ≤ F.k + 1; omega, by show (bumped m r.2 :: O').length ≤ F.k + 1; simp; omega, by rw [hs]; exact hvin, ?_, ?_, ?_⟩
    · show V'.length = (if m.kind = 2 then 1 else 0) + bins O' + 0
      rw [if_neg (by omega)]; omega
    · intro m' hm'
      have hm' : m' ∈ bumped m r.2 :: O' := hm'
      rw [List.mem_cons] at hm'
      rcases hm' with rfl | hm'
      · exact ⟨by show 0 ≤ m.n + 1; omega, by show m.n + 1 ≤ ((F.k + 1 : Nat) : Int); omega⟩
      · have := hs2.mn m' hm'; omega
    · exact ⟨fun e => absurd e (by show ¬ m.kind = 2; omega), hs2.so⟩
    · intro m' hm'
      have hm' : m' ∈ bumped m r.2 :: O' := hm'
      rw [List.mem_cons] at hm'
      rcases hm' with rfl | hm'
      · exact ⟨by show 1 ≤ m.kind; omega, by show m.kind ≤ 4; omega⟩
      · exact hs2.kd m' hm'
  have htk : ∀ wx, AF wx B b n F.nt F.k s → t.kind ≠ 0 → Calls Tryz.prog 196 #[pt B.f] wx (Ran wx B b n F.nt (F.k + 1) (s.take b n) (.tuple #[])) := fun wx hx hk => takeX B b n F.nt F.k s wx hx (by rw [hsp, ← ht]; exact hk)
  have hsB := Bx.mk hs
  have hvlt := Bx.mk (show V'.length + 1 ≤ F.k from by have := hts.vk; rw [hV] at this; simpa using this)
  have o2B := Bx.mk o2
  have o3B := Bx.mk o3
  have hplB := Bx.mk hpl
  have v2B := Bx.mk v2
  have v3B := Bx.mk v3
  have nvf : ¬ B.v = w.heap.size + 1 := by omega
  have nff : ¬ B.f = w.heap.size + 1 := by omega
  have nof : ¬ B.o = w.heap.size + 1 := by omega
  have nfv : w.heap.size + 1 ≠ B.v := by omega
  have nff2 : w.heap.size + 1 ≠ B.f := by omega
  have nof2 : w.heap.size + 1 ≠ B.o := by omega
  have fo : B.f ≠ B.o := hF.ok.fo
  have hgB := Bx.mk hg
  have hsO : Bx (s.O = bumped m r.2 :: O') := Bx.mk (by rw [← hs]; rfl)
  have hsV : Bx (s.V = V') := Bx.mk (by rw [← hs]; rfl)
  have hw1 : IntKind.i64.wrap (m.n + 1) = m.n + 1 := by rw [IntKind.wrap_i64]; omega
  generalize hRes0 : (if t.kind = 44 then (s.take b n).hv false else if t.kind ≠ 41 then s.fail 3 t.st else if arity m.op (m.n + 1) = true then ((s.take b n).vo V' O').whole (nCall m.op r.2 (m.n + 1)) else ((s.take b n).vo V' O').fail 6 m.st) = R0
  have hRes := Bx.mk hRes0
  have htkB := Bx.mk htk
  have hol2 := Bx.mk hol
  have hvl2 := Bx.mk hvl
  clear htk hRes0
  clear hF hR hnv hno v1 v2 v3 o1 o2 o3 hq hpl h1 hrel1 hAx hs hr hO hV hm hs2 hg hsp hvin hts ht
  go_enter Tryz.func194, Tryz.ntmps194
  go_wp2_with fail
  go_region
  go_wp2_with fail
  refine region_cut (fun w' => ∃ w2, w' = w2.setCell ⟨w.heap.size + 1, 4, none⟩ (I r.2) ∧ AFx w2 B b n F.nt F.k (r.1.vo V' (m :: O')) F.ops F.opnd ∧ Fr (FmS B) (((((w.setCell ⟨B.f, 7, none⟩ (I q)).alloc (.cells (tkA t) 213)).alloc (.cells (mkA m) 220)).drew).drew) w2) ?_
  apply Exists.intro
  apply And.intro
  · go_region_with (first | (go_at_call 222; refine hadd.out.mono ?_; rintro e w2 ⟨rfl, hA2, hf2⟩; have hM2 := Bx.mk (hf2.row hM0.out (hnb.out _ (by omega))); have x4 := hM2.out.cell 4 (by omega); have y4 := hM2.out.frozen 4; simp only [mkC] at x4; have hA2 := Bx.mk hA2))
    all_goals exact ⟨rfl, w2, rfl, hA2.out, hf2⟩
  rintro w0 ⟨w2, rfl, hA2, hf2⟩
  clear hadd
  have hM2 := Bx.mk (hf2.row hM0.out (hnb.out _ (by omega)))
  have hT2 := Bx.mk (hf2.row hT0.out (hnb.out _ (Nat.le_refl _)))
  obtain ⟨F2, hF2, hR2, e1, e2, e3', e4'⟩ := hA2
  have hF2 := Bx.mk hF2
  have hR2 := Bx.mk hR2
  have e1 := Bx.mk e1
  have e2 := Bx.mk e2
  have e3' := Bx.mk e3'
  clear e4'
  have hM3 := Bx.mk (((hM2.out.set 4 (I r.2)).set 3 (I (m.n + 1))).congr (us := mkC (bumped m r.2)) (by intro i hi; rcases i with _ | _ | _ | _ | _ | i <;> first | rfl | omega))
  have hfM : Fr (fun j => j = w.heap.size + 1) w2 ((w2.setCell ⟨w.heap.size + 1, 4, none⟩ (I r.2)).setCell ⟨w.heap.size + 1, 3, none⟩ (I (m.n + 1))) := ((Fr.refl (fun j => j = w.heap.size + 1) _).setCell (p := ⟨w.heap.size + 1, 4, none⟩) (.inl rfl) _).setCell (p := ⟨w.heap.size + 1, 3, none⟩) (.inl rfl) _
  have hF3 := Bx.mk (hF2.out.fr hfM (fun j hj e => hnb.out j (by rw [show j = w.heap.size + 1 from e]; omega) hj))
  have hT3 := Bx.mk (hfM.row hT2.out (by show ¬ w.heap.size = w.heap.size + 1; omega))
  clear hfM
  have u3 := (hM2.out.set 4 (I r.2)).cell 3 (by omega)
  have uz := (hM2.out.set 4 (I r.2)).frozen 3
  rw [upd_other _ _ (by omega)] at u3
  simp only [mkC] at u3
  go_wp2_with fail
  have a8 := hF3.out.row.cell 8 (by omega)
  have a9 := hF3.out.row.cell 9 (by omega)
  simp only [fmC] at a8 a9
  have e7 := hR2.out.nol
  rw [show (r.1.vo V' (m :: O')).O = m :: O' from rfl] at e7
  simp only [List.length_cons] at e7
  rw [e7] at a9
  have b0 := hF3.out.ops.cell0 O'.length (by omega) (by omega)
  have b1 := hF3.out.ops.cell O'.length 1 (by omega) (by omega)
  have b2 := hF3.out.ops.cell O'.length 2 (by omega) (by omega)
  have b3 := hF3.out.ops.cell O'.length 3 (by omega) (by omega)
  have b4 := hF3.out.ops.cell O'.length 4 (by omega) (by omega)
  have bz := hF3.out.ops.frozen (O'.length * 5)
  have bzz := fun j => hF3.out.ops.frozen (O'.length * 5 + j)
  have m0 := hM3.out.cell 0 (by omega)
  have m1 := hM3.out.cell 1 (by omega)
  have m2 := hM3.out.cell 2 (by omega)
  have m3 := hM3.out.cell 3 (by omega)
  have m4 := hM3.out.cell 4 (by omega)
  simp only [mkC, bumped] at m0 m1 m2 m3 m4
  have e7B := Bx.mk e7
  clear e7

  have hrel : Bx (Rel b n { F2 with ops := upd F2.ops O'.length (bumped m r.2) } s) := Bx.mk (by
    rw [← hsB.out]
    exact { hR2.out with
      O := by show bumped m r.2 :: O' = ((List.range F2.no).map (upd F2.ops O'.length (bumped m r.2))).reverse; rw [e7B.out, range_rev, upd_same, range_upd _ _ _ _ (Nat.le_refl _), e3'.out]; exact congrArg (fun z => bumped m r.2 :: z) o3B.out })
  have hA4' := Bx.mk (show AF ((sets ((w2.setCell ⟨w.heap.size + 1, 4, none⟩ (I r.2)).setCell ⟨w.heap.size + 1, 3, none⟩ (I (m.n + 1))) B.o (O'.length * 5) (mkA (bumped m r.2)).toList).drew) B b n F.nt F.k s from ⟨_, (hF3.out.putOps O'.length (bumped m r.2)).drew, hrel.out, e1.out, e2.out⟩)
  have hoF := oneBlock ((w2.setCell ⟨w.heap.size + 1, 4, none⟩ (I r.2)).setCell ⟨w.heap.size + 1, 3, none⟩ (I (m.n + 1))) B.o (O'.length * 5) (mkA (bumped m r.2)).toList
  have hM4' := Bx.mk ((hoF.row hM3.out (by show ¬ w.heap.size + 1 = B.o; omega)).drew)
  have hT4' := Bx.mk ((hoF.row hT3.out (by show ¬ w.heap.size = B.o; omega)).drew)
  have hfr4' : Bx (Fr (FmS B) w ((sets ((w2.setCell ⟨w.heap.size + 1, 4, none⟩ (I r.2)).setCell ⟨w.heap.size + 1, 3, none⟩ (I (m.n + 1))) B.o (O'.length * 5) (mkA (bumped m r.2)).toList).drew)) := Bx.mk ((((((hfr0.out.trans hf2).setCell (p := ⟨w.heap.size + 1, 4, none⟩) (.inr (by show w.heap.size ≤ w.heap.size + 1; omega)) _).setCell (p := ⟨w.heap.size + 1, 3, none⟩) (.inr (by show w.heap.size ≤ w.heap.size + 1; omega)) _).fmO _ _).drew))
  refine region_cut (fun w' => AF w' B b n F.nt F.k s ∧ Row w' (w.heap.size + 1) 5 (mkC (bumped m r.2)) ∧ Row w' w.heap.size 9 (tkC t) ∧ Fr (FmS B) w w') ?_
  apply Exists.intro
  apply And.intro
  · go_region
    exact ⟨rfl, hA4'.out, hM4'.out, hT4'.out, hfr4'.out⟩
  rintro w4 ⟨hA4, hM4, hT4, hfr4⟩
  have hA4 := Bx.mk hA4
  have hM4 := Bx.mk hM4
  have hT4 := Bx.mk hT4
  have hfr4 := Bx.mk hfr4
  clear hoF a8 a9 b0 b1 b2 b3 b4 bz bzz m0 m1 m2 m3 m4 u3 uz k0 k1 k2 k3 k4 c7 c6 cq g6 g7 gq c8 c9 hA4' hM4' hT4' hfr4' hrel hF3 hM3 hT3 hF2 hR2 hM2 hT2 hf2 hM0 hT0 hfr0 hw1
  have y0 := hT4.out.cell 0 (by omega)
  have y1 := hT4.out.cell 1 (by omega)
  simp only [tkC] at y0 y1
  have hMn := Bx.mk (hnb.out (w.heap.size + 1) (by omega))
  have hHn := Bx.mk (hnb.out (w.heap.size) (Nat.le_refl _))
  by_cases c44 : t.kind = 44
  · have d44 : (t.kind == 44) = true := by simpa using c44
    have hR0 : Bx (R0 = (s.take b n).hv false) := Bx.mk (by rw [← hRes.out, if_pos c44])
    have hTk := Bx.mk (fun wx hx => htkB.out wx hx (by rw [c44]; decide))
    clear c44
    generalize hs1 : s.take b n = s1 at *
    have hg2 : Bx (Hts (F.k + 1) 0 (s1.hv false)) := Bx.mk (by rw [← hs1]; exact ⟨hgB.out.len, hgB.out.vk, hgB.out.ok, hgB.out.vin, hgB.out.mn, hgB.out.so, hgB.out.kd⟩)
    clear hs1
    go_wp2_with (first
      | (go_at_call 196; refine (hTk.out _ hA4.out).mono ?_; clear hTk; rintro e w5 ⟨rfl, hA5, hf5⟩; obtain ⟨F5, hF5, hR5, e5, e6⟩ := hA5; have d10 := hF5.row.cell 10 (by omega); have y10 := hF5.row.frozen 10; simp only [fmC] at d10; have hF5 := Bx.mk hF5; have hR5 := Bx.mk hR5; have e5 := Bx.mk e5; have e6 := Bx.mk e6))
    go_returns
    rw [hR0.out]
    exact ⟨rfl, ⟨F.k + 1, ⟨_, hF5.out.set (F' := { F5 with hav := false }) 10 (.bool false) (by intro i hi; rcases i with _ | _ | _ | _ | _ | _ | _ | _ | _ | _ | _ | _ | _ | _ | _ | _ | _ | i <;> first | rfl | omega) rfl rfl rfl rfl rfl rfl rfl, { hR5.out with hav := rfl }, e5.out, e6.out⟩, by omega, fun e => ⟨fun _ => by omega, by rw [if_neg (by show ¬ false = true; decide)]; exact hg2.out, fun e => absurd e (by show ¬ false = true; decide)⟩⟩, (hfr4.out.trans hf5).fm 10 _⟩
  have d44 : (t.kind == 44) = false := by simpa using c44
  by_cases c41 : t.kind = 41
  · have d41 : (t.kind != 41) = false := by simpa using c41
    have hTk := Bx.mk (fun wx hx => htkB.out wx hx (by rw [c41]; decide))
    have hO1 : (s.take b n).O = bumped m r.2 :: O' := hsO.out
    have hV1 : (s.take b n).V = V' := hsV.out
    have hk2 : (bumped m r.2).kind ≠ 2 := by show m.kind ≠ 2; have := e4; simp at this; omega
    have hg1 := hgB.out.pop hsO.out hk2
    rw [hsV.out] at hg1
    have hg2 : Hts (F.k + 1) 0 ((s.take b n).vo V' O') := ⟨hg1.len, hg1.vk, hg1.ok, hg1.vin, hg1.mn, hg1.so, hg1.kd⟩
    have hpop := Bx.mk (fun wx (hx : AF wx B b n F.nt (F.k + 1) (s.take b n)) => by have := hx.pop hO1; rw [hV1] at this; exact this)
    have htop := Bx.mk (fun wx (hx : AF wx B b n F.nt (F.k + 1) (s.take b n)) => hx.top hO1 (by rw [hO1]; simp; omega))
    have hRt : (if arity m.op (m.n + 1) = true then ((s.take b n).vo V' O').whole (nCall m.op r.2 (m.n + 1)) else ((s.take b n).vo V' O').fail 6 m.st) = R0 := by have hh := hRes.out; rw [if_neg c44, if_neg (show ¬ t.kind ≠ 41 from fun e => e c41)] at hh; exact hh
    have hvv : ((s.take b n).vo V' O').V.length < F.k + 1 := by show V'.length < F.k + 1; have := hvlt.out; omega
    generalize (s.take b n).vo V' O' = s2 at *
    generalize s.take b n = s1 at *
    clear c44 c41 hg1 hO1 hV1 hk2
    cases har : arity m.op (m.n + 1)
    · rw [har, if_neg (by decide)] at hRt
      have hR0 := Bx.mk hRt
      have harB := Bx.mk har
      have hfl := Bx.mk (fun wx hx => failX B b n F.nt (F.k + 1) s2 6 m.st wx hx)
      have her := Bx.mk (fail_errR s2 (e := 6) (by decide) m.st)
      clear har hRt hg2
      go_wp2_with (first
        | (go_at_call 196; refine (hTk.out _ hA4.out).mono ?_; clear hTk; rintro e w5 ⟨rfl, hA5, hf5⟩; have hM5 := Bx.mk (hf5.row hM4.out hMn.out); obtain ⟨d9, y9, -, -, -, -, -, -, -, -⟩ := htop.out _ hA5; have i0 := hM5.out.cell 0 (by omega); have i1 := hM5.out.cell 1 (by omega); have i2 := hM5.out.cell 2 (by omega); have i3 := hM5.out.cell 3 (by omega); have i4 := hM5.out.cell 4 (by omega); simp only [mkC, bumped] at i0 i1 i2 i3 i4; have hP5 := Bx.mk (hpop.out _ hA5); clear hpop htop)
        | (go_at_call 212; refine (arity_any _ _ _).mono ?_; rintro e w6 ⟨rfl, rfl⟩; rw [harB.out])
        | (go_at_call 195; refine (hfl.out _ hP5.out).mono ?_; clear hfl; rintro e w7 ⟨rfl, hA7, hf7⟩))
      go_returns
      rw [← hR0.out]
      exact ⟨rfl, ⟨F.k + 1, hA7, by omega, fun e => absurd e her.out⟩, ((hfr4.out.trans hf5).fm 9 _).trans hf7⟩
    · rw [har, if_pos rfl] at hRt
      have hR0 := Bx.mk hRt
      have harB := Bx.mk har
      have hwh := Bx.mk (fun wx hx => wholeX B b n F.nt (F.k + 1) s2 (nCall m.op r.2 (m.n + 1)) wx hx (by have := hx.kn; have := hg2.ok; omega) (by have := hx.kn; omega) hg2.len)
      have hwt := Bx.mk (whole_hts hg2 hvv (nCall m.op r.2 (m.n + 1)))
      clear har hRt hg2
      go_wp2_with (first
        | (go_at_call 196; refine (hTk.out _ hA4.out).mono ?_; clear hTk; rintro e w5 ⟨rfl, hA5, hf5⟩; have hM5 := Bx.mk (hf5.row hM4.out hMn.out); obtain ⟨d9, y9, -, -, -, -, -, -, -, -⟩ := htop.out _ hA5; have i0 := hM5.out.cell 0 (by omega); have i1 := hM5.out.cell 1 (by omega); have i2 := hM5.out.cell 2 (by omega); have i3 := hM5.out.cell 3 (by omega); have i4 := hM5.out.cell 4 (by omega); simp only [mkC, bumped] at i0 i1 i2 i3 i4; have hP5 := Bx.mk (hpop.out _ hA5); clear hpop htop)
        | (go_at_call 212; refine (arity_any _ _ _).mono ?_; rintro e w6 ⟨rfl, rfl⟩; rw [harB.out])
        | (go_at_call 198; refine (hwh.out _ hP5.out).mono ?_; clear hwh; rintro e w7 ⟨rfl, hA7, hf7⟩))
      go_returns
      rw [← hR0.out]
      exact ⟨rfl, ⟨F.k + 1, hA7, by omega, fun e => ⟨fun _ => by omega, by rw [hwt.out.2.1]; exact hwt.out.1, fun _ => hwt.out.2.2⟩⟩, ((hfr4.out.trans hf5).fm 9 _).trans hf7⟩
  · have d41 : (t.kind != 41) = true := by simpa using c41
    have hR0 : Bx (R0 = s.fail 3 t.st) := Bx.mk (by rw [← hRes.out, if_neg c44, if_pos c41])
    have hfl := Bx.mk (fun wx hx => failX B b n F.nt F.k s 3 t.st wx hx)
    have her := Bx.mk (fail_errR s (e := 3) (by decide) t.st)
    clear c44 c41
    go_wp2_with (first
      | (go_at_call 195; refine (hfl.out _ hA4.out).mono ?_; clear hfl; rintro e w5 ⟨rfl, hA5, hf5⟩))
    go_returns
    rw [hR0.out]
    exact ⟨rfl, ⟨F.k, hA5, Nat.le_refl _, fun e => absurd e her.out⟩, hfr4.out.trans hf5⟩
end Go.Proofs.Qxb6500326aGreat
