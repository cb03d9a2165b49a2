import Derived.Test.Qxb6500326aGreatX6
namespace Go.Proofs.Qxb6500326aGreat
set_option maxRecDepth 100000
set_option linter.unusedVariables false
set_option linter.unusedSimpArgs false
open Go.RowKit Go.PlainAid
def RS.hv (st : RS) (h : Bool) : RS := { st with hav := h }
theorem add_hv (st : RS) (x : Nd) (h : Bool) : (st.hv h).add x = ((st.add x).1.hv h, (st.add x).2) := by
  unfold RS.add RS.fail RS.hv
  simp only
  repeat' split
  all_goals rfl
theorem negs_nil (st : RS) : negs [] st = st := rfl
theorem negs_cons {m : Mk} {O' : List Mk} {st : RS} {a : Int} {V' : List Int} (hk : m.kind = 1) (hV : st.V = a :: V') : negs (m :: O') st = negs O' ((st.add (nNeg a)).1.vo ((st.add (nNeg a)).2 :: V') O') := by
  show (if m.kind = 1 then _ else _) = _
  rw [if_pos hk, hV]
  simp only
  unfold RS.addTo
  rw [add_vo]
  rfl
theorem negs_stop {m : Mk} {O' : List Mk} {st : RS} (hk : ¬ m.kind = 1) : negs (m :: O') st = st := by
  show (if m.kind = 1 then _ else _) = _
  rw [if_neg hk]
theorem negs_hv : ∀ (O : List Mk) (st : RS) (h : Bool), negs O (st.hv h) = (negs O st).hv h
  | [], st, h => rfl
  | m :: O', st, h => by
    by_cases hk : m.kind = 1
    · cases hV : st.V with
      | nil =>
        have e1 : negs (m :: O') st = st := by show (if m.kind = 1 then _ else _) = _; rw [if_pos hk, hV]
        have e2 : negs (m :: O') (st.hv h) = st.hv h := by show (if m.kind = 1 then _ else _) = _; rw [if_pos hk, show (st.hv h).V = [] from hV]
        rw [e1, e2]
      | cons a V' =>
        rw [negs_cons hk hV, negs_cons hk (show (st.hv h).V = a :: V' from hV), add_hv, ← negs_hv O']
        rfl
    · rw [negs_stop hk, negs_stop hk]
theorem join_hv (st : RS) (h : Bool) : (st.hv h).join = st.join.hv h := by
  cases hO : st.O with
  | nil => unfold RS.join; rw [show (st.hv h).O = [] from hO, hO]
  | cons m O' =>
    cases hV : st.V with
    | nil => unfold RS.join; rw [show (st.hv h).O = m :: O' from hO, hO, show (st.hv h).V = [] from hV, hV]
    | cons y V1 =>
      cases V1 with
      | nil => unfold RS.join; rw [show (st.hv h).O = m :: O' from hO, hO, show (st.hv h).V = [y] from hV, hV]
      | cons x V' =>
        rw [join_eq hO hV, join_eq (st := st.hv h) hO hV, add_hv]
        rfl
/-- settle, the flag set last. -/
theorem settle_eq (st : RS) : st.settle = (if topOf (negs st.O st).O = 3 then (negs st.O st).join else negs st.O st).hv true := by
  unfold RS.settle
  have e : ({ st with hav := true } : RS) = st.hv true := rfl
  simp only [e, negs_hv]
  rw [show ((negs st.O st).hv true).O = (negs st.O st).O from rfl]
  split
  · rw [join_hv]
  · rfl
/-- How many operators lie on the stack. -/
def bins : List Mk → Nat
  | [] => 0
  | m :: O => (if m.kind = 2 then 1 else 0) + bins O
theorem AF.no {w : World} {B : FB} {b : Nat → Int} {n nt k : Nat} {st : RS} (h : AF w B b n nt k st) : cellN w ⟨B.f, 9, none⟩ = st.O.length := by
  obtain ⟨F, hF, hR, -, -⟩ := h
  unfold cellN
  rw [hF.row.cell 9 (by omega)]
  simp only [fmC]
  rw [hR.nol]; simp
set_option maxRecDepth 100000 in
set_option maxHeartbeats 4000000 in
theorem settleX (B : FB) (b : Nat → Int) (n nt k : Nat) (st : RS) (w : World) (h : AF w B b n nt k st) (ho : st.O.length ≤ 41) (hv : st.V.length ≤ 41) (hb : st.V.length = bins st.O + 1) :
    Calls Tryz.prog 223 #[pt B.f] w (Ran w B b n nt k st.settle (.tuple #[])) := by
  rw [settle_eq]
  generalize hN : negs st.O st = N0
  generalize hRes0 : (if topOf N0.O = 3 then N0.join else N0).hv true = R0
  have hRes := Bx.mk hRes0
  clear hRes0
  have hA := Bx.mk h
  clear h
  go_enter Tryz.func223, Tryz.ntmps223
  go_wp2_with fail
  go_loopw [2] (fun _ wr => ∃ st' : RS, AF wr B b n nt k st' ∧ negs st'.O st' = N0 ∧ st'.O.length ≤ 41 ∧ st'.V.length ≤ 41 ∧ st'.V.length = bins st'.O + 1 ∧ Fr (FmS B) w wr) (fun _ wr => cellN wr ⟨B.f, 9, none⟩)
  case atStart => exact ⟨st, hA.out, hN, ho, hv, hb, Fr.refl _ _⟩
  case round =>
    clear hA hN ho hv hb
    obtain ⟨s, hAF, hN, ho, hv, hb, hfr⟩ := hrel
    have hcn := Bx.mk hAF.no
    have hAFB := Bx.mk hAF
    obtain ⟨F, hF, hR, rfl, rfl⟩ := hAF
    have hno := hR.nol
    have hnv := hR.nvl
    have c8 := hF.row.cell 8 (by omega)
    have c9 := hF.row.cell 9 (by omega)
    have z9 := hF.row.frozen 9
    have c6 := hF.row.cell 6 (by omega)
    have c7 := hF.row.cell 7 (by omega)
    simp only [fmC] at c8 c9 c6 c7
    cases hO : s.O with
    | nil =>
      rw [hO] at hno hN
      rw [show F.no = 0 from hno] at c9
      rw [negs_nil] at hN
      subst hN
      have htop : Bx (∀ wx, AF wx B b n F.nt F.k s → Calls Tryz.prog 192 #[pt B.f] wx (Ran wx B b n F.nt F.k s (I 0))) := Bx.mk (fun wx hx => by have := topX B b n F.nt F.k s wx hx ho; rw [hO] at this; exact this)
      have hif : Bx ((if topOf s.O = 3 then s.join else s) = s) := Bx.mk (by rw [hO]; rfl)
      clear hF hR hno hnv
      go_wp2_with fail
      go_quiet (fail)
      go_wp2_with (first
        | (go_at_call 192; refine (htop.out _ (hAFB.out.drewN _)).mono ?_; clear htop; rintro e w1 ⟨rfl, hA1, hf1⟩; obtain ⟨F1, hF1, hR1, e1, e2⟩ := hA1; have d10 := hF1.row.cell 10 (by omega); have y10 := hF1.row.frozen 10; simp only [fmC] at d10; have hF1 := Bx.mk hF1; have hR1 := Bx.mk hR1; have e1 := Bx.mk e1; have e2 := Bx.mk e2))
      go_end0
      rw [← hRes.out, hif.out]
      exact ⟨rfl, ⟨{ F1 with hav := true }, hF1.out.set (F' := { F1 with hav := true }) 10 (.bool true) (by intro i hi; rcases i with _ | _ | _ | _ | _ | _ | _ | _ | _ | _ | _ | _ | _ | _ | _ | _ | _ | i <;> first | rfl | omega) rfl rfl rfl rfl rfl rfl rfl, { hR1.out with hav := rfl }, e1.out, e2.out⟩, ((hfr.drewN _).trans hf1).fm 10 _⟩
    | cons m O' =>
      obtain ⟨t1, t2, t3⟩ := hR.topO hO
      obtain ⟨p, hp⟩ : ∃ p, F.no = p + 1 := ⟨F.no - 1, by omega⟩
      have hol : O'.length = p := by rw [hO] at hno; simp at hno; omega
      have hp41 : (p : Int) < 41 := by omega
      have k0 := hF.ops.cell0 p (by omega) (by omega)
      rw [hp] at c9 t2 t3
      rw [Nat.add_sub_cancel] at t2 t3
      rw [t2] at k0
      simp only [mkC] at k0
      have e0 : decide ((0 : Int) < ((p + 1 : Nat) : Int)) = true := decide_eq_true (by omega)
      have e1' : decide ((0 : Int) < (p : Int) + 1) = true := decide_eq_true (by omega)
      have e2' : (0 : Int) < (p : Int) + 1 := by omega
      by_cases hk : m.kind = 1
      · have hkd : (m.kind == 1) = true := by simpa using hk
        obtain ⟨a, V', hV⟩ : ∃ a V', s.V = a :: V' := by
          cases hV : s.V with
          | nil => rw [hV] at hb; simp at hb
          | cons a V' => exact ⟨a, V', rfl⟩
        obtain ⟨v1, v2, v3⟩ := hR.topV hV
        obtain ⟨q, hq⟩ : ∃ q, F.nv = q + 1 := ⟨F.nv - 1, by omega⟩
        rw [hq, Nat.add_sub_cancel] at v2 v3
        rw [hq] at c7
        have hq41 : (q : Int) < 41 := by omega
        rw [hO, negs_cons hk hV] at hN
        have h1 := hF.set (F' := { F with no := p }) 9 (I p) (by intro i hi; rcases i with _ | _ | _ | _ | _ | _ | _ | _ | _ | _ | _ | _ | _ | _ | _ | _ | _ | i <;> first | rfl | omega) rfl rfl rfl rfl rfl rfl rfl
        have hrel1 : Rel b n { F with no := p } (s.vo (a :: V') O') := { hR with
          V := by show a :: V' = ((List.range F.nv).map F.opnd).reverse; rw [← hV]; exact hR.V
          O := t3 }
        have hbl : (a :: V').length = bins O' + 1 := by rw [← hV, hb, hO]; show (if m.kind = 2 then 1 else 0) + bins O' + 1 = _; rw [if_neg (by omega)]; omega
        have hAx : ∀ j, AFx (((wr.drewN j).setCell ⟨B.f, 9, none⟩ (I p)).drew) B b n F.nt F.k (s.vo (a :: V') O') F.ops F.opnd := fun j => ⟨_, ((hF.drewN j).set (F' := { F with no := p }) 9 (I p) (by intro i hi; rcases i with _ | _ | _ | _ | _ | _ | _ | _ | _ | _ | _ | _ | _ | _ | _ | _ | _ | i <;> first | rfl | omega) rfl rfl rfl rfl rfl rfl rfl).drew, hrel1, rfl, rfl, rfl, rfl⟩
        have hadd := fun j => addY B b n F.nt F.k (s.vo (a :: V') O') F.ops F.opnd (nNeg a) _ (hAx j)
        have hao := add_O s (nNeg a)
        simp only [add_vo] at hadd
        generalize s.add (nNeg a) = r at *
        have hadd := Bx.mk hadd
        have gq := hF.opnd.cell q (by omega)
        rw [v2] at gq
        have hV5 := Bx.mk v3
        have hNB := Bx.mk hN
        have hdn := fun j => (hF.drewN j)
        have hw1 : IntKind.i64.wrap ((q : Int) + 1 - 1) = (q : Int) := by rw [IntKind.wrap_i64]; omega
        have hw2 : IntKind.i64.wrap (((q + 1 : Nat) : Int) - 1) = (q : Int) := by rw [IntKind.wrap_i64]; omega
        have hw3 : IntKind.i64.wrap (q : Int) = (q : Int) := by rw [IntKind.wrap_i64]; omega
        have hpl := Bx.mk hol
        have v6 := Bx.mk v2
        have hqB := Bx.mk hq
        have hpB := Bx.mk hp
        have hj : ∀ j, FM ((wr.drewN j).setCell ⟨B.f, 9, none⟩ (I p)) B { F with no := p } := fun j => (hF.drewN j).set (F' := { F with no := p }) 9 (I p) (by intro i hi; rcases i with _ | _ | _ | _ | _ | _ | _ | _ | _ | _ | _ | _ | _ | _ | _ | _ | _ | i <;> first | rfl | omega) rfl rfl rfl rfl rfl rfl rfl
        have gg6 : ∀ j, ((wr.drewN j).setCell ⟨B.f, 9, none⟩ (I p)).cell? ⟨B.f, 6, none⟩ = some (sl B.v 41 41) := fun j => (hj j).row.cell 6 (by omega)
        have gg7 : ∀ j, ((wr.drewN j).setCell ⟨B.f, 9, none⟩ (I p)).cell? ⟨B.f, 7, none⟩ = some (I ((q + 1 : Nat) : Int)) := fun j => by have := (hj j).row.cell 7 (by omega); simp only [fmC] at this; rw [hq] at this; exact this
        have g6 := h1.row.cell 6 (by omega)
        have g7 := h1.row.cell 7 (by omega)
        have gv := h1.opnd.cell q (by omega)
        simp only [fmC] at g6 g7
        rw [hq] at g7
        rw [show ({ F with no := p } : Fmr).opnd q = a from v2] at gv
        have ffv := hF.ok.fv
        have hbB := Bx.mk hbl
        have hoB := Bx.mk (show O'.length ≤ 41 from by omega)
        have hvB := Bx.mk (show V'.length + 1 ≤ 41 from by rw [hV] at hv; simpa using hv)
        have hO2 := Bx.mk hO
        clear hF hR hno hnv t1 t2 t3 hk hN hV v1 v2 v3 hq hp hol h1 hrel1 hAx hbl hdn hj hb ho hv hO
        go_wp2_with fail
        go_quiet (fail)
        go_wp2_with fail
        go_region_held3 (fun w' => w'.cell? ⟨B.f, 6, none⟩ = some (sl B.v 41 41) ∧ w'.cell? ⟨B.f, 7, none⟩ = some (I ((q + 1 : Nat) : Int)) ∧ w'.cell? ⟨B.v, q, none⟩ = some (I a)) (go_keep)
          (first | (go_at_call 222; refine (hadd.out _).mono ?_; clear hadd; rintro e w2 ⟨rfl, hA2, hf2⟩; obtain ⟨F2, hF2, hR2, e1, e2, e3, e4⟩ := hA2; have e6 := hR2.nvl; rw [show (r.1.vo (a :: V') O').V = a :: V' from rfl, hV5.out] at e6; simp at e6; have i6 := hF2.row.cell 6 (by omega); have i7 := hF2.row.cell 7 (by omega); have iq := hF2.opnd.cell q (by omega); have iz := hF2.opnd.frozen q; simp only [fmC] at i6 i7; rw [e6] at i7; rw [e4, v6.out] at iq; have hF2 := Bx.mk hF2; have hR2 := Bx.mk hR2; have e1 := Bx.mk e1; have e2 := Bx.mk e2; have e4 := Bx.mk e4; have e6 := Bx.mk e6; clear e3))
        go_wp2_with fail
        go_region
        go_wp2_with fail
        go_roundw
        case rel =>
          refine ⟨r.1.vo (r.2 :: V') O', ⟨_, (hF2.out.setV q r.2).drew, ?_, e1.out, e2.out⟩, hNB.out, hoB.out, by show (r.2 :: V').length ≤ 41; simpa using hvB.out, by show (r.2 :: V').length = bins O' + 1; exact hbB.out, ?_⟩
          · exact { hR2.out with
              V := by show r.2 :: V' = ((List.range F2.nv).map (upd F2.opnd q r.2)).reverse; rw [e6.out, range_rev, upd_same, range_upd _ _ _ _ (Nat.le_refl _), e4.out, hV5.out] }
          · exact ((((hfr.drewN _).fm 9 _).drew.trans hf2).fmV q _).drew
        case measure =>
          rw [hcn.out, hO2.out]
          have hA3 : AF ((w2.setCell ⟨B.v, q, none⟩ (I r.2)).drew) B b n F.nt F.k (r.1.vo (r.2 :: V') O') := ⟨_, (hF2.out.setV q r.2).drew, { hR2.out with
              V := by show r.2 :: V' = ((List.range F2.nv).map (upd F2.opnd q r.2)).reverse; rw [e6.out, range_rev, upd_same, range_upd _ _ _ _ (Nat.le_refl _), e4.out, hV5.out] }, e1.out, e2.out⟩
          rw [hA3.no]
          show O'.length < (m :: O').length
          simp
      · have hkd : (m.kind == 1) = false := by simpa using hk
        rw [hO, negs_stop hk] at hN
        subst hN
        have htop : Bx (∀ wx, AF wx B b n F.nt F.k s → Calls Tryz.prog 192 #[pt B.f] wx (Ran wx B b n F.nt F.k s (I (topOf s.O)))) := Bx.mk (fun wx hx => topX B b n F.nt F.k s wx hx ho)
        by_cases h3 : topOf s.O = 3
        · have hm2 : m.kind = 2 := by
            rw [hO] at h3
            have : (if m.kind = 2 then strength m.op else 0) = 3 := h3
            by_cases e : m.kind = 2
            · exact e
            · rw [if_neg e] at this; omega
          obtain ⟨y, x, V', hV⟩ : ∃ y x V', s.V = y :: x :: V' := by
            have hb2 : s.V.length = (1 + bins O') + 1 := by rw [hb, hO]; show (if m.kind = 2 then 1 else 0) + bins O' + 1 = _; rw [if_pos hm2]
            cases hV : s.V with
            | nil => rw [hV] at hb2; simp at hb2
            | cons y V1 =>
              cases V1 with
              | nil => rw [hV] at hb2; simp at hb2
              | cons x V' => exact ⟨y, x, V', rfl⟩
          have hjn : Bx (∀ wx, AF wx B b n F.nt F.k s → Calls Tryz.prog 193 #[pt B.f] wx (Ran wx B b n F.nt F.k s.join (.tuple #[]))) := Bx.mk (fun wx hx => joinX B b n F.nt F.k s wx hx m O' y x V' hO hV ho hv)
          have hif : Bx ((if topOf s.O = 3 then s.join else s) = s.join) := Bx.mk (by rw [if_pos h3])
          rw [h3] at htop
          clear hF hR hno hnv t1 t2 t3 hk hol hp h3 hm2 hV hO hb
          go_wp2_with fail
          go_quiet (fail)
          go_wp2_with (first
            | (go_at_call 192; refine (htop.out _ (hAFB.out.drewN _)).mono ?_; clear htop; rintro e w1 ⟨rfl, hA1, hf1⟩; have hA1 := Bx.mk hA1)
            | (go_at_call 193; refine (hjn.out _ hA1.out).mono ?_; clear hjn; rintro e w2 ⟨rfl, hA2, hf2⟩; obtain ⟨F1, hF1, hR1, e1, e2⟩ := hA2; have d10 := hF1.row.cell 10 (by omega); have y10 := hF1.row.frozen 10; simp only [fmC] at d10; have hF1 := Bx.mk hF1; have hR1 := Bx.mk hR1; have e1 := Bx.mk e1; have e2 := Bx.mk e2))
          go_end0
          rw [← hRes.out, hif.out]
          exact ⟨rfl, ⟨{ F1 with hav := true }, hF1.out.set (F' := { F1 with hav := true }) 10 (.bool true) (by intro i hi; rcases i with _ | _ | _ | _ | _ | _ | _ | _ | _ | _ | _ | _ | _ | _ | _ | _ | _ | i <;> first | rfl | omega) rfl rfl rfl rfl rfl rfl rfl, { hR1.out with hav := rfl }, e1.out, e2.out⟩, (((hfr.drewN _).trans hf1).trans hf2).fm 10 _⟩
        · have h3d : (topOf s.O == 3) = false := by simpa using h3
          have hif : Bx ((if topOf s.O = 3 then s.join else s) = s) := Bx.mk (by rw [if_neg h3])
          clear hF hR hno hnv t1 t2 t3 hk hol hp h3 hb hO
          go_wp2_with fail
          go_quiet (fail)
          go_wp2_with (first
            | (go_at_call 192; refine (htop.out _ (hAFB.out.drewN _)).mono ?_; clear htop; rintro e w1 ⟨rfl, hA1, hf1⟩; obtain ⟨F1, hF1, hR1, e1, e2⟩ := hA1; have d10 := hF1.row.cell 10 (by omega); have y10 := hF1.row.frozen 10; simp only [fmC] at d10; have hF1 := Bx.mk hF1; have hR1 := Bx.mk hR1; have e1 := Bx.mk e1; have e2 := Bx.mk e2))
          go_end0
          rw [← hRes.out, hif.out]
          exact ⟨rfl, ⟨{ F1 with hav := true }, hF1.out.set (F' := { F1 with hav := true }) 10 (.bool true) (by intro i hi; rcases i with _ | _ | _ | _ | _ | _ | _ | _ | _ | _ | _ | _ | _ | _ | _ | _ | _ | i <;> first | rfl | omega) rfl rfl rfl rfl rfl rfl rfl, { hR1.out with hav := rfl }, e1.out, e2.out⟩, ((hfr.drewN _).trans hf1).fm 10 _⟩
end Go.Proofs.Qxb6500326aGreat
