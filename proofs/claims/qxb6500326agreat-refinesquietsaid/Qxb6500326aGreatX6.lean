import Derived.Test.Qxb6500326aGreatX5
namespace Go.Proofs.Qxb6500326aGreat
set_option maxRecDepth 100000
set_option linter.unusedVariables false
set_option linter.unusedSimpArgs false
open Go.RowKit Go.PlainAid
theorem add_vo (st : RS) (x : Nd) (V : List Int) (O : List Mk) : (st.vo V O).add x = ((st.add x).1.vo V O, (st.add x).2) := by
  unfold RS.add
  by_cases h : st.err ≠ 0
  · rw [if_pos h, if_pos (show (st.vo V O).err ≠ 0 from h)]
  · rw [if_neg h, if_neg (show ¬ (st.vo V O).err ≠ 0 from h)]
    by_cases h2 : 24 ≤ st.nodes.length
    · rw [if_pos h2, if_pos (show 24 ≤ (st.vo V O).nodes.length from h2)]
      unfold RS.fail
      simp only [ne_eq, Decidable.not_not] at h
      rw [if_pos h, if_pos (show (st.vo V O).err = 0 from h)]
      rfl
    · rw [if_neg h2, if_neg (show ¬ 24 ≤ (st.vo V O).nodes.length from h2)]
      rfl
theorem add_O (st : RS) (x : Nd) : (st.add x).1.O = st.O ∧ (st.add x).1.V = st.V := by
  unfold RS.add RS.fail
  repeat' split
  all_goals exact ⟨rfl, rfl⟩
theorem vo_vo (st : RS) (V V' : List Int) (O O' : List Mk) : (st.vo V O).vo V' O' = st.vo V' O' := rfl
theorem join_eq {st : RS} {m : Mk} {O' : List Mk} {y x : Int} {V' : List Int} (hO : st.O = m :: O') (hV : st.V = y :: x :: V') :
    st.join = (st.add (nBin m.op x y)).1.vo ((st.add (nBin m.op x y)).2 :: V') O' := by
  unfold RS.join
  rw [hO, hV]
  simp only
  unfold RS.addTo
  rw [add_vo]
  rfl
set_option maxRecDepth 100000 in
set_option maxHeartbeats 4000000 in
theorem joinX (B : FB) (b : Nat → Int) (n nt k : Nat) (st : RS) (w : World) (h : AF w B b n nt k st) (m : Mk) (O' : List Mk) (y x : Int) (V' : List Int) (hO : st.O = m :: O') (hV : st.V = y :: x :: V') (ho : st.O.length ≤ 41) (hv : st.V.length ≤ 41) :
    Calls Tryz.prog 193 #[pt B.f] w (Ran w B b n nt k st.join (.tuple #[])) := by
  rw [join_eq hO hV]
  obtain ⟨F, hF, hR, rfl, rfl⟩ := h
  have hno := hR.nol
  have hnv := hR.nvl
  obtain ⟨o1, o2, o3⟩ := hR.topO hO
  obtain ⟨v1, v2, v3⟩ := hR.topV hV
  obtain ⟨p, hp⟩ : ∃ p, F.no = p + 1 := ⟨F.no - 1, by omega⟩
  obtain ⟨q, hq⟩ : ∃ q, F.nv = q + 2 := ⟨F.nv - 2, by rw [hV] at hnv; simp at hnv; omega⟩
  rw [hV] at hnv hv
  rw [hO] at hno ho
  simp only [List.length_cons] at hnv hno ho hv
  rw [hp, Nat.add_sub_cancel] at o2 o3
  rw [hq, show q + 2 - 1 = q + 1 from by omega] at v2 v3
  rw [range_rev] at v3
  injection v3 with v4 v5
  have c8 := hF.row.cell 8 (by omega)
  have c9 := hF.row.cell 9 (by omega)
  have z9 := hF.row.frozen 9
  have c7 := hF.row.cell 7 (by omega)
  simp only [fmC] at c8 c9 c7
  rw [hp] at c9
  obtain ⟨sv, hsv⟩ : ∃ sv, sv = q + 1 := ⟨_, rfl⟩
  have hs1 : F.nv = sv + 1 := by omega
  have hsI : (sv : Int) - 1 = (q : Int) := by omega
  have hw1 : IntKind.i64.wrap ((sv : Int) - 1) = (q : Int) := by rw [IntKind.wrap_i64]; omega
  have hw3 : IntKind.i64.wrap (q : Int) = (q : Int) := by rw [IntKind.wrap_i64]; omega
  have hw2 : wrap64 ((sv : Int) - 1) = (q : Int) := by rw [hsI]; simp [wrap64]; omega
  rw [hs1] at c7
  have h1 := hF.set (F' := { F with no := p }) 9 (I p) (by intro i hi; rcases i with _ | _ | _ | _ | _ | _ | _ | _ | _ | _ | _ | _ | _ | _ | _ | _ | _ | i <;> first | rfl | omega) rfl rfl rfl rfl rfl rfl rfl
  have d7 := h1.row.cell 7 (by omega)
  have y7 := h1.row.frozen 7
  simp only [fmC] at d7
  rw [hs1] at d7
  have h2 := h1.set (F' := { F with no := p, nv := sv }) 7 (I sv) (by intro i hi; rcases i with _ | _ | _ | _ | _ | _ | _ | _ | _ | _ | _ | _ | _ | _ | _ | _ | _ | i <;> first | rfl | omega) rfl rfl rfl rfl rfl rfl rfl
  have hrel1 : Rel b n { F with no := p, nv := sv } (st.vo (x :: V') O') := { hR with
    V := by show x :: V' = ((List.range sv).map F.opnd).reverse; rw [hsv, range_rev, v4, v5]
    O := o3 }
  have hAx : AFx ((((w.setCell ⟨B.f, 9, none⟩ (I p)).setCell ⟨B.f, 7, none⟩ (I sv))).drew) B b n F.nt F.k (st.vo (x :: V') O') F.ops F.opnd := ⟨_, h2.drew, hrel1, rfl, rfl, rfl, rfl⟩
  have hadd := addY B b n F.nt F.k (st.vo (x :: V') O') F.ops F.opnd (nBin m.op x y) _ hAx
  rw [add_vo] at hadd
  have hadd := Bx.mk hadd
  have hao := add_O st (nBin m.op x y)
  generalize st.add (nBin m.op x y) = r at *
  have g8 := h2.row.cell 8 (by omega)
  have g9 := h2.row.cell 9 (by omega)
  have g6 := h2.row.cell 6 (by omega)
  have g7 := h2.row.cell 7 (by omega)
  have go := h2.ops.cell p 1 (by omega) (by omega)
  have gq := h2.opnd.cell q (by omega)
  have gr := h2.opnd.cell sv (by omega)
  simp only [fmC, mkC] at g8 g9 g6 g7 go gq gr
  rw [o2] at go
  rw [← v4] at gq
  rw [hsv, v2] at gr
  rw [← hsv] at gr
  have hp41 : (p : Int) < 41 := by omega
  have hq41 : (sv : Int) < 41 := by omega
  have hsvB := Bx.mk hsv
  rw [← hsv] at v2
  have hq41' : (q : Int) < 41 := by omega
  have hV5 := Bx.mk (show V' = ((List.range q).map F.opnd).reverse from v5)
  have hO3 := Bx.mk o3
  have hd2 := Bx.mk h2
  have hfr0 : Bx (Fr (FmS B) w ((((w.setCell ⟨B.f, 9, none⟩ (I p)).setCell ⟨B.f, 7, none⟩ (I sv))).drew)) := Bx.mk (((Fr.refl _ _).fm 9 _).fm 7 _).drew
  have o4 := Bx.mk o2
  have v6 := Bx.mk v2
  have v7 := Bx.mk v4
  have hpl := Bx.mk (show O'.length = p from by omega)
  clear hs1 hsv hF hR hno hnv o1 o2 o3 v1 v2 v4 v5 hp hq hO hV h1 h2 hrel1 hAx ho hv
  go_enter Tryz.func193, Tryz.ntmps193
  go_wp2_with fail
  go_region_held3 (fun w' => w'.cell? ⟨B.f, 8, none⟩ = some (sl B.o 41 41) ∧ w'.cell? ⟨B.f, 9, none⟩ = some (I p) ∧ w'.cell? ⟨B.f, 6, none⟩ = some (sl B.v 41 41) ∧ w'.cell? ⟨B.f, 7, none⟩ = some (I sv) ∧ w'.cell? ⟨B.o, p * 5 + 1, none⟩ = some (I m.op) ∧ w'.cell? ⟨B.v, q, none⟩ = some (I x) ∧ w'.cell? ⟨B.v, sv, none⟩ = some (I y)) (go_keep)
    (first | (go_at_call 222; refine hadd.out.mono ?_; clear hadd; rintro e w2 ⟨rfl, hA2, hf2⟩; obtain ⟨F2, hF2, hR2, e1, e2, e3, e4⟩ := hA2; have e5 := hR2.nol; have e6 := hR2.nvl; rw [show (r.1.vo (x :: V') O').O = O' from rfl, hpl.out] at e5; rw [show (r.1.vo (x :: V') O').V = x :: V' from rfl, hV5.out] at e6; simp at e6; have i8 := hF2.row.cell 8 (by omega); have i9 := hF2.row.cell 9 (by omega); have i6 := hF2.row.cell 6 (by omega); have i7 := hF2.row.cell 7 (by omega); have io := hF2.ops.cell p 1 (by omega) (by omega); have iq := hF2.opnd.cell q (by omega); have iz := hF2.opnd.frozen q; have ir := hF2.opnd.cell sv (by have := hsvB.out; omega); simp only [fmC, mkC] at i8 i9 i6 i7 io iq ir; rw [e5] at i9; rw [e6, ← hsvB.out] at i7; rw [e3, o4.out] at io; rw [e4, ← v7.out] at iq; rw [e4, v6.out] at ir; have hF2 := Bx.mk hF2; have hR2 := Bx.mk hR2; have e1 := Bx.mk e1; have e2 := Bx.mk e2; have e4 := Bx.mk e4; have e6 := Bx.mk e6; clear e3 e5))
  go_wp2_with fail
  go_region
  go_wp2
  go_end0
  refine ⟨rfl, ⟨_, (hF2.out.setV q r.2).drew, ?_, e1.out, e2.out⟩, ((hfr0.out.trans hf2).fmV q _).drew⟩
  exact { hR2.out with
    V := by show r.2 :: V' = ((List.range F2.nv).map (upd F2.opnd q r.2)).reverse; rw [e6.out, range_rev, upd_same, range_upd _ _ _ _ (Nat.le_refl _), e4.out, hV5.out] }
end Go.Proofs.Qxb6500326aGreat
