import Derived.Test.Qxb6500326aGreatW18
import Derived.RegionTactic
namespace Go.Proofs.Qxb6500326aGreat
set_option maxRecDepth 100000
set_option linter.unusedVariables false
set_option linter.unusedSimpArgs false
open Go.RowKit Go.PlainAid
/-- The model's former at block b. -/
def mfC (p q : Int) (t : ByteArray) : Nat → Value
  | 0 => I p
  | 1 => I q
  | _ => .string t
def MF (w : World) (b : Nat) : Prop := ∃ p q t, Row w b 3 (mfC p q t)
theorem MF.fr {S : Nat → Prop} {w w' : World} {b : Nat} (h : MF w b) (f : Fr S w w') (hb : ¬ S b) : MF w' b := by
  obtain ⟨p, q, t, h⟩ := h
  exact ⟨p, q, t, f.row h hb⟩
theorem RD.new {w : World} {r : Nat} (s : ByteArray) (hr : w.heap.size = r) : RD (w.alloc (.cells #[.string s, I 0, .slice none 0 0, I 0, I 0] 179)) r s ps0 (.slice none 0 0) := by
  subst hr
  exact ⟨Row.new _ _ _ _ _ rfl (by intro i hi; rcases i with _ | _ | _ | _ | _ | i <;> first | rfl | omega), World.ownsRow_nil _ _ _ _⟩
abbrev treeV (v : Value) (t : Tr) : Value := .agg #[v, I t.root, I t.err, I t.pos]
def trC (v : Value) (a b c : Int) : Nat → Value
  | 0 => v
  | 1 => I a
  | 2 => I b
  | _ => I c
theorem tr_new (w : World) (v : Value) (a b c : Int) {r : Nat} (hr : w.heap.size = r) : Row (w.alloc (.cells #[v, I a, I b, I c] 105)) r 4 (trC v a b c) := by
  subst hr
  exact Row.new _ _ _ _ _ rfl (by intro i hi; rcases i with _ | _ | _ | _ | i <;> first | rfl | omega)
theorem fr4 (w : World) (b : Nat) (v0 v1 v2 v3 : Value) : Fr (fun k => k = b) w ((((w.setCell ⟨b, 0, none⟩ v0).setCell ⟨b, 1, none⟩ v1).setCell ⟨b, 2, none⟩ v2).setCell ⟨b, 3, none⟩ v3) :=
  ((((Fr.refl (fun k => k = b) _).setCell (p := ⟨b, 0, none⟩) (.inl rfl) _).setCell (p := ⟨b, 1, none⟩) (.inl rfl) _).setCell (p := ⟨b, 2, none⟩) (.inl rfl) _).setCell (p := ⟨b, 3, none⟩) (.inl rfl) _
theorem row4_set {w : World} {b : Nat} {vs : Nat → Value} (h : Row w b 4 vs) (v : Value) (x y z : Int) : Row ((((w.setCell ⟨b, 0, none⟩ v).setCell ⟨b, 1, none⟩ (I x)).setCell ⟨b, 2, none⟩ (I y)).setCell ⟨b, 3, none⟩ (I z)) b 4 (trC v x y z) :=
  ((((h.set 0 v).set 1 (I x)).set 2 (I y)).set 3 (I z)).congr (by intro i hi; rcases i with _ | _ | _ | _ | i <;> first | rfl | omega)
theorem Tryz.size105 : (Tryz.prog.info? 105).map (·.size) = some 4 := by kernel_rfl
theorem row4_heap {w : World} {b : Nat} {v : Value} {x y z : Int} (h : Row w b 4 (trC v x y z)) : ∃ T, w.heap[b]? = some (.cells #[v, I x, I y, I z] T (0, 0)) := by
  obtain ⟨arr, T, h1, h2, h3⟩ := h
  refine ⟨T, ?_⟩
  rw [h1]
  have : arr = #[v, I x, I y, I z] := by
    apply Array.ext_getElem?
    intro i
    rcases Nat.lt_or_ge i 4 with hi | hi
    · rw [h3 i hi]; rcases i with _ | _ | _ | _ | i <;> first | rfl | omega
    · rw [Array.getElem?_eq_none (by omega), Array.getElem?_eq_none (by simpa using hi)]
  rw [this]
/-- A function that answers a tree returns. -/
theorem ret_tree {fn : Func} {R : Ending → World → Prop} {a : Act} {w : World} {p : Tmp} {g : Nat} {v : Value} {x y z : Int} (hr : fn.results = #[.cell p 105]) (hp : a.tmps.getD p undef = pt g) (hrow : Row w g 4 (trC v x y z)) (hd : a.defers = [])
    (hR : R (.returned (.agg #[v, I x, I y, I z])) w) : bodyPost Tryz.prog fn R .ret a w := by
  obtain ⟨T, hh⟩ := row4_heap hrow
  exact bodyPost_ret (results_cell_row hr a.tmps w g T _ (0, 0) _ hp hh Tryz.underlying105 rfl (by rw [Tryz.size105]; rfl)) hd hR
theorem XL.slice {w : World} {B : Nat} {v : Value} {L : List Nd} (h : XL w B v L) : ∃ a n c, v = .slice a n c := by
  rcases h with ⟨rfl, rfl⟩ | ⟨h0, g, hb, rfl, hg⟩
  · exact ⟨_, _, _, rfl⟩
  · exact ⟨_, _, _, rfl⟩
set_option maxRecDepth 100000 in
set_option maxHeartbeats 4000000 in
theorem parseM_any (fb : Nat) (s : ByteArray) (w : World) (hm : MF w fb) :
    Calls Tryz.prog 109 #[pt fb, .string s] w fun e w' => ∃ v', e = .returned (treeV v' (parseM (bt s) s.size)) ∧ XL w' w.heap.size v' (parseM (bt s) s.size).nodes ∧ MF w' fb ∧ Fr (fun k => k = fb) w w' := by
  obtain ⟨p, q, t, hrow⟩ := hm
  have hlt := hrow.lt
  have c0 := hrow.cell 0 (by omega)
  have z0 := hrow.frozen 0
  have c2 := (hrow.set 0 (I (wrap64 (p + 1)))).cell 2 (by omega)
  have z2 := (hrow.set 0 (I (wrap64 (p + 1)))).frozen 2
  simp only [mfC] at c0
  rw [upd_other _ _ (by omega)] at c2
  simp only [mfC] at c2
  have hA2 := Bx.mk (((hrow.set 0 (I (wrap64 (p + 1)))).set 2 (.string s)).congr (us := mfC (wrap64 (p + 1)) q s) (by intro i hi; rcases i with _ | _ | _ | i <;> first | rfl | omega))
  have hF1 : Bx (Fr (fun k => k = fb) w ((w.setCell ⟨fb, 0, none⟩ (I (wrap64 (p + 1)))).setCell ⟨fb, 2, none⟩ (.string s))) :=
    Bx.mk (((Fr.refl (fun k => k = fb) _).setCell (p := ⟨fb, 0, none⟩) (.inl rfl) _).setCell (p := ⟨fb, 2, none⟩) (.inl rfl) _)
  clear hrow
  by_cases hs : 40 < s.size
  · have hd : decide ((40 : Int) < (s.size : Int)) = true := decide_eq_true (by omega)
    have hpm : Bx (parseM (bt s) s.size = ⟨[], -1, 1, 0⟩) := Bx.mk (by unfold parseM; rw [if_pos hs])
    go_enter Tryz.func109, Tryz.ntmps109
    go_wp2
    go_returns
    rw [hpm.out]
    exact ⟨_, rfl, .inl ⟨rfl, rfl⟩, ⟨_, _, _, hA2.out.alloc _⟩, hF1.out.alloc _⟩
  · have hd : decide ((40 : Int) < (s.size : Int)) = false := decide_eq_false (by omega)
    have hs40 : s.size ≤ 40 := by omega
    have hT : Bx (Row ((((w.setCell ⟨fb, 0, none⟩ (I (wrap64 (p + 1)))).setCell ⟨fb, 2, none⟩ (.string s)).alloc (.cells #[.slice none 0 0, I 0, I 0, I 0] 105)).alloc (.cells #[.string s, I 0, .slice none 0 0, I 0, I 0] 179)) w.heap.size 4 (trC (.slice none 0 0) 0 0 0)) := Bx.mk ((tr_new _ _ 0 0 0 (by simp)).alloc _)
    have hM := Bx.mk ((hA2.out.alloc (.cells #[.slice none 0 0, I 0, I 0, I 0] 105)).alloc (.cells #[.string s, I 0, .slice none 0 0, I 0, I 0] 179))
    have hF := Bx.mk ((hF1.out.alloc (.cells #[.slice none 0 0, I 0, I 0, I 0] 105)).alloc (.cells #[.string s, I 0, .slice none 0 0, I 0, I 0] 179))
    have hE := Bx.mk (expr_all (w.heap.size + 1) s hs40 (s.size + 1) false ps0 (.slice none 0 0) ((((w.setCell ⟨fb, 0, none⟩ (I (wrap64 (p + 1)))).setCell ⟨fb, 2, none⟩ (.string s)).alloc (.cells #[.slice none 0 0, I 0, I 0, I 0] 105)).alloc (.cells #[.string s, I 0, .slice none 0 0, I 0, I 0] 179)) (RD.new s (by simp)) (Nat.zero_le _) (by show s.size - 0 < s.size + 1; omega))
    have hmn := exprD_mono (b := bt s) (n := s.size) (s.size + 1) false ps0 (Nat.zero_le _)
    generalize hu : exprD (bt s) s.size (s.size + 1) false ps0 = u at *
    have hL := Bx.mk (fun v x h => look_any (w.heap.size + 1) s u.1 v x h hmn.2 hs40)
    have hlm := look_mono (b := bt s) (n := s.size) hmn.2
    generalize hl : u.1.look (bt s) s.size = l at *
    clear hA2 hF1
    by_cases hc : l.2 = 0
    · have tc : (l.2 != 0) = false := by simp [hc]
      by_cases he : l.1.err = 0
      · have te : (l.1.err != 0) = false := by simpa using he
        have hpm : Bx (parseM (bt s) s.size = ⟨l.1.n, u.2, 0, 0⟩) := Bx.mk (by
          unfold parseM; rw [if_neg hs]; simp only; rw [hu, hl, if_pos hc, if_pos he])
        have hlen : Bx (l.1.n.length ≤ 100) := Bx.mk (by
          rcases parse_law (bt s) s.size with ⟨_, h, _⟩ | ⟨h, _⟩
          · rw [hpm.out] at h; have : l.1.n.length ≤ 24 := h.max; omega
          · rw [hpm.out] at h; exact absurd rfl h)
        clear hu hl
        go_enter Tryz.func109, Tryz.ntmps109
        go_wp2_with (first
          | (go_at_call 142; refine hE.out.mono ?_; clear hE; rintro e w1 ⟨v1, rfl, hR1, hf1, -, -⟩; have hR1 := Bx.mk hR1; have hT1 := Bx.mk (hf1.row hT.out (by show ¬ (w.heap.size + 1 ≤ w.heap.size); omega)); have hM1 := Bx.mk (hf1.row hM.out (by show ¬ (w.heap.size + 1 ≤ fb); omega)))
          | (go_at_call 143; refine (hL.out _ _ hR1.out).mono ?_; clear hL; rintro e w2 ⟨rfl, hR2, hf2⟩; have hR2 := Bx.mk hR2; have hT2 := Bx.mk (hf2.row hT1.out (by show ¬ (w.heap.size + 1 ≤ w.heap.size); omega)); have hM2 := Bx.mk (hf2.row hM1.out (by show ¬ (w.heap.size + 1 ≤ fb); omega)); have c1 := hR2.out.row.cell 3 (by omega); have c3 := hR2.out.row.cell 2 (by omega); simp only [rdC] at c1 c3; have d0 := hT2.out.cell 0 (by omega); have d1 := hT2.out.cell 1 (by omega); have d2 := hT2.out.cell 2 (by omega); have d3 := hT2.out.cell 3 (by omega); have e0 := hT2.out.frozen 0; have e1 := hT2.out.frozen 1; have e2 := hT2.out.frozen 2; have e3 := hT2.out.frozen 3; simp only [trC] at d0 d1 d2 d3)
          | (go_at_call 110; refine (copy_any _ _ _ (NL.base hR2.out.own) hlen.out).mono ?_; rintro e w3 ⟨v3, rfl, hX3, hf3⟩; obtain ⟨a3, n3, c3', rfl⟩ := hX3.slice; have hT3 := Bx.mk (hf3.row0 hT2.out); have hM3 := Bx.mk (hf3.row0 hM2.out); have hX3 := Bx.mk hX3; clear c1 c3 d0 d1 d2 d3 e0 e1 e2 e3; have d0 := hT3.out.cell 0 (by omega); have d1 := hT3.out.cell 1 (by omega); have d2 := hT3.out.cell 2 (by omega); have d3 := hT3.out.cell 3 (by omega); have e0 := hT3.out.frozen 0; have e1 := hT3.out.frozen 1; have e2 := hT3.out.frozen 2; have e3 := hT3.out.frozen 3; simp only [trC] at d0 d1 d2 d3))
        refine ret_tree (p := 4) rfl rfl (row4_set hT3.out _ _ _ _) rfl ?_
        rw [hpm.out]
        refine ⟨_, rfl, ?_, ⟨_, _, _, (fr4 _ _ _ _ _ _).row hM3.out (by show ¬ fb = w.heap.size; omega)⟩, (((hF.out.step hf1 (fun x hx => .inr (by have : w.heap.size + 1 ≤ x := hx; omega))).step hf2 (fun x hx => .inr (by have : w.heap.size + 1 ≤ x := hx; omega))).step hf3 (fun x hx => hx.elim)).step (fr4 _ _ _ _ _ _) (fun x hx => .inr (by have : x = w.heap.size := hx; omega))⟩
        have hsz : w.heap.size + 1 < w2.heap.size := hR2.out.lt
        rcases hX3.out with ⟨e1, e2⟩ | ⟨e1, g, e2, e3, e4⟩
        · exact .inl ⟨e1, e2⟩
        · refine .inr ⟨e1, g, by omega, e3, ?_⟩
          rw [(fr4 _ _ _ _ _ _).block g (Array.getElem?_eq_some_iff.1 e4).1 (by show ¬ g = w.heap.size; omega)]
          exact e4
      · have te : (l.1.err != 0) = true := by simpa using he
        have hpm : Bx (parseM (bt s) s.size = ⟨[], -1, l.1.err, l.1.pos⟩) := Bx.mk (by
          unfold parseM; rw [if_neg hs]; simp only; rw [hu, hl, if_pos hc, if_neg he])
        clear hu hl
        go_enter Tryz.func109, Tryz.ntmps109
        go_wp2_with (first
          | (go_at_call 142; refine hE.out.mono ?_; clear hE; rintro e w1 ⟨v1, rfl, hR1, hf1, -, -⟩; have hR1 := Bx.mk hR1; have hT1 := Bx.mk (hf1.row hT.out (by show ¬ (w.heap.size + 1 ≤ w.heap.size); omega)); have hM1 := Bx.mk (hf1.row hM.out (by show ¬ (w.heap.size + 1 ≤ fb); omega)))
          | (go_at_call 143; refine (hL.out _ _ hR1.out).mono ?_; clear hL; rintro e w2 ⟨rfl, hR2, hf2⟩; have hR2 := Bx.mk hR2; have hT2 := Bx.mk (hf2.row hT1.out (by show ¬ (w.heap.size + 1 ≤ w.heap.size); omega)); have hM2 := Bx.mk (hf2.row hM1.out (by show ¬ (w.heap.size + 1 ≤ fb); omega)); have c1 := hR2.out.row.cell 3 (by omega); have c3 := hR2.out.row.cell 4 (by omega); simp only [rdC] at c1 c3; have d0 := hT2.out.cell 0 (by omega); have d1 := hT2.out.cell 1 (by omega); have d2 := hT2.out.cell 2 (by omega); have d3 := hT2.out.cell 3 (by omega); have e0 := hT2.out.frozen 0; have e1 := hT2.out.frozen 1; have e2 := hT2.out.frozen 2; have e3 := hT2.out.frozen 3; simp only [trC] at d0 d1 d2 d3))
        go_region
        all_goals go_wp2
        all_goals refine ret_tree (p := 4) rfl rfl (row4_set hT2.out _ _ _ _).drew rfl ?_
        all_goals (
          rw [hpm.out]
          exact ⟨_, rfl, .inl ⟨rfl, rfl⟩, ⟨_, _, _, ((fr4 _ _ _ _ _ _).row hM2.out (by show ¬ fb = w.heap.size; omega)).drew⟩, (((hF.out.step hf1 (fun x hx => .inr (by have : w.heap.size + 1 ≤ x := hx; omega))).step hf2 (fun x hx => .inr (by have : w.heap.size + 1 ≤ x := hx; omega))).step (fr4 _ _ _ _ _ _) (fun x hx => .inr (by have : x = w.heap.size := hx; omega))).drew⟩)
    · have tc : (l.2 != 0) = true := by simpa using hc
      have hne := fail_ne l.1 (e := 3) (by decide) l.1.i
      have te : ((l.1.fail 3 l.1.i).err != 0) = true := by simpa using hne
      have hpm : Bx (parseM (bt s) s.size = ⟨[], -1, (l.1.fail 3 l.1.i).err, (l.1.fail 3 l.1.i).pos⟩) := Bx.mk (by
        unfold parseM; rw [if_neg hs]; simp only; rw [hu, hl, if_neg hc, if_neg hne])
      have hfl := Bx.mk (fun v x h => fail_any (w.heap.size + 1) s l.1 v 3 l.1.i x h)
      clear hu hl
      generalize l.1.fail 3 l.1.i = st3 at *
      go_enter Tryz.func109, Tryz.ntmps109
      go_wp2_with (first
        | (go_at_call 142; refine hE.out.mono ?_; clear hE; rintro e w1 ⟨v1, rfl, hR1, hf1, -, -⟩; have hR1 := Bx.mk hR1; have hT1 := Bx.mk (hf1.row hT.out (by show ¬ (w.heap.size + 1 ≤ w.heap.size); omega)); have hM1 := Bx.mk (hf1.row hM.out (by show ¬ (w.heap.size + 1 ≤ fb); omega)))
        | (go_at_call 143; refine (hL.out _ _ hR1.out).mono ?_; clear hL; rintro e w2 ⟨rfl, hR2, hf2⟩; have hR2 := Bx.mk hR2; have hT2 := Bx.mk (hf2.row hT1.out (by show ¬ (w.heap.size + 1 ≤ w.heap.size); omega)); have hM2 := Bx.mk (hf2.row hM1.out (by show ¬ (w.heap.size + 1 ≤ fb); omega)); have c1 := hR2.out.row.cell 1 (by omega); simp only [rdC] at c1)
        | (go_at_call 144; refine (hfl.out _ _ hR2.out).mono ?_; clear hfl; rintro e w3 ⟨rfl, hR3, hf3⟩; have hR3 := Bx.mk hR3; have hT3 := Bx.mk (hf3.row hT2.out (by show ¬ (w.heap.size + 1 ≤ w.heap.size); omega)); have hM3 := Bx.mk (hf3.row hM2.out (by show ¬ (w.heap.size + 1 ≤ fb); omega)); clear c1; have c1 := hR3.out.row.cell 3 (by omega); have c3 := hR3.out.row.cell 4 (by omega); simp only [rdC] at c1 c3; have d0 := hT3.out.cell 0 (by omega); have d1 := hT3.out.cell 1 (by omega); have d2 := hT3.out.cell 2 (by omega); have d3 := hT3.out.cell 3 (by omega); have e0 := hT3.out.frozen 0; have e1 := hT3.out.frozen 1; have e2 := hT3.out.frozen 2; have e3 := hT3.out.frozen 3; simp only [trC] at d0 d1 d2 d3))
      go_region
      all_goals go_wp2
      all_goals refine ret_tree (p := 4) rfl rfl (row4_set hT3.out _ _ _ _).drew rfl ?_
      all_goals (
        rw [hpm.out]
        exact ⟨_, rfl, .inl ⟨rfl, rfl⟩, ⟨_, _, _, ((fr4 _ _ _ _ _ _).row hM3.out (by show ¬ fb = w.heap.size; omega)).drew⟩, ((((hF.out.step hf1 (fun x hx => .inr (by have : w.heap.size + 1 ≤ x := hx; omega))).step hf2 (fun x hx => .inr (by have : w.heap.size + 1 ≤ x := hx; omega))).step hf3 (fun x hx => .inr (by have : w.heap.size + 1 ≤ x := hx; omega))).step (fr4 _ _ _ _ _ _) (fun x hx => .inr (by have : x = w.heap.size := hx; omega))).drew⟩)
end Go.Proofs.Qxb6500326aGreat
