import Derived.Test.Qxb6500326aGreatX21
import Derived.Test.Qxb6500326aGreatX13
import Derived.Deep.CutRange
namespace Go.Proofs.Qxb6500326aGreat
set_option maxRecDepth 100000
set_option linter.unusedVariables false
set_option linter.unusedSimpArgs false
open Go.RowKit Go.PlainAid
abbrev Parses (w : World) (B : FB) (t : Tr) : Ending → World → Prop := fun e w' => ∃ v', e = .returned (treeV v' t) ∧ XL w' w.heap.size v' t.nodes ∧ FZ w' B ∧ Fr (FmS B) w w'
/-- What the loop of Parse keeps. -/
def PI (w : World) (B : FB) (b : Nat → Int) (n nt : Nat) (R0 : Tr) (wr : World) : Prop := ∃ k st, AF wr B b n nt k st ∧ Ends b n st R0 ∧ (st.err = 0 → Hts k (if st.hav = true then 1 else 0) st ∧ (st.hav = true → topk st.O ≠ 1)) ∧ Row wr w.heap.size 4 (trC (.slice none 0 0) 0 0 0) ∧ Fr (FmS B) w wr
theorem turned_pM {w : World} {B : FB} {b : Nat → Int} {n nt k : Nat} {st : RS} {w' : World} {k' : Nat} {st' : RS} (h : AF w B b n nt k st) (h' : AF w' B b n nt k' st') (hk : k ≤ k') (he : st.err = 0) (hd : st.done = false) (hs : st'.err = 0 → st'.done = false → k < k') : pM w' B.f < pM w B.f := by
  have e1 := h.pM
  have e2 := h'.pM
  rw [if_pos ⟨he, hd⟩] at e1
  rw [e1, e2]
  have h1 := h'.kn
  by_cases c : st'.err = 0 ∧ st'.done = false
  · rw [if_pos c]; have := hs c.1 c.2; omega
  · rw [if_neg c]; omega
theorem FZ.fr {w w' : World} {B : FB} (h : FZ w B) {S : Nat → Prop} (f : Fr S w w') (hS : ∀ k, FmS B k → ¬ S k) : FZ w' B := by
  obtain ⟨F, h1, h2⟩ := h; exact ⟨F, h1.fr f hS, h2⟩
theorem FZ.fr0 {w w' : World} {B : FB} (h : FZ w B) (f : Fr S0 w w') : FZ w' B := h.fr f (fun _ _ => id)
set_option maxRecDepth 100000 in
set_option maxHeartbeats 4000000 in
theorem parseX (B : FB) (s : ByteArray) (w : World) (hz : FZ w B) :
    Calls Tryz.prog 130 #[pt B.f, .string s] w (Parses w B (parseM (bt s) s.size)) := by
  by_cases hs : 40 < s.size
  · have hd : decide ((40 : Int) < (s.size : Int)) = true := decide_eq_true (by omega)
    have hpm : Bx (parseM (bt s) s.size = ⟨[], -1, 1, 0⟩) := Bx.mk (by unfold parseM; rw [if_pos hs])
    have hzB : Bx (∀ o, FZ (w.alloc o) B) := Bx.mk (fun o => by obtain ⟨F, h1, h2⟩ := hz; exact ⟨F, h1.alloc o, h2⟩)
    clear hz
    go_enter Tryz.func130, Tryz.ntmps130
    go_wp2
    go_returns
    rw [hpm.out]
    exact ⟨_, rfl, .inl ⟨rfl, rfl⟩, hzB.out _, (Fr.refl _ _).alloc _⟩
  · have hd : decide ((40 : Int) < (s.size : Int)) = false := decide_eq_false (by omega)
    have hs40 : s.size ≤ 40 := by omega
    obtain ⟨F, hF, n1, n2, n3, n4⟩ := hz
    have hsc := Bx.mk (scanX B F s (w.alloc (.cells #[.slice none 0 0, I 0, I 0, I 0] 105)) hs40 (hF.alloc _))
    have hT0 := Bx.mk (tr_new w (.slice none 0 0) 0 0 0 rfl)
    have hnb := Bx.mk (fun j (hj : w.heap.size ≤ j) => not_fm hF hj)
    have hRl := Bx.mk (fun T nt (h : Toks (bt s) s.size T nt) => h.rel hs40 (F := F) n2 n3 n4)
    have hen := Bx.mk (parse_ends (bt s) s.size hs40)
    have hlaw := Bx.mk (parse_law (bt s) s.size)
    generalize parseM (bt s) s.size = R0 at *
    clear hF n1 n2 n3 n4
    go_enter Tryz.func130, Tryz.ntmps130
    go_wp2_with (first
      | (go_at_call 159; refine hsc.out.mono ?_; clear hsc; rintro e w1 ⟨rfl, ⟨T, nt, hF1, hTk⟩, hf1⟩; have hT1 := Bx.mk (hf1.row hT0.out (hnb.out _ (Nat.le_refl _))); have hF1B := Bx.mk hF1; have c2 := hF1.row.cell 2 (by omega); have c3 := hF1.row.cell 3 (by omega); have c10 := hF1.row.cell 10 (by omega); have c11 := hF1.row.cell 11 (by omega); have c12 := hF1.row.cell 12 (by omega); have c13 := hF1.row.cell 13 (by omega); have z2 := hF1.row.frozen 2; have z3 := hF1.row.frozen 3; have z10 := hF1.row.frozen 10; have z11 := hF1.row.frozen 11; have z12 := hF1.row.frozen 12; have z13 := hF1.row.frozen 13; simp only [fmC] at c2 c3 c10 c11 c12 c13; clear hF1))
    have hF2 := hF1B.out.zero6
    have hTn : Row ((((((w1.setCell ⟨B.f, 2, none⟩ (I 0)).setCell ⟨B.f, 3, none⟩ (I 0)).setCell ⟨B.f, 10, none⟩ (.bool false)).setCell ⟨B.f, 11, none⟩ (.bool false)).setCell ⟨B.f, 12, none⟩ (I 0)).setCell ⟨B.f, 13, none⟩ (I 0)) w.heap.size 4 (trC (.slice none 0 0) 0 0 0) := by
      have hne : w.heap.size ≠ B.f := fun e => hnb.out w.heap.size (Nat.le_refl _) (.inl e)
      exact (((((hT1.out.set_other (p := ⟨B.f, 2, none⟩) hne _).set_other (p := ⟨B.f, 3, none⟩) hne _).set_other (p := ⟨B.f, 10, none⟩) hne _).set_other (p := ⟨B.f, 11, none⟩) hne _).set_other (p := ⟨B.f, 12, none⟩) hne _).set_other (p := ⟨B.f, 13, none⟩) hne _
    have hfr2 : Fr (FmS B) w ((((((w1.setCell ⟨B.f, 2, none⟩ (I 0)).setCell ⟨B.f, 3, none⟩ (I 0)).setCell ⟨B.f, 10, none⟩ (.bool false)).setCell ⟨B.f, 11, none⟩ (.bool false)).setCell ⟨B.f, 12, none⟩ (I 0)).setCell ⟨B.f, 13, none⟩ (I 0)) := (((((((((Fr.refl _ _).alloc _).trans hf1).fm 2 _).fm 3 _).fm 10 _).fm 11 _).fm 12 _).fm 13 _)
    have hst : PI w B (bt s) s.size nt R0 ((((((w1.setCell ⟨B.f, 2, none⟩ (I 0)).setCell ⟨B.f, 3, none⟩ (I 0)).setCell ⟨B.f, 10, none⟩ (.bool false)).setCell ⟨B.f, 11, none⟩ (.bool false)).setCell ⟨B.f, 12, none⟩ (I 0)).setCell ⟨B.f, 13, none⟩ (I 0)) := ⟨0, rs0, ⟨_, hF2, hRl.out T nt hTk, rfl, rfl⟩, hen.out, fun _ => ⟨hts0, fun e => absurd e (by show ¬ (false = true); decide)⟩, hTn, hfr2⟩
    clear hF2 hTn hfr2
    go_loopw [34] (fun _ wr => PI w B (bt s) s.size nt R0 wr) (fun _ wr => pM wr B.f)
    case atStart => exact hst
    case round =>
      clear c2 c3 c10 c11 c12 c13 z2 z3 z10 z11 z12 z13 hst hf1 hF1B hT1 hTk hRl hen hT0
      obtain ⟨k, st, hA, hE, hH, hT, hfr⟩ := hrel
      obtain ⟨f12, f11, f10, f13, f2⟩ := hA.flags
      have hAB := Bx.mk hA
      have hTB := Bx.mk hT
      by_cases he : st.err = 0
      · have de : (st.err == 0) = true := by simpa using he
        by_cases hdn : st.done = false
        · obtain ⟨hh1, hh2⟩ := hH he
          have hE2 := Bx.mk (ends_stepX hE he hdn)
          have hpm := Bx.mk (fun w' k' st' (h' : AF w' B (bt s) s.size nt k' st') hk hs => turned_pM hA h' hk he hdn hs)
          rw [hdn] at f11
          cases hv : st.hav with
          | true =>
            rw [hv] at f10 hh1 hh2
            have hcall := Bx.mk (afterX B (bt s) s.size nt k st wr hA hh1 hv (hh2 rfl))
            have hstep : st.step (bt s) s.size = st.after (bt s) s.size := by unfold RS.step; rw [if_pos hv]
            rw [hstep] at hE2
            generalize st.after (bt s) s.size = st2 at *
            clear hA hT hE hH he hdn hh1 hh2 hv hstep
            go_wp2_with (first | (go_at_call 160; refine hcall.out.mono ?_; clear hcall; rintro e w2 ⟨rfl, ⟨k', hA2, hk, hH2⟩, hf2⟩))
            go_roundw
            case rel => exact ⟨k', st2, hA2, hE2.out, fun e => (hH2 e).2, hf2.row hTB.out (hnb.out _ (Nat.le_refl _)), hfr.trans hf2⟩
            case measure => exact hpm.out w2 k' st2 hA2 hk (fun e => (hH2 e).1)
          | false =>
            rw [hv] at f10 hh1 hh2
            have hcall := Bx.mk (atomX B (bt s) s.size nt k st wr hA hh1 hv)
            have hstep : st.step (bt s) s.size = st.atom (bt s) s.size := by unfold RS.step; rw [if_neg (by rw [hv]; decide)]
            rw [hstep] at hE2
            generalize st.atom (bt s) s.size = st2 at *
            clear hA hT hE hH he hdn hh1 hh2 hv hstep
            go_wp2_with (first | (go_at_call 161; refine hcall.out.mono ?_; clear hcall; rintro e w2 ⟨rfl, ⟨k', hA2, hk, hH2⟩, hf2⟩))
            go_roundw
            case rel => exact ⟨k', st2, hA2, hE2.out, fun e => (hH2 e).2, hf2.row hTB.out (hnb.out _ (Nat.le_refl _)), hfr.trans hf2⟩
            case measure => exact hpm.out w2 k' st2 hA2 hk (fun e => (hH2 e).1)
        · have hdn1 : st.done = true := by cases h : st.done; exact absurd h hdn; rfl
          rw [hdn1] at f11
          have hout := ends_outX hE (.inr hdn1)
          have hR0' : R0 = ⟨st.nodes, (st.nodes.length : Int) - 1, 0, 0⟩ := by rw [← hout]; unfold RS.out; rw [if_pos he]
          have hone : 1 ≤ st.nodes.length := by
            rcases hlaw.out with ⟨_, h, _⟩ | ⟨h, _⟩
            · have := h.one; rw [hR0'] at this; exact this
            · rw [hR0'] at h; exact absurd rfl h
          have hnn := hA.nn
          obtain ⟨F2, hF2, hRel2, -, -⟩ := hA
          obtain ⟨l1, -⟩ := hF2.lts
          have hne : w.heap.size ≠ B.f := fun e => hnb.out w.heap.size (Nat.le_refl _) (.inl e)
          have hnl := hRel2.nnl
          have p1 := hF2.row.cell 1 (by omega)
          have p4 := hF2.row.cell 4 (by omega)
          have p5 := hF2.row.cell 5 (by omega)
          have p7 := hF2.row.cell 7 (by omega)
          have p9 := hF2.row.cell 9 (by omega)
          have y1 := hF2.row.frozen 1
          have y5 := hF2.row.frozen 5
          have y7 := hF2.row.frozen 7
          have y9 := hF2.row.frozen 9
          simp only [fmC] at p1 p4 p5 p7 p9
          rw [hnl] at p5
          have hcp : Bx (∀ wx, Fr S0 wr wx → wx.heap.size = wr.heap.size + 1 → Calls Tryz.prog 110 #[sl B.a st.nodes.length 24] wx fun e w' => e = .returned (sl (wr.heap.size + 1) st.nodes.length st.nodes.length) ∧ w'.heap[wr.heap.size + 1]? = some (.cells (nds st.nodes).toArray 149 (0, 0)) ∧ Fr S0 wx w') := Bx.mk (fun wx hx hsz => by
            have := copyX B.a 24 st.nodes wx (fun e => by rw [e] at hone; simp at hone) (by omega) (fun wy hy => by rw [hRel2.nodes]; exact (hF2.fr0 (hx.trans hy)).src hRel2.nn)
            rw [hsz] at this
            exact this)
          have hF2B := Bx.mk hF2
          have hR0 := Bx.mk hR0'
          have hns : Bx (st.nodes ≠ []) := Bx.mk (fun e => by rw [e] at hone; simp at hone)
          have hn24 : (st.nodes.length : Int) ≤ 24 := by omega
          rw [he] at f12
          have hTT := Bx.mk (tr_new wr (.slice none 0 0) (-1) 0 st.bad rfl)
          clear hT hE hH he hF2 hout hlaw hR0' hRel2 hnl hdn hdn1
          generalize hLn : st.nodes.length = n at *
          go_wp2_with fail
          go_region
          go_upto_region 11 with fail
          have hwr : IntKind.i64.wrap ((n : Int) - 1) = (n : Int) - 1 := by rw [IntKind.wrap_i64]; omega
          go_region_held3 (fun w' => w'.cell? ⟨B.f, 4, none⟩ = some (sl B.a 24 24) ∧ w'.cell? ⟨B.f, 5, none⟩ = some (I (n : Int))) (go_keep)
            (first | (go_at_call 110; refine (hcp.out _ (by first | exact ((Fr.refl _ _).alloc _).drew.drew | exact ((Fr.refl _ _).alloc _).drew) (by simp)).mono ?_; clear hcp; rintro e w2 ⟨rfl, hh2, hf2⟩; have hf3 : Fr S0 wr w2 := (by first | exact ((Fr.refl _ _).alloc _).drew.drew.trans hf2 | exact ((Fr.refl _ _).alloc _).drew.trans hf2); have q4 : w2.cell? ⟨B.f, 4, none⟩ = some (sl B.a 24 24) := ((hf3.cell (a := ⟨B.f, 4, none⟩) l1 (fun e => e)).trans p4); have q5 : w2.cell? ⟨B.f, 5, none⟩ = some (I (n : Int)) := ((hf3.cell (a := ⟨B.f, 5, none⟩) l1 (fun e => e)).trans p5); have hT2 : Bx (Row w2 wr.heap.size 4 (trC (.slice none 0 0) (-1) 0 st.bad)) := Bx.mk (hf2.row0 hTT.out); have t0 := hT2.out.cell 0 (by omega); have t1 := hT2.out.cell 1 (by omega); have t2 := hT2.out.cell 2 (by omega); have t3 := hT2.out.cell 3 (by omega); have g0 := hT2.out.frozen 0; have g1 := hT2.out.frozen 1; have g2 := hT2.out.frozen 2; have g3 := hT2.out.frozen 3; simp only [trC] at t0 t1 t2 t3; have hh2 := Bx.mk hh2; have hne3 : wr.heap.size ≠ B.f := (by omega)))
          clear p1 p4 p5 p7 p9 y1 y5 y7 y9 f12 f11 f10 f13 f2 hTT t0 t1 t2 t3 g0 g1 g2 g3 q4 q5
          have hFw2 := hF2B.out.fr0 hf3
          have p1 := hFw2.row.cell 1 (by omega)
          have p5 := hFw2.row.cell 5 (by omega)
          have p7 := hFw2.row.cell 7 (by omega)
          have p9 := hFw2.row.cell 9 (by omega)
          have y1 := hFw2.row.frozen 1
          have y5 := hFw2.row.frozen 5
          have y7 := hFw2.row.frozen 7
          have y9 := hFw2.row.frozen 9
          simp only [fmC] at p1 p5 p7 p9
          have hFwB := Bx.mk hFw2
          clear hFw2
          go_upto_region 13 with fail
          refine world_cut (fun wz => FZ wz B ∧ Row wz w.heap.size 4 (trC (.slice none 0 0) 0 0 0) ∧ Row wz wr.heap.size 4 (trC (sl (wr.heap.size + 1) n n) ((n : Int) - 1) 0 0) ∧ wz.heap[wr.heap.size + 1]? = some (.cells (nds st.nodes).toArray 149 (0, 0)) ∧ Fr (FmS B) w wz) ?_ ?_
          · have hf4 := fr4 w2 wr.heap.size (sl (wr.heap.size + 1) n n) (I ((n : Int) - 1)) (I 0) (I 0)
            have hT4 := row4_set hT2.out (sl (wr.heap.size + 1) n n) ((n : Int) - 1) 0 0
            have hH4 := hf4.row (hf3.row0 hTB.out) (by have := hfr.size; have := hTB.out.lt; show ¬ w.heap.size = wr.heap.size; omega)
            have hF4 := hFwB.out.fr hf4 (fun j hj e => not_fm hF2B.out (by rw [show j = wr.heap.size from e]; exact Nat.le_refl _) hj)
            have hX4 := hf4.block (wr.heap.size + 1) (Array.getElem?_eq_some_iff.1 hh2.out).1 (by show ¬ wr.heap.size + 1 = wr.heap.size; omega)
            rw [hh2.out] at hX4
            have hfr4 := (hfr.step hf3 (fun x hx => hx.elim)).step hf4 (fun x hx => .inr (by rw [show x = wr.heap.size from hx]; exact hfr.size))
            clear hf4
            generalize (((w2.setCell ⟨wr.heap.size, 0, none⟩ (sl (wr.heap.size + 1) n n)).setCell ⟨wr.heap.size, 1, none⟩ (I ((n : Int) - 1))).setCell ⟨wr.heap.size, 2, none⟩ (I 0)).setCell ⟨wr.heap.size, 3, none⟩ (I 0) = w4 at *
            have hf5 : Fr (fun j => j = B.f) w4 ((((w4.setCell ⟨B.f, 1, none⟩ (I 0)).setCell ⟨B.f, 5, none⟩ (I 0)).setCell ⟨B.f, 7, none⟩ (I 0)).setCell ⟨B.f, 9, none⟩ (I 0)) := ((((Fr.refl (fun j => j = B.f) _).setCell (p := ⟨B.f, 1, none⟩) (.inl rfl) _).setCell (p := ⟨B.f, 5, none⟩) (.inl rfl) _).setCell (p := ⟨B.f, 7, none⟩) (.inl rfl) _).setCell (p := ⟨B.f, 9, none⟩) (.inl rfl) _
            have hX5 := hf5.block (wr.heap.size + 1) (Array.getElem?_eq_some_iff.1 hX4).1 (by show ¬ wr.heap.size + 1 = B.f; omega)
            rw [hX4] at hX5
            exact ⟨hF4.zero4, hf5.row hH4 hne, hf5.row hT4 hne3, hX5, (((hfr4.fm 1 _).fm 5 _).fm 7 _).fm 9 _⟩
          clear p1 p5 p7 p9 y1 y5 y7 y9 hFwB hTB hF2B hT2 hh2 hf3 hf2
          rintro wz ⟨hZz, hHz, hTz, hXz, hfz⟩
          have t0 := hTz.cell 0 (by omega)
          have t1 := hTz.cell 1 (by omega)
          have t2 := hTz.cell 2 (by omega)
          have t3 := hTz.cell 3 (by omega)
          have h0 := hHz.cell 0 (by omega)
          have h1 := hHz.cell 1 (by omega)
          have h2 := hHz.cell 2 (by omega)
          have h3 := hHz.cell 3 (by omega)
          have g0 := hHz.frozen 0
          have g1 := hHz.frozen 1
          have g2 := hHz.frozen 2
          have g3 := hHz.frozen 3
          simp only [trC] at t0 t1 t2 t3 h0 h1 h2 h3
          have hHB := Bx.mk hHz
          have hZB := Bx.mk hZz
          have hXB := Bx.mk hXz
          clear hHz hTz hZz hXz
          go_wp2_with fail
          refine ret_tree (p := 4) rfl rfl (row4_set hHB.out (sl (wr.heap.size + 1) n n) ((n : Int) - 1) 0 0) rfl ?_
          have hf6 := fr4 wz w.heap.size (sl (wr.heap.size + 1) n n) (I ((n : Int) - 1)) (I 0) (I 0)
          rw [hR0.out]
          refine ⟨_, rfl, .inr ⟨hns.out, wr.heap.size + 1, by have := hfr.size; omega, by rw [← hLn], ?_⟩, hZB.out.fr hf6 (fun j hj e => hnb.out j (by rw [show j = w.heap.size from e]; exact Nat.le_refl _) hj), hfz.step hf6 (fun x hx => .inr (by rw [show x = w.heap.size from hx]; exact Nat.le_refl _))⟩
          rw [hf6.block (wr.heap.size + 1) (Array.getElem?_eq_some_iff.1 hXB.out).1 (by have := hfr.size; show ¬ wr.heap.size + 1 = w.heap.size; omega)]
          exact hXB.out
      · have de : (st.err == 0) = false := by simpa using he
        have hout := ends_outX hE (.inl he)
        have hR0 : Bx (R0 = ⟨[], -1, st.err, st.bad⟩) := Bx.mk (by rw [← hout]; unfold RS.out; rw [if_neg he])
        obtain ⟨F2, hF2, -⟩ := hA
        obtain ⟨l1, -⟩ := hF2.lts
        have hne : w.heap.size ≠ B.f := fun e => hnb.out w.heap.size (Nat.le_refl _) (.inl e)
        have p1 := hF2.row.cell 1 (by omega)
        have p5 := hF2.row.cell 5 (by omega)
        have p7 := hF2.row.cell 7 (by omega)
        have p9 := hF2.row.cell 9 (by omega)
        have y1 := hF2.row.frozen 1
        have y5 := hF2.row.frozen 5
        have y7 := hF2.row.frozen 7
        have y9 := hF2.row.frozen 9
        simp only [fmC] at p1 p5 p7 p9
        have hF2B := Bx.mk hF2
        clear hT hE hH he hF2 hout hlaw
        go_wp2_with fail
        go_region
        go_upto_region 13 with fail
        refine world_cut (fun wz => FZ wz B ∧ Row wz w.heap.size 4 (trC (.slice none 0 0) 0 0 0) ∧ Row wz wr.heap.size 4 (trC (.slice none 0 0) (-1) st.err st.bad) ∧ Fr (FmS B) w wz) ?_ ?_
        · have hne2 : wr.heap.size ≠ B.f := by omega
          refine ⟨hF2B.out.zero4.fr0 ((Fr.refl _ _).alloc _).drew, ((((((hTB.out.set_other (p := ⟨B.f, 1, none⟩) hne _).set_other (p := ⟨B.f, 5, none⟩) hne _).set_other (p := ⟨B.f, 7, none⟩) hne _).set_other (p := ⟨B.f, 9, none⟩) hne _).alloc _).drew), (tr_new _ _ _ _ _ (by simp)).drew, (((((hfr.fm 1 _).fm 5 _).fm 7 _).fm 9 _).alloc _).drew⟩
        clear p1 p5 p7 p9 y1 y5 y7 y9 f12 f11 f10 f13 f2 hAB hTB hF2B
        rintro wz ⟨hZz, hHz, hTz, hfz⟩
        have t0 := hTz.cell 0 (by omega)
        have t1 := hTz.cell 1 (by omega)
        have t2 := hTz.cell 2 (by omega)
        have t3 := hTz.cell 3 (by omega)
        have h0 := hHz.cell 0 (by omega)
        have h1 := hHz.cell 1 (by omega)
        have h2 := hHz.cell 2 (by omega)
        have h3 := hHz.cell 3 (by omega)
        have g0 := hHz.frozen 0
        have g1 := hHz.frozen 1
        have g2 := hHz.frozen 2
        have g3 := hHz.frozen 3
        simp only [trC] at t0 t1 t2 t3 h0 h1 h2 h3
        have hHB := Bx.mk hHz
        have hZB := Bx.mk hZz
        clear hHz hTz hZz
        go_wp2_with fail
        refine ret_tree (p := 4) rfl rfl (row4_set hHB.out (.slice none 0 0) (-1) st.err st.bad) rfl ?_
        rw [hR0.out]
        exact ⟨_, rfl, .inl ⟨rfl, rfl⟩, hZB.out.fr (fr4 wz w.heap.size _ _ _ _) (fun j hj e => hnb.out j (by rw [show j = w.heap.size from e]; exact Nat.le_refl _) hj), hfz.step (fr4 wz w.heap.size _ _ _ _) (fun x hx => .inr (by rw [show x = w.heap.size from hx]; exact Nat.le_refl _))⟩
end Go.Proofs.Qxb6500326aGreat
