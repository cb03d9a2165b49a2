import Derived.Test.Qxb6500329aL11
namespace Go.Proofs.Qxb6500329a
set_option linter.unusedVariables false
set_option linter.unusedSimpArgs false
open Go.RowKit Go.PlainAid
theorem brk_opens {t : Tr} (h : TreeOK t) : opens (printOf t) = brkTo t.nodes t.nodes.length := by
  have h1 := sp_brk (L := t.nodes) _ _ _ _ 1 (by decide) h.sp
  have h2 := h.one
  rw [level_one, show t.nodes.length - 1 + 1 = t.nodes.length from by omega] at h1
  have e0 : brkTo t.nodes 0 = 0 := rfl
  have e1 : b2n false = 0 := rfl
  unfold printOf
  omega
theorem lst_print {t : Tr} (h : TreeOK t) : lst (bs (printOf t)) = printOf t := lst_bs (sp_byt _ _ _ _ 1 (by decide) h.sp)
set_option maxRecDepth 100000 in
set_option maxHeartbeats 4000000 in
theorem sameprint_any (B : FB) (fb d K S : Nat) (s : ByteArray) (v : Value) (t : Tr) (ct : Nat) (quiet : Bool) (w : World) (h : DS w B fb d K S (fun k => k < w.heap.size) s v t ct) (hz : FZ w B) (hm : MF w fb) (hlow : Low B fb d K S w.heap.size) (hct : ct < 2 ^ 58) (ht25 : t.nodes.length ≤ 25) (hs41 : s.size ≤ 41) :
    Calls Try.prog 38 #[pt B.f, pt fb, pt d, .bool quiet] w (StepP w B fb d K S v ct) := by
  have hids := Bx.mk h.ids
  have hvo : ∀ k, v.ownBlock = some k → ¬ Pk B d K S k := fun k hk e => (h.own k hk).1 (by
    rcases e with e | e | e | e
    · exact .inl e
    · exact .inr (.inr (.inl e))
    · exact .inr (.inr (.inr (.inl e)))
    · exact .inr (.inr (.inr (.inr e))))
  have hvf : ∀ k, v.ownBlock = some k → k ≠ fb := fun k hk e => (h.own k hk).1 (.inr (.inl e))
  have hpr := printed_any B fb d K S (fun k => k < w.heap.size) s v t ct v t w h hz hlow (fun k hk => hk) (by omega) h.reg (by omega) h.num hvo
  unfold PrintedP at hpr
  have hpm := Bx.mk (fun cv wx (hx : MF wx fb) (hN : NL wx cv t.nodes) (hc : ∀ k, cv.ownBlock = some k → k ≠ fb) => printM_any fb cv t wx hx hN h.num hc)
  have hpm2 := Bx.mk (fun (p : ByteArray) wx (hx : MF wx fb) => parseM_any fb p wx hx)
  have hag := Bx.mk (fun p uv u wx (hD : DS wx B fb d K S (fun k => k < wx.heap.size) s v t (ct + 1)) (hzx : FZ wx B) (hlx : Low B fb d K S wx.heap.size) (hu : NL wx uv u.nodes) (huv : ∀ k, uv.ownBlock = some k → ¬ Pk B d K S k) (hp : parseM (bt p) p.size = u) => again_any B fb d K S (fun k => k < wx.heap.size) s v t (ct + 1) p uv u wx hD hzx hlx (fun k hk => hk) (by omega) hu huv hp)
  have hq0 : (prT t).2 = 0 → TreeOK t ∧ prT t = (printOf t, 0) := fun e => prT_zero e
  have hrow := h.row
  have d1 := hrow.cell 1 (by omega)
  have d2 := hrow.cell 2 (by omega)
  have d3 := hrow.cell 3 (by omega)
  have d4 := hrow.cell 4 (by omega)
  simp only [dkC] at d1 d2 d3 d4
  have hcp := Bx.mk (fun wx (hN : NL wx v t.nodes) => copy_any v t.nodes wx hN (by omega))
  have hXN := Bx.mk (fun wx H cv (hx : XL wx H cv t.nodes) => hx.nl (by omega))
  obtain ⟨va, vc, hve⟩ := h.reg.slice
  obtain ⟨Q, hQ⟩ : ∃ Q, prT t = Q := ⟨_, rfl⟩
  rw [hQ] at hpr hq0
  rw [hQ] at hpm
  have hlB := Bx.mk hlow
  have hmB := Bx.mk hm
  have hctB := Bx.mk hct
  have hprB := Bx.mk hpr
  have h25 := Bx.mk ht25
  have h41 := Bx.mk hs41
  have hqB := Bx.mk hq0
  have hvoB := Bx.mk hvo
  have hvfB := Bx.mk hvf
  have hQB := Bx.mk hQ
  clear h hz hm hpr hlow hct ht25 hs41 hq0 hrow hQ hvo hvf
  obtain ⟨q1, q2⟩ := Q
  simp only at *
  subst hve
  obtain ⟨L, root, err, pos⟩ := t
  simp only at *
  generalize hLn : L.length = n at *
  have hLnB := Bx.mk hLn
  clear hLn
  go_enter Try.func38, Try.ntmps38
  go_upto_region 5 with (first
    | (go_at_call 52; refine hprB.out.mono ?_; clear hprB; rintro e w1 ⟨rfl, hD1, hz1, hf1⟩; have hD1B := Bx.mk hD1; have hz1B := Bx.mk hz1; have hm1 := Bx.mk (hmB.out.fr hf1 hids.out.fbPk); clear d1 d2 d3 d4; have d1 := hD1.row.cell 1 (by omega); simp only [dkC] at d1; clear hD1 hz1)
    | (go_at_call 22; refine (hcp.out _ hD1B.out.reg).mono ?_; clear hcp; rintro e w2 ⟨cv, rfl, hX2, hf2⟩; obtain ⟨ca, cn, cc, rfl⟩ := hX2.slice; have hX2B := Bx.mk hX2; clear hX2))
  have hD2 := Bx.mk (hD1B.out.fr0 hf2)
  have hz2 := Bx.mk (hz1B.out.fr0 hf2)
  have hm2 := Bx.mk (hm1.out.fr hf2 (fun c => c))
  have hrow2 := hD2.out.row
  have d2 := hrow2.cell 2 (by omega)
  have d3 := hrow2.cell 3 (by omega)
  have d4 := hrow2.cell 4 (by omega)
  simp only [dkC] at d2 d3 d4
  have hrB := Bx.mk hrow2
  have hdf : Bx (¬ d = fb) := Bx.mk (fun e => hids.out.fd e.symm)
  have hcvf : Bx (∀ k, Value.ownBlock (.slice ca cn cc) = some k → k ≠ fb) := Bx.mk (fun k hk e => by have h1 := (hX2B.out.own k hk).1; have h2 := hlB.out.f; have h3 := hf1.size; omega)
  clear hrow2 d1
  have hpmc := Bx.mk (fun wx (f : Fr S0 w2 wx) => hpm.out (.slice ca cn cc) wx (hm2.out.fr f (fun c => c)) (hXN.out _ _ _ (hX2B.out.fr0 f)) hcvf.out)
  go_region_held3 (fun w' => w'.cell? ⟨d, 2, none⟩ = some (I root) ∧ w'.cell? ⟨d, 3, none⟩ = some (I err) ∧ w'.cell? ⟨d, 4, none⟩ = some (I pos)) (go_keep)
    (first | (go_at_call 18; refine (hpmc.out _ (Fr.refl _ _).drew).mono ?_; clear hpmc; rintro e w3 ⟨rfl, hm3, hf3⟩; have hr3 := hf3.row hrB.out.drew hdf.out; have e2 := hr3.cell 2 (by omega); have e3 := hr3.cell 3 (by omega); have e4 := hr3.cell 4 (by omega); simp only [dkC] at e2 e3 e4; clear hr3; have hm3 := Bx.mk hm3))
  have hD3 : DS w3 B fb d K S (fun k => k < w3.heap.size) s (.slice va n vc) ⟨L, root, err, pos⟩ (ct + 1) := ((hD2.out.fr0 (Fr.refl _ _).drew).fr hf3 (fun k hk => .inr (.inl hk))).mono (fun k hk => by have h1 : k < w1.heap.size := hk; have h2 := hf2.size; have h3 : w2.heap.size ≤ w3.heap.size := hf3.size; omega)
  have hz3 : FZ w3 B := (hz2.out.fr0 (Fr.refl _ _).drew).fr hf3 (fun k hk e => hids.out.fB (by rw [← show k = fb from e]; exact hk))
  have hfr3 : Fr (Used B fb d K S) w w3 := (((Fr.pk hf1).step hf2 (fun x hx => hx.elim)).drew).step hf3 (fun x hx => .inl (.inr (.inl hx)))
  have hD3B := Bx.mk hD3
  have hz3B := Bx.mk hz3
  have hfr3B := Bx.mk hfr3
  have hrow3 := hD3.row
  clear e2 e3 e4
  have e1 := hrow3.cell 1 (by omega)
  have e2 := hrow3.cell 2 (by omega)
  have e3 := hrow3.cell 3 (by omega)
  have e4 := hrow3.cell 4 (by omega)
  simp only [dkC] at e1 e2 e3 e4
  have hreg3 := Bx.mk hD3.reg
  have hdl : d < w3.heap.size := hrow3.lt
  clear hD1B hz1B hm1 hX2B hD2 hz2 hm2 hrB d2 d3 d4 hcvf hD3 hz3 hfr3 hf1 hf2 hf3 hmB hrow3 hpm
  have ds : ((bs q1).toList != (bs q1).toList) = false := by simp
  have dq2 : (q2 != q2) = false := by simp
  by_cases hq : q2 = 0
  · have dq : (q2 != 0) = false := by simpa using hq
    obtain ⟨hTO, hQ1⟩ := hqB.out hq
    have hq1 : q1 = printOf ⟨L, root, err, pos⟩ := congrArg Prod.fst hQ1
    have hpl := print_len hTO
    have hops : opens (lst (bs q1)) = brkTo L n := by rw [hq1, lst_print hTO, brk_opens hTO, ← hLnB.out]
    have hrb := round_bs hTO
    rw [← hq1] at hrb hpl
    have hsz : (bs q1).size = q1.length := bs_size q1
    have hop := opens_any (bs q1)
    rw [hops] at hop
    have h1 : 1 ≤ L.length := hTO.one
    obtain ⟨g, cap, hge, -, -⟩ := hreg3.out.pos (fun e => by have e : L = [] := e; rw [e] at h1; simp at h1)
    injection hge with hge1 hge2 hge3
    subst hge1; subst hge3
    clear hge2
    have hbr := Bx.mk (fun wx (f : Fr S0 w3 wx) => brackets_any g vc L root err pos wx (by rw [hLnB.out]; exact hreg3.out.fr0 f) hTO.max (fun i hi => sp_nd _ _ _ _ hTO.sp i (Nat.zero_le _) (by have : i < L.length := hi; show i ≤ L.length - 1; omega)))
    rw [hLnB.out] at hbr
    have hopB : Bx (∀ wx, Calls Try.prog 53 #[.string (bs q1)] wx (fun e w' => e = .returned (I (brkTo L n)) ∧ wx = w')) := Bx.mk (fun wx => (hop wx (by rw [hsz]; omega)).mono (fun e w' h => ⟨h.1, h.2.symm⟩))
    have hbb : ((brkTo L n : Int) != (brkTo L n : Int)) = false := by simp
    have hsm := Bx.mk (fun (u : Tr) (hu : u.nodes.length ≤ 24) a b wx (h1 : NL wx a u.nodes) (h2 : NL wx b u.nodes) => same_tree a b u wx h1 h2 (by omega))
    have hmx : L.length ≤ 24 := hTO.max
    clear hTO hQ1 hops hop h1 hq hpl hq1
    generalize brkTo L n = bk at *
    by_cases h40 : q1.length ≤ 40
    · rw [if_pos h40] at hrb
      have dl : decide ((40 : Int) < ((bs q1).size : Int)) = false := decide_eq_false (by omega)
      have dl2 : decide (40 < (bs q1).size) = false := decide_eq_false (by omega)
      have hrbB := Bx.mk hrb
      clear hrb hsz h40
      cases quiet with
      | false =>
        go_wp2_with (first
          | (go_at_call 53; refine (hopB.out _).mono ?_; clear hopB; rintro e w' ⟨rfl, rfl⟩)
          | (go_at_call 54; refine (hbr.out _ (Fr.refl _ _)).mono ?_; clear hbr; rintro e w4 ⟨rfl, hf4⟩; have hr4 := (hD3B.out.fr0 hf4).row; clear e1 e2 e3 e4 hdl; have e1 := hr4.cell 1 (by omega); have e2 := hr4.cell 2 (by omega); have e3 := hr4.cell 3 (by omega); have e4 := hr4.cell 4 (by omega); simp only [dkC] at e1 e2 e3 e4; have hdl : d < w4.heap.size := hr4.lt; clear hr4)
          | (go_at_call 55; refine (hag.out (bs q1) (.slice (some ⟨g, 0, none⟩) n vc) ⟨L, root, err, pos⟩ _ ((hD3B.out.fr0 (show Fr S0 w3 (w4.alloc (.cells #[.slice (some ⟨g, 0, none⟩) n vc, I root, I err, I pos] 34)) from hf4.trans ((Fr.refl _ _).alloc _))).mono (fun k hk => Nat.lt_of_lt_of_le hk (show Fr S0 w3 (w4.alloc (.cells #[.slice (some ⟨g, 0, none⟩) n vc, I root, I err, I pos] 34)) from hf4.trans ((Fr.refl _ _).alloc _)).size)) (hz3B.out.fr0 (show Fr S0 w3 (w4.alloc (.cells #[.slice (some ⟨g, 0, none⟩) n vc, I root, I err, I pos] 34)) from hf4.trans ((Fr.refl _ _).alloc _))) (hlB.out.mono (Nat.le_trans hfr3B.out.size (show Fr S0 w3 (w4.alloc (.cells #[.slice (some ⟨g, 0, none⟩) n vc, I root, I err, I pos] 34)) from hf4.trans ((Fr.refl _ _).alloc _)).size)) (hreg3.out.fr0 (show Fr S0 w3 (w4.alloc (.cells #[.slice (some ⟨g, 0, none⟩) n vc, I root, I err, I pos] 34)) from hf4.trans ((Fr.refl _ _).alloc _))) (hvoB.out) hrbB.out).mono ?_; clear hag; rintro e w5 ⟨rfl, ⟨c5, hc0, hc1, hD5⟩, hz5, hf5⟩))
        go_ret
        exact ⟨rfl, ⟨_, _, _, _, hD5, (by show L.length ≤ 25; rw [hLnB.out]; exact h25.out), h41.out, by omega, fun k hk => .inl hk⟩, hz5, (hm3.out.fr (show Fr S0 w3 (w4.alloc (.cells #[.slice (some ⟨g, 0, none⟩) n vc, I root, I err, I pos] 34)) from hf4.trans ((Fr.refl _ _).alloc _)) (fun c => c)).fr hf5 hids.out.fbPk, Fr.usd (((hfr3B.out.step (show Fr S0 w3 (w4.alloc (.cells #[.slice (some ⟨g, 0, none⟩) n vc, I root, I err, I pos] 34)) from hf4.trans ((Fr.refl _ _).alloc _)) (fun x hx => hx.elim))).trans (Fr.pk hf5))⟩
      | true =>
        go_wp2_with (first
          | (go_at_call 53; refine (hopB.out _).mono ?_; clear hopB; rintro e w' ⟨rfl, rfl⟩)
          | (go_at_call 54; refine (hbr.out _ (Fr.refl _ _)).mono ?_; clear hbr; rintro e w4 ⟨rfl, hf4⟩; have hr4 := (hD3B.out.fr0 hf4).row; clear e1 e2 e3 e4 hdl; have e1 := hr4.cell 1 (by omega); have e2 := hr4.cell 2 (by omega); have e3 := hr4.cell 3 (by omega); have e4 := hr4.cell 4 (by omega); simp only [dkC] at e1 e2 e3 e4; have hdl : d < w4.heap.size := hr4.lt; clear hr4)
          | (go_at_call 13; refine (hpm2.out (bs q1) _ (hm3.out.fr (show Fr S0 w3 (w4.alloc (.cells #[.slice (some ⟨g, 0, none⟩) n vc, I root, I err, I pos] 34)) from hf4.trans ((Fr.refl _ _).alloc _)) (fun c => c))).mono ?_; clear hpm2; rintro e w5 ⟨v5, hr5, hX5, hm5, hf5⟩; rw [hrbB.out] at hr5 hX5; subst hr5; obtain ⟨a5, n5, c5, rfl⟩ := hX5.slice; have hX5B := Bx.mk hX5; have hm5B := Bx.mk hm5; have hW5 := Bx.mk (hf5.row (tr_new w4 (.slice (some ⟨g, 0, none⟩) n vc) root err pos rfl) (show ¬ w4.heap.size = fb from by have q1 := hlB.out.f; have q2 := hfr3B.out.size; have q3 := hf4.size; omega)); have u0 := hW5.out.cell 0 (by omega); have u1 := hW5.out.cell 1 (by omega); have u2 := hW5.out.cell 2 (by omega); have u3 := hW5.out.cell 3 (by omega); simp only [trC] at u0 u1 u2 u3; have hlt5 : w4.heap.size < w5.heap.size := (by have q := hf5.size; simp at q; omega); clear hX5 hm5)
          | (go_at_call 49; refine (hsm.out ⟨L, root, err, pos⟩ hmx _ _ _ ((hX5B.out.nl (by show L.length ≤ 100; omega)).fr0 ((Fr.refl _ _).alloc _)) ((hreg3.out.fr0 (show Fr S0 w3 (w4.alloc (.cells #[.slice (some ⟨g, 0, none⟩) n vc, I root, I err, I pos] 34)) from hf4.trans ((Fr.refl _ _).alloc _))).fr hf5 hvfB.out |>.fr0 ((Fr.refl _ _).alloc _))).mono ?_; clear hsm; rintro e w6 ⟨rfl, hf6⟩))
        go_ret
        have hf56 : Fr S0 w5 w6 := ((Fr.refl _ _).alloc _).trans hf6
        refine ⟨rfl, ⟨_, _, _, _, ((((hD3B.out.fr0 (show Fr S0 w3 (w4.alloc (.cells #[.slice (some ⟨g, 0, none⟩) n vc, I root, I err, I pos] 34)) from hf4.trans ((Fr.refl _ _).alloc _))).fr hf5 (fun k hk => .inr (.inl hk)))).fr0 hf56).mono (fun k hk => ?_), (by show L.length ≤ 25; rw [hLnB.out]; exact h25.out), h41.out, by omega, fun k hk => .inl hk⟩, ((hz3B.out.fr0 (show Fr S0 w3 (w4.alloc (.cells #[.slice (some ⟨g, 0, none⟩) n vc, I root, I err, I pos] 34)) from hf4.trans ((Fr.refl _ _).alloc _))).fr hf5 (fun k hk e => hids.out.fB (by rw [← show k = fb from e]; exact hk))).fr0 hf56, hm5B.out.fr hf56 (fun c => c), Fr.usd (((hfr3B.out.step (show Fr S0 w3 (w4.alloc (.cells #[.slice (some ⟨g, 0, none⟩) n vc, I root, I err, I pos] 34)) from hf4.trans ((Fr.refl _ _).alloc _)) (fun x hx => hx.elim)).step hf5 (fun x hx => .inl (.inr (.inl hx)))).step hf56 (fun x hx => hx.elim))⟩
        have q1 := ((show Fr S0 w3 (w4.alloc (.cells #[.slice (some ⟨g, 0, none⟩) n vc, I root, I err, I pos] 34)) from hf4.trans ((Fr.refl _ _).alloc _))).size
        have q2 := hf5.size
        have q3 := hf56.size
        exact Nat.lt_of_lt_of_le hk (Nat.le_trans q1 (Nat.le_trans q2 q3))
    · rw [if_neg h40] at hrb
      have dl : decide ((40 : Int) < ((bs q1).size : Int)) = true := decide_eq_true (by omega)
      have dl2 : decide (40 < (bs q1).size) = true := decide_eq_true (by omega)
      have hrbB := Bx.mk hrb
      clear hrb hsz h40
      cases quiet with
      | false =>
        go_wp2_with (first
          | (go_at_call 53; refine (hopB.out _).mono ?_; clear hopB; rintro e w' ⟨rfl, rfl⟩)
          | (go_at_call 54; refine (hbr.out _ (Fr.refl _ _)).mono ?_; clear hbr; rintro e w4 ⟨rfl, hf4⟩; have hr4 := (hD3B.out.fr0 hf4).row; clear e1 e2 e3 e4 hdl; have e1 := hr4.cell 1 (by omega); have e2 := hr4.cell 2 (by omega); have e3 := hr4.cell 3 (by omega); have e4 := hr4.cell 4 (by omega); simp only [dkC] at e1 e2 e3 e4; have hdl : d < w4.heap.size := hr4.lt; clear hr4)
          | (go_at_call 55; refine (hag.out (bs q1) (.slice none 0 0) ⟨[], -1, 1, 0⟩ _ ((hD3B.out.fr0 (show Fr S0 w3 (w4.alloc (.cells #[.slice none 0 0, I (-1), I 1, I 0] 34)) from hf4.trans ((Fr.refl _ _).alloc _))).mono (fun k hk => Nat.lt_of_lt_of_le hk (show Fr S0 w3 (w4.alloc (.cells #[.slice none 0 0, I (-1), I 1, I 0] 34)) from hf4.trans ((Fr.refl _ _).alloc _)).size)) (hz3B.out.fr0 (show Fr S0 w3 (w4.alloc (.cells #[.slice none 0 0, I (-1), I 1, I 0] 34)) from hf4.trans ((Fr.refl _ _).alloc _))) (hlB.out.mono (Nat.le_trans hfr3B.out.size (show Fr S0 w3 (w4.alloc (.cells #[.slice none 0 0, I (-1), I 1, I 0] 34)) from hf4.trans ((Fr.refl _ _).alloc _)).size)) (World.ownsRow_nil _ 0 44 13) (fun k hk => by cases hk) hrbB.out).mono ?_; clear hag; rintro e w5 ⟨rfl, ⟨c5, hc0, hc1, hD5⟩, hz5, hf5⟩))
        go_ret
        exact ⟨rfl, ⟨_, _, _, _, hD5, (by show L.length ≤ 25; rw [hLnB.out]; exact h25.out), h41.out, by omega, fun k hk => .inl hk⟩, hz5, (hm3.out.fr (show Fr S0 w3 (w4.alloc (.cells #[.slice none 0 0, I (-1), I 1, I 0] 34)) from hf4.trans ((Fr.refl _ _).alloc _)) (fun c => c)).fr hf5 hids.out.fbPk, Fr.usd (((hfr3B.out.step (show Fr S0 w3 (w4.alloc (.cells #[.slice none 0 0, I (-1), I 1, I 0] 34)) from hf4.trans ((Fr.refl _ _).alloc _)) (fun x hx => hx.elim))).trans (Fr.pk hf5))⟩
      | true =>
        go_wp2_with (first
          | (go_at_call 53; refine (hopB.out _).mono ?_; clear hopB; rintro e w' ⟨rfl, rfl⟩)
          | (go_at_call 54; refine (hbr.out _ (Fr.refl _ _)).mono ?_; clear hbr; rintro e w4 ⟨rfl, hf4⟩; have hr4 := (hD3B.out.fr0 hf4).row; clear e1 e2 e3 e4 hdl; have e1 := hr4.cell 1 (by omega); have e2 := hr4.cell 2 (by omega); have e3 := hr4.cell 3 (by omega); have e4 := hr4.cell 4 (by omega); simp only [dkC] at e1 e2 e3 e4; have hdl : d < w4.heap.size := hr4.lt; clear hr4)
          | (go_at_call 13; refine (hpm2.out (bs q1) _ (hm3.out.fr (show Fr S0 w3 (w4.alloc (.cells #[.slice none 0 0, I (-1), I 1, I 0] 34)) from hf4.trans ((Fr.refl _ _).alloc _)) (fun c => c))).mono ?_; clear hpm2; rintro e w5 ⟨v5, hr5, hX5, hm5, hf5⟩; rw [hrbB.out] at hr5 hX5; subst hr5; obtain ⟨a5, n5, c5, rfl⟩ := hX5.slice; have hX5B := Bx.mk hX5; have hm5B := Bx.mk hm5; have hW5 := Bx.mk (hf5.row (tr_new w4 (.slice none 0 0) (-1) 1 0 rfl) (show ¬ w4.heap.size = fb from by have q1 := hlB.out.f; have q2 := hfr3B.out.size; have q3 := hf4.size; omega)); have u0 := hW5.out.cell 0 (by omega); have u1 := hW5.out.cell 1 (by omega); have u2 := hW5.out.cell 2 (by omega); have u3 := hW5.out.cell 3 (by omega); simp only [trC] at u0 u1 u2 u3; have hlt5 : w4.heap.size < w5.heap.size := (by have q := hf5.size; simp at q; omega); clear hX5 hm5)
          | (go_at_call 49; refine (hsm.out ⟨[], -1, 1, 0⟩ (by decide) _ _ _ ((hX5B.out.nl (by show 0 ≤ 100; decide)).fr0 ((Fr.refl _ _).alloc _)) (World.ownsRow_nil _ 0 44 13)).mono ?_; clear hsm; rintro e w6 ⟨rfl, hf6⟩))
        go_ret
        have hf56 : Fr S0 w5 w6 := ((Fr.refl _ _).alloc _).trans hf6
        refine ⟨rfl, ⟨_, _, _, _, ((((hD3B.out.fr0 (show Fr S0 w3 (w4.alloc (.cells #[.slice none 0 0, I (-1), I 1, I 0] 34)) from hf4.trans ((Fr.refl _ _).alloc _))).fr hf5 (fun k hk => .inr (.inl hk)))).fr0 hf56).mono (fun k hk => ?_), (by show L.length ≤ 25; rw [hLnB.out]; exact h25.out), h41.out, by omega, fun k hk => .inl hk⟩, ((hz3B.out.fr0 (show Fr S0 w3 (w4.alloc (.cells #[.slice none 0 0, I (-1), I 1, I 0] 34)) from hf4.trans ((Fr.refl _ _).alloc _))).fr hf5 (fun k hk e => hids.out.fB (by rw [← show k = fb from e]; exact hk))).fr0 hf56, hm5B.out.fr hf56 (fun c => c), Fr.usd (((hfr3B.out.step (show Fr S0 w3 (w4.alloc (.cells #[.slice none 0 0, I (-1), I 1, I 0] 34)) from hf4.trans ((Fr.refl _ _).alloc _)) (fun x hx => hx.elim)).step hf5 (fun x hx => .inl (.inr (.inl hx)))).step hf56 (fun x hx => hx.elim))⟩
        have q1 := ((show Fr S0 w3 (w4.alloc (.cells #[.slice none 0 0, I (-1), I 1, I 0] 34)) from hf4.trans ((Fr.refl _ _).alloc _))).size
        have q2 := hf5.size
        have q3 := hf56.size
        exact Nat.lt_of_lt_of_le hk (Nat.le_trans q1 (Nat.le_trans q2 q3))
  · have dq : (q2 != 0) = true := by simpa using hq
    clear hq
    go_wp2_with fail
    go_ret
    exact ⟨rfl, ⟨_, _, _, _, hD3B.out, (by show L.length ≤ 25; rw [hLnB.out]; exact h25.out), h41.out, by omega, fun k hk => .inl hk⟩, hz3B.out, hm3.out, Fr.usd hfr3B.out⟩
end Go.Proofs.Qxb6500329a
