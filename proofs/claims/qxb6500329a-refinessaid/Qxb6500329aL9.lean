import Derived.Test.Qxb6500329aL8
import Derived.Test.Qxb6500329aW19
namespace Go.Proofs.Qxb6500329a
set_option linter.unusedVariables false
set_option linter.unusedSimpArgs false
open Go.RowKit Go.PlainAid
/-- The desk's register takes a list of its own. -/
theorem DS.setReg {w : World} {B : FB} {fb d K S : Nat} {Z : Nat → Prop} {s : ByteArray} {v : Value} {t : Tr} {ct : Nat} (h : DS w B fb d K S Z s v t ct) {H : Nat} {v' : Value} {T : Tr} (hX : XL w H v' T.nodes) (hl : T.nodes.length ≤ 100) (hn : NumOK T.nodes) (hv : ∀ k, v'.ownBlock = some k → ¬ Used B fb d K S k ∧ ¬ Z k) :
    DS ((((w.setCell ⟨d, 1, none⟩ v').setCell ⟨d, 2, none⟩ (I T.root)).setCell ⟨d, 3, none⟩ (I T.err)).setCell ⟨d, 4, none⟩ (I T.pos)) B fb d K S (fun k => Z k ∨ v'.ownBlock = some k) s v' T ct := by
  have f : Fr (fun k => k = d) w ((((w.setCell ⟨d, 1, none⟩ v').setCell ⟨d, 2, none⟩ (I T.root)).setCell ⟨d, 3, none⟩ (I T.err)).setCell ⟨d, 4, none⟩ (I T.pos)) := ((((Fr.refl (fun k => k = d) w).setCell (p := ⟨d, 1, none⟩) (.inl rfl) _).setCell (p := ⟨d, 2, none⟩) (.inl rfl) _).setCell (p := ⟨d, 3, none⟩) (.inl rfl) _).setCell (p := ⟨d, 4, none⟩) (.inl rfl) _
  obtain ⟨kv, sv, hr⟩ := h.ring
  refine ⟨h.ids, ((((h.row.set 1 v').set 2 (I T.root)).set 3 (I T.err)).set 4 (I T.pos)).congr (by intro i hi; rcases i with _ | _ | _ | _ | _ | _ | _ | _ | i <;> first | rfl | omega), (hX.nl hl).fr f (fun k hk e => (hv k hk).1 (.inr (.inr (.inl e)))), fun k hk => ⟨(hv k hk).1, .inr hk⟩, ⟨kv, sv, f.row hr.kr (fun e => h.ids.dK e.symm), f.row hr.sr (fun e => h.ids.dS e.symm), ?_⟩, hn⟩
  intro j g n hj e
  obtain ⟨h1, h2, h3, h4⟩ := hr.kp j g n hj e
  refine ⟨h1, h2.of f (fun e => h3 (.inl (.inr (.inr (.inl e))))), ?_, .inl h4⟩
  rintro (c | c)
  · exact h3 (.inl c)
  · exact (hv g c).2 h4
/-- What a step leaves. -/
abbrev StepP (w : World) (B : FB) (fb d K S : Nat) (v0 : Value) (c0 : Nat) : Ending → World → Prop := fun e w' => e = .returned (.bool true) ∧ (∃ s v t ct, DS w' B fb d K S (fun k => k < w'.heap.size) s v t ct ∧ t.nodes.length ≤ 25 ∧ s.size ≤ 41 ∧ ct ≤ c0 + 3 ∧ (∀ k, v.ownBlock = some k → v0.ownBlock = some k ∨ w.heap.size ≤ k)) ∧ FZ w' B ∧ MF w' fb ∧ Fr (fun k => Used B fb d K S k ∨ v0.ownBlock = some k) w w'
theorem Fr.usd {B : FB} {fb d K S : Nat} {v0 : Value} {w w' : World} (h : Fr (Used B fb d K S) w w') : Fr (fun k => Used B fb d K S k ∨ v0.ownBlock = some k) w w' := h.mono (fun k hk => .inl hk)
theorem Fr.pk {B : FB} {fb d K S : Nat} {w w' : World} (h : Fr (Pk B d K S) w w') : Fr (Used B fb d K S) w w' := h.mono (fun k hk => by
  rcases hk with e | e | e | e
  · exact .inl e
  · exact .inr (.inr (.inl e))
  · exact .inr (.inr (.inr (.inl e)))
  · exact .inr (.inr (.inr (.inr e))))
theorem Ids.fbPk {B : FB} {fb d K S : Nat} (h : Ids B fb d K S) : ¬ Pk B d K S fb := by
  rintro (e | e | e | e)
  · exact h.fB e
  · exact h.fd e
  · exact h.fK e
  · exact h.fS e
theorem not_pk {B : FB} {fb d K S H k : Nat} (h : Low B fb d K S H) (hk : H ≤ k) : ¬ Pk B d K S k := fun e => h.not hk (by
  rcases e with e | e | e | e
  · exact .inl e
  · exact .inr (.inr (.inl e))
  · exact .inr (.inr (.inr (.inl e)))
  · exact .inr (.inr (.inr (.inr e))))
set_option maxRecDepth 100000 in
set_option maxHeartbeats 4000000 in
theorem sameparse_any (B : FB) (fb d K S : Nat) (Z : Nat → Prop) (s : ByteArray) (v : Value) (t : Tr) (ct : Nat) (p : ByteArray) (quiet : Bool) (w : World) (h : DS w B fb d K S Z s v t ct) (hz : FZ w B) (hm : MF w fb) (hlow : Low B fb d K S w.heap.size) (hZ : ∀ k, Z k → k < w.heap.size) (hct : ct < 2 ^ 58) (ht25 : t.nodes.length ≤ 25) (hs41 : s.size ≤ 41) :
    Calls Try.prog 37 #[pt B.f, pt fb, pt d, .string p, .bool quiet] w (StepP w B fb d K S v ct) := by
  have hlen := parse_len (bt p) p.size
  have hnum := parse_num (bt p) p.size
  have hlaw := parse_law (bt p) p.size
  have hids := Bx.mk h.ids
  have hpa := parsed_any B fb d K S Z s v t ct p w h hz hlow hZ (by omega)
  have hpm := Bx.mk (fun wx (hx : MF wx fb) => parseM_any fb p wx hx)
  have hlf := Bx.mk (fun H cv wx (hx : XL wx H cv (parseM (bt p) p.size).nodes) => lawful_any p H cv wx hx)
  have hrt := Bx.mk (fun (hT : TreeOK (parseM (bt p) p.size)) (hn : (printOf (parseM (bt p) p.size)).length ≤ p.size) (h40 : p.size ≤ 40) uv Z' v' t' c' wx (hD : DS wx B fb d K S Z' s v' t' c') (hzx : FZ wx B) (hlx : Low B fb d K S wx.heap.size) (hZx : ∀ k, Z' k → k < wx.heap.size) (hcx : c' < 2 ^ 59) (hu : NL wx uv (parseM (bt p) p.size).nodes) (huv : ∀ k, uv.ownBlock = some k → ¬ Pk B d K S k) => roundtrip_any B fb d K S Z' s v' t' c' uv (parseM (bt p) p.size) p.size wx hD hzx hlx hZx hcx hu huv hT hn h40)
  have h40 : (parseM (bt p) p.size).err = 0 → p.size ≤ 40 := by
    intro e
    apply Classical.byContradiction
    intro c
    unfold parseM at e
    rw [if_pos (by omega)] at e
    cases e
  generalize parseM (bt p) p.size = T at *
  have hsm := Bx.mk (fun a b wx (h1 : NL wx a T.nodes) (h2 : NL wx b T.nodes) => same_tree a b T wx h1 h2 (by omega))
  have hXN := Bx.mk (fun wx H cv (hx : XL wx H cv T.nodes) => hx.nl (by omega))
  have hset := Bx.mk (fun wx Z' c' (hD : DS wx B fb d K S Z' s v t c') H v' (hX : XL wx H v' T.nodes) (hv : ∀ k, v'.ownBlock = some k → ¬ Used B fb d K S k ∧ ¬ Z' k) => hD.setReg hX (by omega) hnum hv)
  have hlB := Bx.mk hlow
  have hmB := Bx.mk hm
  have hctB := Bx.mk hct
  have hpB := Bx.mk hpa
  have h25 := Bx.mk ht25
  have h41 := Bx.mk hs41
  have hT24 := Bx.mk hlen
  clear h hz hm hZ hpa hlow hct hnum ht25 hs41 hlen
  have hlawB := Bx.mk hlaw
  have h40B := Bx.mk h40
  clear hlaw h40
  obtain ⟨L, root, err, pos⟩ := T
  simp only at *
  go_enter Try.func37, Try.ntmps37
  go_upto_region 9 with (first
    | (go_at_call 48; refine hpB.out.mono ?_; clear hpB; rintro e w1 ⟨v1, rfl, hX1, hD1, hz1, hf1⟩; obtain ⟨a1, n1, c1, rfl⟩ := hX1.slice; have hX1B := Bx.mk hX1; have hD1B := Bx.mk hD1; have hz1B := Bx.mk hz1; have hT1 := Bx.mk (tr_new w1 (.slice a1 n1 c1) root err pos rfl); have hm1 := Bx.mk (hmB.out.fr hf1 hids.out.fbPk); have hw1n : w1.heap.size ≠ fb := (by have q1 := hlB.out.f; have q2 := hf1.size; omega); clear hX1 hD1 hz1)
    | (go_at_call 13; refine (hpm.out _ (hm1.out.fr ((Fr.refl S0 _).alloc (.cells #[.slice a1 n1 c1, I root, I err, I pos] 34)) (fun c => c))).mono ?_; clear hpm; rintro e w2 ⟨v2, rfl, hX2, hm2, hf2⟩; obtain ⟨a2, n2, c2, rfl⟩ := hX2.slice; have hX2B := Bx.mk hX2; have hm2B := Bx.mk hm2; have hT2 := Bx.mk (hf2.row hT1.out hw1n); have hlt2 : w1.heap.size < w2.heap.size := (by have q := hf2.size; simp at q; omega); have hX1' := Bx.mk ((hX1B.out.fr0 ((Fr.refl _ _).alloc (.cells #[.slice a1 n1 c1, I root, I err, I pos] 34))).fr hf2 (fun k hk e => by have q1 := (hX1B.out.own k hk).1; have q2 := hlB.out.f; have e : k = fb := e; omega)); have t0 := hT2.out.cell 0 (by omega); have t1 := hT2.out.cell 1 (by omega); have t2 := hT2.out.cell 2 (by omega); have t3 := hT2.out.cell 3 (by omega); simp only [trC] at t0 t1 t2 t3; clear hX2 hm2)
    | (go_at_call 49; refine (hsm.out _ _ _ ((hXN.out _ _ _ hX1'.out).fr0 ((Fr.refl _ _).alloc (.cells #[.slice a2 n2 c2, I root, I err, I pos] 34))) ((hXN.out _ _ _ hX2B.out).fr0 ((Fr.refl _ _).alloc (.cells #[.slice a2 n2 c2, I root, I err, I pos] 34)))).mono ?_; clear hsm; rintro e w3 ⟨rfl, hf3⟩; have hf23 : Fr S0 w2 w3 := ((Fr.refl _ _).alloc _).trans hf3; have hT3 := Bx.mk (hf23.row0 hT2.out); clear t0 t1 t2 t3; have t0 := hT3.out.cell 0 (by omega); have t1 := hT3.out.cell 1 (by omega); have t2 := hT3.out.cell 2 (by omega); have t3 := hT3.out.cell 3 (by omega); simp only [trC] at t0 t1 t2 t3)
    | (go_at_call 50; refine (hlf.out _ _ _ (hX1'.out.fr0 hf23)).mono ?_; clear hlf; rintro e w4 ⟨rfl, hf4⟩; have hf24 : Fr S0 w2 w4 := hf23.trans hf4))
  have hT4 := Bx.mk (hf24.row0 hT2.out)
  have hX4 := Bx.mk (hX1'.out.fr0 hf24)
  have hX1o := Bx.mk (fun k hk => hX1B.out.own k hk)
  have hD4 := Bx.mk (((hD1B.out.fr0 ((Fr.refl _ _).alloc (.cells #[.slice a1 n1 c1, I root, I err, I pos] 34))).fr hf2 (fun k hk => .inr (.inl hk))).fr0 hf24)
  have hz4 := Bx.mk ((((hz1B.out.fr0 ((Fr.refl _ _).alloc (.cells #[.slice a1 n1 c1, I root, I err, I pos] 34))).fr hf2 (fun k hk e => hids.out.fB (by rw [← show k = fb from e]; exact hk)))).fr0 hf24)
  have hm4 := Bx.mk (hm2B.out.fr hf24 (fun c => c))
  have hfr4 : Bx (Fr (Used B fb d K S) w w4) := Bx.mk ((((Fr.pk hf1).alloc (.cells #[.slice a1 n1 c1, I root, I err, I pos] 34)).step hf2 (fun x hx => .inl (.inr (.inl hx)))).step hf24 (fun x hx => hx.elim))
  have hs14 : Bx (w1.heap.size < w4.heap.size ∧ w.heap.size ≤ w1.heap.size) := Bx.mk (by have := hf24.size; have := hf1.size; omega)
  clear t0 t1 t2 t3 hX1' hX1B hX2B hT1 hT2 hT3 hm1 hm2B hf1 hf2 hf3 hf4 hf23 hf24 hD1B hz1B hmB hXN hlt2
  have t0 := hT4.out.cell 0 (by omega)
  have t1 := hT4.out.cell 1 (by omega)
  have t2 := hT4.out.cell 2 (by omega)
  have t3 := hT4.out.cell 3 (by omega)
  simp only [trC] at t0 t1 t2 t3
  rcases hlawB.out with ⟨he, hT, htx⟩ | ⟨he, -⟩
  · have de : (err != 0) = false := by simpa using he
    have hp40 := h40B.out he
    have hRow := hD4.out.row
    have d1 := hRow.cell 1 (by omega)
    have d2 := hRow.cell 2 (by omega)
    have d3 := hRow.cell 3 (by omega)
    have d4 := hRow.cell 4 (by omega)
    have z1 := hRow.frozen 1
    have z2 := hRow.frozen 2
    have z3 := hRow.frozen 3
    have z4 := hRow.frozen 4
    have hdw : d ≠ w1.heap.size := by have := hlB.out.d; have := hs14.out; omega
    have hdw2 : w1.heap.size ≠ d := fun e => hdw e.symm
    simp only [dkC] at d1 d2 d3 d4
    have hS := Bx.mk (hset.out _ _ _ hD4.out _ _ hX4.out (fun k hk => ⟨hlB.out.not (by have := (hX1o.out k hk).1; omega), fun c => c.2 hk⟩))
    have fD : Bx (Fr (fun k => k = d) w4 ((((w4.setCell ⟨d, 1, none⟩ (.slice a1 n1 c1)).setCell ⟨d, 2, none⟩ (I root)).setCell ⟨d, 3, none⟩ (I err)).setCell ⟨d, 4, none⟩ (I pos))) := Bx.mk (((((Fr.refl (fun k => k = d) w4).setCell (p := ⟨d, 1, none⟩) (.inl rfl) _).setCell (p := ⟨d, 2, none⟩) (.inl rfl) _).setCell (p := ⟨d, 3, none⟩) (.inl rfl) _).setCell (p := ⟨d, 4, none⟩) (.inl rfl) _)
    have hTo := Bx.mk hT
    have htxB := Bx.mk htx
    clear he hT htx hRow hlawB h40B hset
    cases quiet with
    | true =>
      go_wp2_with fail
      go_ret
      have hsD := fD.out.size
      refine ⟨rfl, ⟨_, _, _, _, hS.out.mono ?_, ?_, h41.out, by omega, fun k hk => .inr (by have h1 := (hX1o.out k hk).1; omega)⟩, hz4.out.fr fD.out (fun k hk e => hids.out.dB (by rw [← show k = d from e]; exact hk)), hm4.out.fr fD.out (fun e => hids.out.fd e), Fr.usd (hfr4.out.step fD.out (fun x hx => .inl (.inr (.inr (.inl hx)))))⟩
      · rintro k (c | c)
        · have h1 := c.1
          have h2 := hs14.out
          have : w1.heap.size ≤ w4.heap.size := by omega
          exact Nat.lt_of_lt_of_le (Nat.lt_of_lt_of_le h1 this) hsD
        · have h1 := (hX1o.out k c).2
          have h2 := hs14.out
          exact Nat.lt_of_lt_of_le (by omega : k < w4.heap.size) hsD
      · show L.length ≤ 25
        have := hT24.out; omega
    | false =>
      have hTD := Bx.mk (fD.out.row hT4.out hdw2)
      go_upto_region 14 with fail
      refine world_cut (fun wz => DS wz B fb d K S (fun k => k < wz.heap.size) s (.slice a1 n1 c1) ⟨L, root, err, pos⟩ (ct + 1) ∧ Row wz w1.heap.size 4 (trC (.slice a1 n1 c1) root err pos) ∧ FZ wz B ∧ MF wz fb ∧ Fr (Used B fb d K S) w wz ∧ NL wz (.slice a1 n1 c1) L) ⟨hS.out.mono ?_, hTD.out, hz4.out.fr fD.out (fun k hk e => hids.out.dB (by rw [← show k = d from e]; exact hk)), hm4.out.fr fD.out (fun e => hids.out.fd e), hfr4.out.step fD.out (fun x hx => .inl (.inr (.inr (.inl hx)))), hS.out.reg⟩ ?_
      · have hsD := fD.out.size
        rintro k (c | c)
        · have h1 := c.1
          have h2 := hs14.out
          have : w1.heap.size ≤ w4.heap.size := by omega
          exact Nat.lt_of_lt_of_le (Nat.lt_of_lt_of_le h1 this) hsD
        · have h1 := (hX1o.out k c).2
          have h2 := hs14.out
          exact Nat.lt_of_lt_of_le (by omega : k < w4.heap.size) hsD
      clear t0 t1 t2 t3 d1 d2 d3 d4 z1 z2 z3 z4 hS fD hTD hD4 hz4 hm4 hX4 hT4
      rintro wz ⟨hDz, hTz, hzz, hmz, hfz, hnz⟩
      have t0 := hTz.cell 0 (by omega)
      have t1 := hTz.cell 1 (by omega)
      have t2 := hTz.cell 2 (by omega)
      have t3 := hTz.cell 3 (by omega)
      simp only [trC] at t0 t1 t2 t3
      have hcall := Bx.mk (hrt.out hTo.out htxB.out hp40 (.slice a1 n1 c1) _ _ _ _ wz hDz hzz (hlB.out.mono hfz.size) (fun k hk => hk) (by have := hctB.out; omega) hnz (fun k hk => not_pk hlB.out (by have := (hX1o.out k hk).1; omega)))
      have hmzB := Bx.mk hmz
      clear hrt hDz hTz hzz hmz hnz
      go_wp2_with (first | (go_at_call 51; refine hcall.out.mono ?_; clear hcall; rintro e w5 ⟨rfl, ⟨c5, hc0, hc1, hD5⟩, hz5, hf5⟩))
      go_ret
      exact ⟨rfl, ⟨_, _, _, _, hD5, by show L.length ≤ 25; have := hT24.out; omega, h41.out, by omega, fun k hk => .inr (by have h1 := (hX1o.out k hk).1; omega)⟩, hz5, hmzB.out.fr hf5 hids.out.fbPk, Fr.usd (hfz.trans (Fr.pk hf5))⟩
  · have de : (err != 0) = true := by simpa using he
    clear he
    go_wp2_with fail
    go_ret
    exact ⟨rfl, ⟨_, _, _, _, hD4.out.mono (fun k hk => by have := hs14.out; have := hk.1; omega), h25.out, h41.out, by omega, fun k hk => .inl hk⟩, hz4.out, hm4.out, Fr.usd hfr4.out⟩
end Go.Proofs.Qxb6500329a
