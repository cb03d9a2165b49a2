import Derived.Test.Qxb6500329aL4
import Derived.Test.Qxb6500329aX22
import Derived.Deep.CutRange
namespace Go.Proofs.Qxb6500329a
set_option linter.unusedVariables false
set_option linter.unusedSimpArgs false
open Go.RowKit Go.PlainAid
/-- What the real side and the desk may touch. -/
abbrev Pk (B : FB) (d K S : Nat) : Nat → Prop := fun k => FmS B k ∨ k = d ∨ k = K ∨ k = S
theorem XL.grid {w : World} {H : Nat} {v : Value} {L : List Nd} (h : XL w H v L) : (L = [] ∧ v = .slice none 0 0) ∨ (L ≠ [] ∧ ∃ g, H ≤ g ∧ v = sl g L.length L.length ∧ ∃ c, Grid w g L.length 13 c) := by
  rcases h with h | ⟨h0, g, hb, e, hg⟩
  · exact .inl h
  · refine .inr ⟨h0, g, hb, e, fun i k => ((nds L)[i * 13 + k]?).getD undef, (nds L).toArray, 44, hg, ?_, ?_⟩
    · simp [nds_len]
    · intro j hj
      have hlt : j < (nds L).length := by rw [nds_len]; exact hj
      have e2 : j / 13 * 13 + j % 13 = j := by omega
      show (nds L).toArray[j]? = some (((nds L)[j / 13 * 13 + j % 13]?).getD undef)
      rw [e2, List.getElem?_toArray, List.getElem?_eq_getElem hlt]
      rfl
theorem XL.fr0 {w w' : World} {H : Nat} {v : Value} {L : List Nd} (h : XL w H v L) (f : Fr S0 w w') : XL w' H v L := by
  rcases h with h | ⟨h0, g, hb, e, hg⟩
  · exact .inl h
  · exact .inr ⟨h0, g, hb, e, by rw [f.block g (Array.getElem?_eq_some_iff.1 hg).1 (fun c => c)]; exact hg⟩
theorem XL.fr {w w' : World} {H : Nat} {v : Value} {L : List Nd} (h : XL w H v L) {T : Nat → Prop} (f : Fr T w w') (hT : ∀ k, v.ownBlock = some k → ¬ T k) : XL w' H v L := by
  rcases h with h | ⟨h0, g, hb, e, hg⟩
  · exact .inl h
  · exact .inr ⟨h0, g, hb, e, by rw [f.block g (Array.getElem?_eq_some_iff.1 hg).1 (hT g (by rw [e]; rfl))]; exact hg⟩
theorem XL.low {w : World} {H H' : Nat} {v : Value} {L : List Nd} (h : XL w H v L) (hH : H' ≤ H) : XL w H' v L := by
  rcases h with h | ⟨h0, g, hb, e, hg⟩
  · exact .inl h
  · exact .inr ⟨h0, g, by omega, e, hg⟩
theorem XL.own {w : World} {H : Nat} {v : Value} {L : List Nd} (h : XL w H v L) : ∀ k, v.ownBlock = some k → H ≤ k ∧ k < w.heap.size := by
  intro k hk
  rcases h with ⟨_, e⟩ | ⟨h0, g, hb, e, hg⟩
  · rw [e] at hk; cases hk
  · rw [e] at hk
    have : g = k := Option.some.inj hk
    rw [← this]
    exact ⟨hb, (Array.getElem?_eq_some_iff.1 hg).1⟩
/-- A tree of at most 24 nodes. -/
theorem parse_len (b : Nat → Int) (n : Nat) : (parseM b n).nodes.length ≤ 24 := by
  rcases parse_law b n with ⟨_, h, _⟩ | ⟨_, h, _⟩
  · exact h.max
  · rw [h]; simp
theorem keep_any (B : FB) (fb d K S : Nat) (Z : Nat → Prop) (s : ByteArray) (v : Value) (t : Tr) (ct : Nat) (lv : Value) (L : List Nd) (H1 : Nat) (w : World) (h : DS w B fb d K S Z s v t ct) (hct : ct < 2 ^ 60) (hX : XL w H1 lv L) (hZ : ∀ k, lv.ownBlock = some k → ¬ Used B fb d K S k ∧ ¬ Z k) (hl : L.length ≤ 100) :
    Calls Try.prog 63 #[pt d, lv] w fun e w' => e = .returned (.tuple #[]) ∧ DS w' B fb d K S (fun k => Z k ∨ lv.ownBlock = some k) s v t (ct + 1) ∧ Fr (fun k => Dk3 d K S k ∨ lv.ownBlock = some k) w w' := by
  rcases hX.grid with ⟨_, rfl⟩ | ⟨h0, g, hb, rfl, c, hG⟩
  · refine (keep_nil B fb d K S Z s v t ct w h hct).mono ?_
    rintro e w' ⟨rfl, h1, h2⟩
    exact ⟨rfl, h1.mono (fun k hk => .inl hk), h2.mono (fun k hk => .inl hk)⟩
  · refine (keep_some B fb d K S Z s v t ct g L.length c w h hct (hZ g rfl).1 (hZ g rfl).2 hl hG).mono ?_
    rintro e w' ⟨rfl, h1, h2⟩
    exact ⟨rfl, h1.mono (fun k hk => by rcases hk with e | e; exact .inl e; exact .inr (by rw [e]; rfl)), h2.mono (fun k hk => by rcases hk with e | e; exact .inl e; exact .inr (by rw [e]; rfl))⟩
/-- All below the heap's end but the block of v'. -/
abbrev Zn (w : World) (v' : Value) : Nat → Prop := fun k => k < w.heap.size ∧ v'.ownBlock ≠ some k
abbrev ParsedP (w : World) (B : FB) (fb d K S : Nat) (s : ByteArray) (v : Value) (t : Tr) (ct : Nat) (T : Tr) : Ending → World → Prop := fun e w' => ∃ v', e = .returned (.tuple #[treeV v' T, .bool true]) ∧ XL w' w.heap.size v' T.nodes ∧ DS w' B fb d K S (Zn w' v') s v t (ct + 1) ∧ FZ w' B ∧ Fr (Pk B d K S) w w'
theorem XL.cap {w : World} {H : Nat} {v : Value} {L : List Nd} (h : XL w H v L) : ∃ a, v = .slice a L.length L.length ∧ (L.length = 0 → a = none) ∧ (a = none → L.length = 0) := by
  rcases h with ⟨rfl, rfl⟩ | ⟨h0, g, hb, rfl, hg⟩
  · exact ⟨none, rfl, fun _ => rfl, fun _ => rfl⟩
  · exact ⟨some ⟨g, 0, none⟩, rfl, fun e => by (cases L; exact absurd rfl h0; simp at e), fun e => by cases e⟩
theorem results_cell_slot {P : Program} {fn : Func} {p q : Tmp} {ty : TypeId} (h : fn.results = #[.cell p ty, .tmp q]) (tmps : Array Value) (w : World) (g : Nat) (t : TypeId) (cs : Array Value) (fr : Nat × Nat) (d : TypeDesc)
    (hp : tmps.getD p undef = .pointer (some ⟨g, 0, none⟩)) (hg : w.heap[g]? = some (.cells cs t fr))
    (hu : P.underlying ty = some d) (hd : (match d with | .struct _ | .array _ _ => true | _ => false) = true) (hi : (P.info? ty).map (·.size) = some cs.size) :
    (results fn tmps).run P w = .ok (.tuple #[.agg cs, tmps.getD q undef]) w := by
  have hp' : tmps[p]?.getD undef = .pointer (some ⟨g, 0, none⟩) := by simpa using hp
  simp [results, h, hp', asAddr, run_loadVar_row w g t ty cs fr d hg hu hd hi]
theorem ret_tree_b {fn : Func} {R : Ending → World → Prop} {a : Act} {w : World} {p q : Tmp} {g : Nat} {v u : Value} {x y z : Int} (hr : fn.results = #[.cell p 34, .tmp q]) (hp : a.tmps.getD p undef = pt g) (hq : a.tmps.getD q undef = u) (hrow : Row w g 4 (trC v x y z)) (hd : a.defers = [])
    (hR : R (.returned (.tuple #[.agg #[v, I x, I y, I z], u])) w) : bodyPost Try.prog fn R .ret a w := by
  obtain ⟨T, hh⟩ := row4_heap hrow
  refine bodyPost_ret (results_cell_slot hr a.tmps w g T _ (0, 0) _ hp hh Try.underlying34 rfl (by rw [Try.size34]; rfl)) hd ?_
  rw [hq]
  exact hR
set_option maxRecDepth 100000 in
set_option maxHeartbeats 4000000 in
theorem parsed_any (B : FB) (fb d K S : Nat) (Z : Nat → Prop) (s : ByteArray) (v : Value) (t : Tr) (ct : Nat) (p : ByteArray) (w : World) (h : DS w B fb d K S Z s v t ct) (hz : FZ w B) (hlow : Low B fb d K S w.heap.size) (hZ : ∀ k, Z k → k < w.heap.size) (hct : ct < 2 ^ 60) :
    Calls Try.prog 48 #[pt B.f, pt d, .string p] w (ParsedP w B fb d K S s v t ct (parseM (bt p) p.size)) := by
  have hT24 := parse_len (bt p) p.size
  have hpx := Bx.mk (parseX B p (w.alloc (.cells #[.slice none 0 0, I 0, I 0, I 0] 34)) (hz.fr0 ((Fr.refl _ _).alloc _)))
  generalize parseM (bt p) p.size = T at *
  obtain ⟨L, root, err, pos⟩ := T
  simp only at *
  have hB := Bx.mk h
  have hids := Bx.mk h.ids
  have hT0 := Bx.mk (tr_new w (.slice none 0 0) 0 0 0 rfl)
  have hnb : Bx (¬ FmS B w.heap.size) := Bx.mk (fun e => by have := hlow.B _ e; omega)
  have hlB := Bx.mk hlow
  have hZB := Bx.mk hZ
  have hctB := Bx.mk hct
  clear hz h hZ hct
  go_enter Try.func48, Try.ntmps48
  go_upto_region 2 with (first
    | (go_at_call 61; refine hpx.out.mono ?_; clear hpx; rintro e w1 ⟨v1, rfl, hX1, hz1, hf1⟩; obtain ⟨a1, rfl, ha1, ha2⟩ := hX1.cap; have hX1B := Bx.mk hX1; have hz1B := Bx.mk hz1; clear hX1 hz1))
  have hsz1 : w.heap.size + 1 ≤ w1.heap.size := by have := hf1.size; simpa using this
  have hT1 := Bx.mk (hf1.row hT0.out hnb.out)
  have hD1 : Bx (DS w1 B fb d K S Z s v t ct) := Bx.mk ((hB.out.fr0 ((Fr.refl _ _).alloc _)).fr hf1 (fun k hk => .inl hk))
  have hfr1 : Bx (Fr (FmS B) w w1) := Bx.mk (((Fr.refl _ _).alloc _).trans hf1)
  have hXw : Bx (XL w1 (w.heap.size + 1) (.slice a1 L.length L.length) L) := Bx.mk (by have := hX1B.out; simpa using this)
  obtain ⟨h1, hh1⟩ : ∃ h1, w1.heap.size = h1 := ⟨_, rfl⟩
  have hXlt : Bx (∀ k, Value.ownBlock (.slice a1 L.length L.length) = some k → w.heap.size + 1 ≤ k ∧ k < h1) := Bx.mk (fun k hk => by rw [← hh1]; exact hXw.out.own k hk)
  refine world_cut (fun wz => Row wz w.heap.size 4 (trC (.slice none 0 0) 0 0 0) ∧ Row wz h1 4 (trC (.slice a1 L.length L.length) root err pos) ∧ DS wz B fb d K S Z s v t ct ∧ XL wz (w.heap.size + 1) (.slice a1 L.length L.length) L ∧ FZ wz B ∧ Fr (FmS B) w wz ∧ h1 + 1 = wz.heap.size) ⟨hT1.out.alloc _, tr_new w1 _ root err pos hh1, hD1.out.fr0 ((Fr.refl _ _).alloc _), hXw.out.fr0 ((Fr.refl _ _).alloc _), hz1B.out.fr0 ((Fr.refl _ _).alloc _), hfr1.out.alloc _, by rw [← hh1]; simp⟩ ?_
  rw [hh1] at hsz1 ⊢
  clear hT1 hD1 hfr1 hz1B hX1B hf1 hT0 hB hXw hh1
  rintro wz ⟨hRz, hTz, hDz, hXz, hZz, hFz, hsz⟩
  have hsB := Bx.mk hsz
  have hlt1 : w.heap.size < h1 := by omega
  have hst := Bx.mk (fun wx (f : Fr S0 wz wx) => still_any B fb d K S Z s v t ct wx (hDz.fr0 f))
  have hcp := Bx.mk (fun wx (f : Fr S0 wz wx) => copy_any (.slice a1 L.length L.length) L wx ((hXz.nl (by omega)).fr0 f) (by omega))
  have hkp := Bx.mk (fun wx (f : Fr S0 wz wx) => keep_any B fb d K S Z s v t ct (.slice a1 L.length L.length) L (w.heap.size + 1) wx (hDz.fr0 f) hctB.out (hXz.fr0 f) (fun k hk => ⟨hlB.out.not (by have := (hXlt.out k hk).1; omega), fun c => by have := hZB.out k c; have := (hXlt.out k hk).1; omega⟩) (by omega))
  have hTB := Bx.mk hTz
  have hRB := Bx.mk hRz
  have hZzB := Bx.mk hZz
  have hFzB := Bx.mk hFz
  have hnk : Bx (∀ k, (Dk3 d K S k ∨ Value.ownBlock (.slice a1 L.length L.length) = some k) → k ≠ w.heap.size ∧ k ≠ h1) := Bx.mk (by
    rintro k (hk | hk)
    · have : k < w.heap.size := by rcases hk with e | e | e; rw [e]; exact hlB.out.d; rw [e]; exact hlB.out.K; rw [e]; exact hlB.out.S
      omega
    · have := hXlt.out k hk
      omega)
  clear hTz hRz hDz hXz hZz hsz hFz
  have t0 := hTB.out.cell 0 (by omega)
  have t1 := hTB.out.cell 1 (by omega)
  have t2 := hTB.out.cell 2 (by omega)
  have t3 := hTB.out.cell 3 (by omega)
  simp only [trC] at t0 t1 t2 t3
  have hLL := Bx.mk (show L.length ≤ 24 from hT24)
  have hcc : ((L.length : Int) != (L.length : Int)) = false := by simp
  have hne1 : w.heap.size ≠ h1 := by omega
  have hslow : Bx (∀ k, Dk3 d K S k → k < w.heap.size) := Bx.mk (fun k hk => by rcases hk with e | e | e; rw [e]; exact hlB.out.d; rw [e]; exact hlB.out.K; rw [e]; exact hlB.out.S)
  generalize hLn : L.length = n at *
  have hLnB := Bx.mk hLn
  clear hLn hT24
  cases a1 with
  | none =>
    have hl0 := ha2 rfl
    have hlb : ((n : Int) == 0) = true := by rw [hl0]; rfl
    have hlb2 : (n == 0) = true := by rw [hl0]; rfl
    clear ha1 ha2 hl0
    go_upto_region 8 with (first
      | (go_at_call 62; refine (hst.out _ (Fr.refl _ _)).mono ?_; clear hst; rintro e w2 ⟨rfl, hf2⟩; have hT2 := Bx.mk (hf2.row0 hTB.out); clear t0 t1 t2 t3; have t0 := hT2.out.cell 0 (by omega); simp only [trC] at t0)
      | (go_at_call 22; refine (hcp.out _ hf2).mono ?_; clear hcp; rintro e w3 ⟨v3, rfl, hX3, hf3⟩; have hT3 := Bx.mk (hf3.row0 hT2.out); clear t0; have t0 := hT3.out.cell 0 (by omega); simp only [trC] at t0; have hX3 := Bx.mk hX3)
      | (go_at_call 63; refine (hkp.out _ (hf2.trans hf3)).mono ?_; clear hkp; rintro e w4 ⟨rfl, hD4, hf4⟩; have hT4 := Bx.mk (hf4.row hT3.out (fun c => (hnk.out _ c).2 rfl)); clear t0; have hR4 := Bx.mk (hf4.row (hf3.row0 (hf2.row0 hRB.out)) (fun c => (hnk.out _ c).1 rfl)); have hD4 := Bx.mk hD4))
    have s2 := hf2.size
    have s3 := hf3.size
    have s4 := hf4.size
    have hsz := hsB.out
    have hX4 : XL w4 w2.heap.size v3 L := hX3.out.fr hf4 (fun k hk c => by
      have h3 := hX3.out.own k hk
      rcases c with c | c
      · have := hslow.out k c; omega
      · have := hXlt.out k c; omega)
    have hw4 : Fr (Pk B d K S) w w4 := (((hFzB.out.mono (fun k hk => Or.inl hk)).step hf2 (fun x hx => hx.elim)).step hf3 (fun x hx => hx.elim)).step hf4 (fun x hx => by
      rcases hx with c | c
      · exact .inl (.inr c)
      · exact .inr (by have := hXlt.out x c; omega))
    have hz4 : FZ w4 B := ((hZzB.out.fr0 hf2).fr0 hf3).fr hf4 (fun k hk c => by
      have hkH := hlB.out.B k hk
      rcases c with c | c
      · rcases c with e | e | e
        · exact hids.out.dB (by rw [← e]; exact hk)
        · exact hids.out.KB (by rw [← e]; exact hk)
        · exact hids.out.SB (by rw [← e]; exact hk)
      · have := hXlt.out k c; omega)
    have t0 := hT4.out.cell 0 (by omega)
    have t1 := hT4.out.cell 1 (by omega)
    have t2 := hT4.out.cell 2 (by omega)
    have t3 := hT4.out.cell 3 (by omega)
    have z0 := hT4.out.frozen 0
    have r0 := hR4.out.cell 0 (by omega)
    have r1 := hR4.out.cell 1 (by omega)
    have r2 := hR4.out.cell 2 (by omega)
    have r3 := hR4.out.cell 3 (by omega)
    have y0 := hR4.out.frozen 0
    have y1 := hR4.out.frozen 1
    have y2 := hR4.out.frozen 2
    have y3 := hR4.out.frozen 3
    simp only [trC] at t0 t1 t2 t3 r0 r1 r2 r3
    have hz4B := Bx.mk hz4
    have hw4B := Bx.mk hw4
    have hX4B := Bx.mk hX4
    clear hX3 hX4 hz4 hw4 hFzB hsz hnk hTB hRB hZzB
    obtain ⟨b3, n3, c3, rfl⟩ := hX4B.out.slice
    go_wp2_with fail
    refine ret_tree_b (p := 6) (q := 7) (g := w.heap.size) rfl rfl rfl (row4_set (hR4.out.set_other (p := ⟨h1, 0, none⟩) hne1 _) (.slice b3 n3 c3) root err pos) rfl ?_
    have hf5 := fr4 (w4.setCell ⟨h1, 0, none⟩ (.slice b3 n3 c3)) w.heap.size (.slice b3 n3 c3) (I root) (I err) (I pos)
    have hf6 : Fr (fun k => k = h1 ∨ k = w.heap.size) w4 (((((w4.setCell ⟨h1, 0, none⟩ (.slice b3 n3 c3)).setCell ⟨w.heap.size, 0, none⟩ (.slice b3 n3 c3)).setCell ⟨w.heap.size, 1, none⟩ (I root)).setCell ⟨w.heap.size, 2, none⟩ (I err)).setCell ⟨w.heap.size, 3, none⟩ (I pos)) := ((Fr.refl (fun k => k = h1 ∨ k = w.heap.size) w4).setCell (p := ⟨h1, 0, none⟩) (.inl (.inl rfl)) _).step hf5 (fun x hx => .inl (.inr hx))
    generalize ((((w4.setCell ⟨h1, 0, none⟩ (.slice b3 n3 c3)).setCell ⟨w.heap.size, 0, none⟩ (.slice b3 n3 c3)).setCell ⟨w.heap.size, 1, none⟩ (I root)).setCell ⟨w.heap.size, 2, none⟩ (I err)).setCell ⟨w.heap.size, 3, none⟩ (I pos) = w5 at hf6 ⊢
    have hsz := hsB.out
    have hbl : ∀ k, (k = h1 ∨ k = w.heap.size) → w.heap.size ≤ k ∧ k < w2.heap.size := by rintro k (e | e) <;> omega
    have s6 := hf6.size
    have hX5 : XL w5 w2.heap.size (.slice b3 n3 c3) L := hX4B.out.fr hf6 (fun k hk c => by have := (hX4B.out.own k hk).1; have := hbl k c; omega)
    refine ⟨_, rfl, hX5.low (by omega), (hD4.out.fr hf6 ?_).mono ?_, hz4B.out.fr hf6 (fun k hk c => by have := hlB.out.B k hk; have := hbl k c; omega), hw4B.out.step hf6 (fun x hx => .inr (hbl x hx).1)⟩
    · intro k hk
      have hkb := hbl k hk
      refine .inr (.inr ⟨?_, ?_, ?_, ?_⟩)
      · rintro (c | c)
        · have := hZB.out k c; omega
        · have hx := hXlt.out k c
          rcases hk with e | e <;> omega
      · intro e; have := hlB.out.d; omega
      · intro e; have := hlB.out.K; omega
      · intro e; have := hlB.out.S; omega
    · rintro k (c | c)
      · have := hZB.out k c
        exact ⟨by omega, fun e => by have := (hX5.own k e).1; omega⟩
      · have := hXlt.out k c
        exact ⟨by omega, fun e => by have := (hX5.own k e).1; omega⟩
  | some ad =>
    have hl0 : n ≠ 0 := fun e => by cases ha1 e
    have hlb : ((n : Int) == 0) = false := by simp; omega
    have hlb2 : (n == 0) = false := by simp; omega
    clear ha1 ha2
    go_upto_region 8 with (first
      | (go_at_call 62; refine (hst.out _ (Fr.refl _ _)).mono ?_; clear hst; rintro e w2 ⟨rfl, hf2⟩; have hT2 := Bx.mk (hf2.row0 hTB.out); clear t0 t1 t2 t3; have t0 := hT2.out.cell 0 (by omega); simp only [trC] at t0)
      | (go_at_call 22; refine (hcp.out _ hf2).mono ?_; clear hcp; rintro e w3 ⟨v3, rfl, hX3, hf3⟩; have hT3 := Bx.mk (hf3.row0 hT2.out); clear t0; have t0 := hT3.out.cell 0 (by omega); simp only [trC] at t0; have hX3 := Bx.mk hX3)
      | (go_at_call 63; refine (hkp.out _ (hf2.trans hf3)).mono ?_; clear hkp; rintro e w4 ⟨rfl, hD4, hf4⟩; have hT4 := Bx.mk (hf4.row hT3.out (fun c => (hnk.out _ c).2 rfl)); clear t0; have hR4 := Bx.mk (hf4.row (hf3.row0 (hf2.row0 hRB.out)) (fun c => (hnk.out _ c).1 rfl)); have hD4 := Bx.mk hD4))
    have s2 := hf2.size
    have s3 := hf3.size
    have s4 := hf4.size
    have hsz := hsB.out
    have hX4 : XL w4 w2.heap.size v3 L := hX3.out.fr hf4 (fun k hk c => by
      have h3 := hX3.out.own k hk
      rcases c with c | c
      · have := hslow.out k c; omega
      · have := hXlt.out k c; omega)
    have hw4 : Fr (Pk B d K S) w w4 := (((hFzB.out.mono (fun k hk => Or.inl hk)).step hf2 (fun x hx => hx.elim)).step hf3 (fun x hx => hx.elim)).step hf4 (fun x hx => by
      rcases hx with c | c
      · exact .inl (.inr c)
      · exact .inr (by have := hXlt.out x c; omega))
    have hz4 : FZ w4 B := ((hZzB.out.fr0 hf2).fr0 hf3).fr hf4 (fun k hk c => by
      have hkH := hlB.out.B k hk
      rcases c with c | c
      · rcases c with e | e | e
        · exact hids.out.dB (by rw [← e]; exact hk)
        · exact hids.out.KB (by rw [← e]; exact hk)
        · exact hids.out.SB (by rw [← e]; exact hk)
      · have := hXlt.out k c; omega)
    have t0 := hT4.out.cell 0 (by omega)
    have t1 := hT4.out.cell 1 (by omega)
    have t2 := hT4.out.cell 2 (by omega)
    have t3 := hT4.out.cell 3 (by omega)
    have z0 := hT4.out.frozen 0
    have r0 := hR4.out.cell 0 (by omega)
    have r1 := hR4.out.cell 1 (by omega)
    have r2 := hR4.out.cell 2 (by omega)
    have r3 := hR4.out.cell 3 (by omega)
    have y0 := hR4.out.frozen 0
    have y1 := hR4.out.frozen 1
    have y2 := hR4.out.frozen 2
    have y3 := hR4.out.frozen 3
    simp only [trC] at t0 t1 t2 t3 r0 r1 r2 r3
    have hz4B := Bx.mk hz4
    have hw4B := Bx.mk hw4
    have hX4B := Bx.mk hX4
    clear hX3 hX4 hz4 hw4 hFzB hsz hnk hTB hRB hZzB
    obtain ⟨b3, n3, c3, rfl⟩ := hX4B.out.slice
    go_wp2_with fail
    refine ret_tree_b (p := 6) (q := 7) (g := w.heap.size) rfl rfl rfl (row4_set (hR4.out.set_other (p := ⟨h1, 0, none⟩) hne1 _) (.slice b3 n3 c3) root err pos) rfl ?_
    have hf5 := fr4 (w4.setCell ⟨h1, 0, none⟩ (.slice b3 n3 c3)) w.heap.size (.slice b3 n3 c3) (I root) (I err) (I pos)
    have hf6 : Fr (fun k => k = h1 ∨ k = w.heap.size) w4 (((((w4.setCell ⟨h1, 0, none⟩ (.slice b3 n3 c3)).setCell ⟨w.heap.size, 0, none⟩ (.slice b3 n3 c3)).setCell ⟨w.heap.size, 1, none⟩ (I root)).setCell ⟨w.heap.size, 2, none⟩ (I err)).setCell ⟨w.heap.size, 3, none⟩ (I pos)) := ((Fr.refl (fun k => k = h1 ∨ k = w.heap.size) w4).setCell (p := ⟨h1, 0, none⟩) (.inl (.inl rfl)) _).step hf5 (fun x hx => .inl (.inr hx))
    generalize ((((w4.setCell ⟨h1, 0, none⟩ (.slice b3 n3 c3)).setCell ⟨w.heap.size, 0, none⟩ (.slice b3 n3 c3)).setCell ⟨w.heap.size, 1, none⟩ (I root)).setCell ⟨w.heap.size, 2, none⟩ (I err)).setCell ⟨w.heap.size, 3, none⟩ (I pos) = w5 at hf6 ⊢
    have hsz := hsB.out
    have hbl : ∀ k, (k = h1 ∨ k = w.heap.size) → w.heap.size ≤ k ∧ k < w2.heap.size := by rintro k (e | e) <;> omega
    have s6 := hf6.size
    have hX5 : XL w5 w2.heap.size (.slice b3 n3 c3) L := hX4B.out.fr hf6 (fun k hk c => by have := (hX4B.out.own k hk).1; have := hbl k c; omega)
    refine ⟨_, rfl, hX5.low (by omega), (hD4.out.fr hf6 ?_).mono ?_, hz4B.out.fr hf6 (fun k hk c => by have := hlB.out.B k hk; have := hbl k c; omega), hw4B.out.step hf6 (fun x hx => .inr (hbl x hx).1)⟩
    · intro k hk
      have hkb := hbl k hk
      refine .inr (.inr ⟨?_, ?_, ?_, ?_⟩)
      · rintro (c | c)
        · have := hZB.out k c; omega
        · have hx := hXlt.out k c
          rcases hk with e | e <;> omega
      · intro e; have := hlB.out.d; omega
      · intro e; have := hlB.out.K; omega
      · intro e; have := hlB.out.S; omega
    · rintro k (c | c)
      · have := hZB.out k c
        exact ⟨by omega, fun e => by have := (hX5.own k e).1; omega⟩
      · have := hXlt.out k c
        exact ⟨by omega, fun e => by have := (hX5.own k e).1; omega⟩
end Go.Proofs.Qxb6500329a
