import Derived.Test.Qxb6500329aL6
import Derived.Test.Qxb6500329aQ3
namespace Go.Proofs.Qxb6500329a
set_option linter.unusedVariables false
set_option linter.unusedSimpArgs false
open Go.RowKit Go.PlainAid
section
variable {L : List Nd}
theorem lk_count {f : Nat} {rg : Bool} : ∀ (k i lo : Nat), Lk (Sp L f) L rg k i lo → k ≤ i
  | 0, _, _, h => h.elim
  | k + 1, i, lo, h => by
    obtain ⟨a1, a2, m, h3, h4⟩ := h
    have hle := Sp.le _ _ _ _ h3
    rcases h4 with ⟨e, _⟩ | ⟨_, hm, _, d⟩
    · omega
    · have := lk_count k _ _ d; omega
theorem lk_num {f : Nat} {rg : Bool} (hS : ∀ i lo a, Sp L f i lo a → ∀ j, lo ≤ j → j ≤ i → (nd L j).n ≤ 999999999) : ∀ (k i lo : Nat), Lk (Sp L f) L rg k i lo → ∀ j, lo ≤ j → j ≤ i → (nd L j).n ≤ 999999999
  | 0, _, _, h => h.elim
  | k + 1, i, lo, h => by
    obtain ⟨a1, a2, m, h3, h4⟩ := h
    intro j h1 h2
    by_cases e : j = i
    · subst e
      rcases h4 with ⟨_, e, _⟩ | ⟨_, hm, e, _⟩ <;> (rw [e]; show (0 : Int) ≤ _; decide)
    · by_cases c : m ≤ j
      · exact hS _ _ _ h3 j c (by omega)
      · rcases h4 with ⟨_, _, rfl⟩ | ⟨_, hm, _, d⟩
        · omega
        · exact lk_num hS k _ _ d j h1 (by omega)
theorem sp_num (hL : L.length ≤ 100) : ∀ (f i lo : Nat) (a : Bool), Sp L f i lo a → ∀ j, lo ≤ j → j ≤ i → (nd L j).n ≤ 999999999
  | 0, _, _, _, h => h.elim
  | f + 1, i, lo, a, h => by
    obtain ⟨h0, h⟩ := h
    intro j h1 h2
    rcases h with ⟨e, hl⟩ | ⟨a1, a2, a3⟩ | ⟨op, m, a1, a2, a3, a4, a5, a6, a7⟩ | ⟨op, k, a1, a2, a3, a4⟩
    · rw [show j = i from by omega]
      rcases hl with ⟨v, e, _, h⟩ | e | e | ⟨r, e, _⟩ | e | ⟨_, r, s, e, _⟩ <;> rw [e]
      · exact h
      all_goals (first | (show (0 : Int) ≤ _; decide) | (show (1 : Int) ≤ _; decide))
    · by_cases e : j = i
      · subst e; rw [a2]; show (0 : Int) ≤ _; decide
      · exact sp_num hL f _ _ _ a3 j h1 (by omega)
    · have hle6 := Sp.le _ _ _ _ a6
      by_cases e : j = i
      · subst e; rw [a5]; show (0 : Int) ≤ _; decide
      · by_cases c : m ≤ j
        · exact sp_num hL f _ _ _ a6 j c (by omega)
        · exact sp_num hL f _ _ _ a7 j h1 (by omega)
    · by_cases e : j = i
      · subst e
        have hc := lk_count _ _ _ a4
        rw [a2]
        show k ≤ 999999999
        omega
      · exact lk_num (sp_num hL f) _ _ _ a4 j h1 (by omega)
end
theorem TreeOK.numOK {t : Tr} (h : TreeOK t) : NumOK t.nodes := by
  have hm := h.max
  have h1 := h.one
  intro x hx
  obtain ⟨j, hj, e⟩ := List.getElem_of_mem hx
  have := sp_num (L := t.nodes) (by omega) _ _ _ _ h.sp j (Nat.zero_le _) (by omega)
  unfold nd at this
  rw [List.getElem?_eq_getElem hj] at this
  have e2 : (some t.nodes[j]).getD nBad = x := e
  rw [e2] at this
  omega
theorem parse_num (b : Nat → Int) (n : Nat) : NumOK (parseM b n).nodes := by
  rcases parse_law b n with ⟨_, h, _⟩ | ⟨_, h, _⟩
  · exact h.numOK
  · rw [h]; intro x hx; cases hx
theorem run_nil_eq (u : World) : (binOp .eql 31 (.slice none 0 0) (.slice none 0 0)).run Try.prog u = .ok (.bool true) u := run_eql_nil_slice u 31 44 none 0 0 0 0 Try.underlying31
theorem guard_nil_eq (a b : Operand) (u : World) : (eqGuard .eql 31 a b (.slice none 0 0) (.slice none 0 0)).run Try.prog u = .ok () u := by go_simp
set_option maxRecDepth 100000 in
set_option maxHeartbeats 2000000 in
theorem lawful_any (s : ByteArray) (H : Nat) (v : Value) (w : World) (h : XL w H v (parseM (bt s) s.size).nodes) :
    Calls Try.prog 50 #[treeV v (parseM (bt s) s.size), I s.size] w fun e w' => e = .returned (.bool true) ∧ Fr S0 w w' := by
  have hl := parse_len (bt s) s.size
  have hNO := parse_num (bt s) s.size
  rcases parse_law (bt s) s.size with ⟨he, hT, -⟩ | ⟨he, hn, hr, hp0, hp1⟩
  · have htk := treeOK_any v (parseM (bt s) s.size) (w.alloc (.cells #[v, I (parseM (bt s) s.size).root, I (parseM (bt s) s.size).err, I (parseM (bt s) s.size).pos] 34)) ((h.nl (by omega)).fr0 ((Fr.refl _ _).alloc _)) hNO
    rw [(tokB_iff _).2 hT] at htk
    obtain ⟨a, n, c, rfl⟩ := h.slice
    clear h hT hNO hl
    generalize parseM (bt s) s.size = T at *
    obtain ⟨L, root, err, pos⟩ := T
    simp only at *
    have d : (err == 0) = true := by simpa using he
    have hB := Bx.mk htk
    clear he htk
    go_enter Try.func50, Try.ntmps50
    go_wp2_with (first | (go_at_call 31; refine hB.out.mono ?_; clear hB; rintro e w1 ⟨rfl, hf1⟩))
    go_ret
    exact ⟨rfl, ((Fr.refl _ _).alloc _).trans hf1⟩
  · rcases h with ⟨_, rfl⟩ | ⟨h0, _⟩
    · clear hn hNO hl
      generalize parseM (bt s) s.size = T at *
      obtain ⟨L, root, err, pos⟩ := T
      simp only at *
      have d : (err == 0) = false := by simpa using he
      have d1 : (root == -1) = true := by simpa using hr
      have d2 : decide (0 ≤ pos) = true := decide_eq_true hp0
      have d3 : decide (pos ≤ (s.size : Int)) = true := decide_eq_true hp1
      clear he hr hp0 hp1
      have hrun := run_nil_eq
      have hgd := guard_nil_eq
      go_enter Try.func50, Try.ntmps50
      go_wp2
      go_ret
      exact ⟨rfl, (Fr.refl _ _).alloc _⟩
    · exact absurd hn h0
abbrev AgainP (w : World) (B : FB) (fb d K S : Nat) (s : ByteArray) (v : Value) (t : Tr) (c0 c1 : Nat) : Ending → World → Prop := fun e w' => e = .returned (.bool true) ∧ (∃ ct, c0 ≤ ct ∧ ct ≤ c1 ∧ DS w' B fb d K S (fun k => k < w'.heap.size) s v t ct) ∧ FZ w' B ∧ Fr (Pk B d K S) w w'
set_option maxRecDepth 100000 in
set_option maxHeartbeats 2000000 in
theorem again_any (B : FB) (fb d K S : Nat) (Z : Nat → Prop) (s : ByteArray) (v : Value) (t : Tr) (ct : Nat) (p : ByteArray) (uv : Value) (u : Tr) (w : World) (h : DS w B fb d K S Z s v t ct) (hz : FZ w B) (hlow : Low B fb d K S w.heap.size) (hZ : ∀ k, Z k → k < w.heap.size) (hct : ct < 2 ^ 60)
    (hu : NL w uv u.nodes) (huv : ∀ k, uv.ownBlock = some k → ¬ Pk B d K S k) (hp : parseM (bt p) p.size = u) :
    Calls Try.prog 55 #[pt B.f, pt d, .string p, treeV uv u] w (AgainP w B fb d K S s v t (ct + 1) (ct + 1)) := by
  have hl : u.nodes.length ≤ 24 := by rw [← hp]; exact parse_len _ _
  have hpa := parsed_any B fb d K S Z s v t ct p (w.alloc (.cells #[uv, I u.root, I u.err, I u.pos] 34)) (h.fr0 ((Fr.refl _ _).alloc _)) (hz.fr0 ((Fr.refl _ _).alloc _)) (hlow.mono (by simp)) (fun k hk => by have := hZ k hk; simp; omega) hct
  rw [hp] at hpa
  obtain ⟨a, c, rfl⟩ := hu.slice
  have hT0 := tr_new w (.slice a u.nodes.length c) u.root u.err u.pos rfl
  have hu0 := Bx.mk (hu.fr0 ((Fr.refl _ _).alloc (.cells #[.slice a u.nodes.length c, I u.root, I u.err, I u.pos] 34)))
  have hsm := Bx.mk (fun a b wx (h1 : NL wx a u.nodes) (h2 : NL wx b u.nodes) => same_tree a b u wx h1 h2 (by omega))
  have hXN := Bx.mk (fun wx H cv (hx : XL wx H cv u.nodes) => hx.nl (by omega))
  have hwu : Bx (¬ Pk B d K S w.heap.size) := Bx.mk (by
    rintro (e | e | e | e)
    · have := hlow.B _ e; omega
    · have := hlow.d; omega
    · have := hlow.K; omega
    · have := hlow.S; omega)
  have hpB := Bx.mk hpa
  have hTB := Bx.mk hT0
  have huvB := Bx.mk huv
  clear hu h hz hpa hT0 huv hZ hct hl hlow hp
  obtain ⟨L, root, err, pos⟩ := u
  simp only at *
  generalize L.length = n at *
  go_enter Try.func55, Try.ntmps55
  go_wp2_with (first
    | (go_at_call 48; refine hpB.out.mono ?_; clear hpB; rintro e w1 ⟨v1, rfl, hX1, hD1, hz1, hf1⟩; obtain ⟨a1, n1, c1, rfl⟩ := hX1.slice; have hX1B := Bx.mk hX1; have hD1B := Bx.mk hD1; have hz1B := Bx.mk hz1; have hu1 := Bx.mk (hu0.out.fr hf1 huvB.out); have hT1 := Bx.mk (hf1.row hTB.out hwu.out); have t0 := hT1.out.cell 0 (by omega); have t1 := hT1.out.cell 1 (by omega); have t2 := hT1.out.cell 2 (by omega); have t3 := hT1.out.cell 3 (by omega); simp only [trC] at t0 t1 t2 t3; have hltw : w.heap.size < w1.heap.size := (by have hq := hf1.size; simp at hq; omega); clear hX1 hD1 hz1)
    | (go_at_call 49; refine (hsm.out _ _ _ ((hXN.out _ _ _ hX1B.out).fr0 ((Fr.refl _ _).alloc _)) (hu1.out.fr0 ((Fr.refl _ _).alloc _))).mono ?_; clear hsm; rintro e w2 ⟨rfl, hf2⟩))
  go_ret
  have hfx : Fr S0 w1 w2 := ((Fr.refl _ _).alloc _).trans hf2
  refine ⟨rfl, ⟨_, Nat.le_refl _, Nat.le_refl _, (hD1B.out.fr0 hfx).mono (fun k hk => by have := hk.1; have := hfx.size; omega)⟩, hz1B.out.fr0 hfx, (((Fr.refl _ _).alloc _).trans hf1).step hfx (fun x hx => hx.elim)⟩
end Go.Proofs.Qxb6500329a
