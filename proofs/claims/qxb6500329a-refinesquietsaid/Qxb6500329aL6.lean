import Derived.Test.Qxb6500329aL5
import Derived.Test.Qxb6500329aZ8
import Derived.Deep.CutRange
namespace Go.Proofs.Qxb6500329a
set_option linter.unusedVariables false
set_option linter.unusedSimpArgs false
open Go.RowKit Go.PlainAid
abbrev PrintedP (w : World) (B : FB) (fb d K S : Nat) (s : ByteArray) (v : Value) (t : Tr) (ct : Nat) (u : Tr) : Ending → World → Prop := fun e w' => e = .returned (.tuple #[.string (bs (prT u).1), I (prT u).2, .bool true]) ∧ DS w' B fb d K S (fun k => k < w'.heap.size) s v t (ct + 1) ∧ FZ w' B ∧ Fr (Pk B d K S) w w'
set_option maxRecDepth 100000 in
set_option maxHeartbeats 4000000 in
/-- Printed: of a tree u whose list lies elsewhere than the formers' and the desk's blocks and than the kept lists. -/
theorem printed_any (B : FB) (fb d K S : Nat) (Z : Nat → Prop) (s : ByteArray) (v : Value) (t : Tr) (ct : Nat) (uv : Value) (u : Tr) (w : World) (h : DS w B fb d K S Z s v t ct) (hz : FZ w B) (hlow : Low B fb d K S w.heap.size) (hZ : ∀ k, Z k → k < w.heap.size) (hct : ct < 2 ^ 60)
    (hu : NL w uv u.nodes) (hul : u.nodes.length ≤ 100) (hun : NumOK u.nodes) (huv : ∀ k, uv.ownBlock = some k → ¬ Pk B d K S k) :
    Calls Try.prog 52 #[pt B.f, pt d, treeV uv u] w (PrintedP w B fb d K S s v t ct u) := by
  obtain ⟨a, c, rfl⟩ := hu.slice
  obtain ⟨L, root, err, pos⟩ := u
  simp only at *
  have hids := Bx.mk h.ids
  have hlB := Bx.mk hlow
  have hZB := Bx.mk hZ
  have hctB := Bx.mk hct
  have hD0 := Bx.mk (h.fr0 ((Fr.refl _ _).alloc (.cells #[.slice a L.length c, I root, I err, I pos] 34)))
  have hz0 := Bx.mk (hz.fr0 ((Fr.refl _ _).alloc (.cells #[.slice a L.length c, I root, I err, I pos] 34)))
  have hu0 := Bx.mk (hu.fr0 ((Fr.refl _ _).alloc (.cells #[.slice a L.length c, I root, I err, I pos] 34)))
  have hT0 := Bx.mk (tr_new w (.slice a L.length c) root err pos rfl)
  have hcp := Bx.mk (copy_any (.slice a L.length c) L (w.alloc (.cells #[.slice a L.length c, I root, I err, I pos] 34)) hu0.out hul)
  have hpr := Bx.mk (fun cv wx (h1 : FZ wx B) (h2 : NL wx cv L) (h3 : ∀ k, cv.ownBlock = some k → ¬ FmS B k) => printX B cv ⟨L, root, err, pos⟩ wx h1 h2 hun h3)
  unfold PrintedP
  generalize prT ⟨L, root, err, pos⟩ = Q at *
  obtain ⟨q1, q2⟩ := Q
  simp only at *
  have hst := Bx.mk (fun wx (hx : DS wx B fb d K S Z s v t ct) => still_any B fb d K S Z s v t ct wx hx)
  have hsn := Bx.mk (fun a b wx (h1 : NL wx a L) (h2 : NL wx b L) => same_nodes a b L wx h1 h2 hul)
  have hkp := Bx.mk (fun lv wx (hx : DS wx B fb d K S Z s v t ct) (hX : XL wx (w.heap.size + 1) lv L) => keep_any B fb d K S Z s v t ct lv L (w.heap.size + 1) wx hx hctB.out hX (fun k hk => ⟨hlB.out.not (by have := (hX.own k hk).1; omega), fun e => by have := hZB.out k e; have := (hX.own k hk).1; omega⟩) hul)
  have hwu : Bx (¬ FmS B w.heap.size) := Bx.mk (fun e => by have := hlow.B _ e; omega)
  have huvB := Bx.mk huv
  have hslow : Bx (∀ k, Dk3 d K S k → k < w.heap.size) := Bx.mk (fun k hk => by rcases hk with e | e | e; rw [e]; exact hlB.out.d; rw [e]; exact hlB.out.K; rw [e]; exact hlB.out.S)
  have hXN := Bx.mk (fun wx H cv (hx : XL wx H cv L) => hx.nl hul)
  clear h hz hu hZ hct huv
  generalize L.length = n at *
  go_enter Try.func52, Try.ntmps52
  go_wp2_with (first
    | (go_at_call 22; refine hcp.out.mono ?_; clear hcp; rintro e w1 ⟨cv, rfl, hX1, hf1⟩; have hX1 : XL w1 (w.heap.size + 1) cv L := (by simpa using hX1); have hT1 := Bx.mk (hf1.row0 hT0.out); have t1 := hT1.out.cell 1 (by omega); have t2 := hT1.out.cell 2 (by omega); have t3 := hT1.out.cell 3 (by omega); simp only [trC] at t1 t2 t3; have hX1B := Bx.mk hX1; have hD1 := Bx.mk (hD0.out.fr0 hf1); have hz1 := Bx.mk (hz0.out.fr0 hf1); have hu1 := Bx.mk (hu0.out.fr0 hf1); clear hX1; obtain ⟨b3, m3, c3, rfl⟩ := hX1B.out.slice)
    | (go_at_call 65; refine (hpr.out (.slice b3 m3 c3) _ hz1.out (hXN.out _ _ _ hX1B.out) (fun k hk e => by have h1 := hlB.out.B k e; have h2 := (hX1B.out.own k hk).1; omega)).mono ?_; clear hpr; rintro e w2 ⟨rfl, hz2, hf2⟩; have hX2 := Bx.mk (hX1B.out.fr hf2 (fun k hk e => by have h1 := hlB.out.B k e; have h2 := (hX1B.out.own k hk).1; omega)); have hD2 := Bx.mk (hD1.out.fr hf2 (fun k hk => .inl hk)); have hz2 := Bx.mk hz2; have hu2 := Bx.mk (hu1.out.fr hf2 (fun k hk e => huvB.out k hk (.inl e))); have hT2 := Bx.mk (hf2.row hT1.out hwu.out))
    | (go_at_call 62; refine (hst.out _ hD2.out).mono ?_; clear hst; rintro e w3 ⟨rfl, hf3⟩; have hX3 := Bx.mk (hX2.out.fr0 hf3); have hD3 := Bx.mk (hD2.out.fr0 hf3); have hz3 := Bx.mk (hz2.out.fr0 hf3); have hu3 := Bx.mk (hu2.out.fr0 hf3); have hT3 := Bx.mk (hf3.row0 hT2.out); clear t1 t2 t3; have t0 := hT3.out.cell 0 (by omega); simp only [trC] at t0)
    | (go_at_call 64; refine (hsn.out _ _ _ (hXN.out _ _ _ hX3.out) hu3.out).mono ?_; clear hsn; rintro e w4 ⟨rfl, hf4⟩; have hX4 := Bx.mk (hX3.out.fr0 hf4); have hD4 := Bx.mk (hD3.out.fr0 hf4); have hz4 := Bx.mk (hz3.out.fr0 hf4))
    | (go_at_call 63; refine (hkp.out (.slice b3 m3 c3) _ hD4.out hX4.out).mono ?_; clear hkp; rintro e w5 ⟨rfl, hD5, hf5⟩; have hD5 := Bx.mk hD5))
  go_returns
  have s1 := hf1.size
  have s2 := hf2.size
  have s3 := hf3.size
  have s4 := hf4.size
  have s5 := hf5.size
  have s0 : w.heap.size ≤ w1.heap.size := by have := s1; simp at this; omega
  refine ⟨rfl, hD5.out.mono ?_, hz4.out.fr hf5 ?_, ?_⟩
  · rintro k (e | e)
    · have := hZB.out k e; omega
    · have := (hX1B.out.own k e).2; omega
  · rintro k hk (e | e)
    · rcases e with e | e | e
      · exact hids.out.dB (by rw [← e]; exact hk)
      · exact hids.out.KB (by rw [← e]; exact hk)
      · exact hids.out.SB (by rw [← e]; exact hk)
    · have h1 := hlB.out.B k hk
      have h2 := (hX1B.out.own k e).1
      omega
  · refine ((((((Fr.refl (Pk B d K S) w).alloc _).step hf1 (fun x hx => hx.elim)).step hf2 (fun x hx => .inl (.inl hx))).step hf3 (fun x hx => hx.elim)).step hf4 (fun x hx => hx.elim)).step hf5 ?_
    rintro x (e | e)
    · exact .inl (.inr e)
    · exact .inr (by have := (hX1B.out.own x e).1; omega)
end Go.Proofs.Qxb6500329a
