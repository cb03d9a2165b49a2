import Derived.Test.Qxb6500330aD2
import Derived.Test.Qxb6500330aX5
namespace Go.Proofs.Qxb6500330a
set_option linter.unusedVariables false
set_option linter.unusedSimpArgs false
open Go.RowKit
attribute [local go_sem] bv_and bv_or bv_andNot bv_and_all bv_andNot_all bv_all_andNot bv_eq_all bv_ne_all bv_pred bv_pred' bv_eq_zero bv_ne_zero bv_eq bv_ne bv_bit

/-- The blocks of the layer, of the model, of the desk. -/
abbrev SB (B : Nat) : Nat → Prop := fun k => B ≤ k ∧ k < B + 8
/-- THE LAW's STATE: the layer at block B, the model at B + 5, the desk at B + 7, kept lists from B + 8 on; both sides hold R; at most M lists were kept. -/
structure Law (w0 w : World) (B : Nat) (R : Nat → BitVec 32) (M : Nat) : Prop where
  fr : Fr (SB B) w0 w
  m : MG w (B + 5) R
  x : ∃ x lid fl n olds, XG w B x ∧ XI x R ∧ DK w (B + 7) lid fl n olds ∧ n ≤ M ∧ Ring w (B + 8) w.heap.size n olds ∧ 0 ≤ fl ∧ fl ≤ x.touched ∧ x.touched ≤ lid ∧ x.touched ≤ 24
theorem Law.frm {w0 w w' : World} {B : Nat} {R : Nat → BitVec 32} {M : Nat} (h : Law w0 w B R M) (hm : MG w' (B + 5) R) (f : Fr (fun k => k = B + 5 + 1) w w') : Law w0 w' B R M := by
  obtain ⟨x, lid, fl, n, olds, h1, h2, h3, h4, h5, h6⟩ := h.x
  exact ⟨h.fr.trans (f.mono (fun k hk => by show B ≤ k ∧ k < B + 8; omega)), hm, x, lid, fl, n, olds, h1.fr f (fun k hk => by omega), h2, f.row h3 (by omega), h4, (h5.fr f (fun k hk => by omega)).up f.size, h6⟩
theorem Law.fr0 {w0 w w' : World} {B : Nat} {R : Nat → BitVec 32} {M : Nat} (h : Law w0 w B R M) (f : Fr S0 w w') : Law w0 w' B R M := h.frm (h.m.fr0 f) f.up
theorem Law.hR {w0 w : World} {B : Nat} {R : Nat → BitVec 32} {M : Nat} (h : Law w0 w B R M) : ∀ c, c < 24 → ∀ d, (R c).getLsbD d = true → d < 24 := by
  obtain ⟨x, lid, fl, n, olds, h1, h2, -⟩ := h.x
  exact h2.hR
theorem Law.up {w0 w : World} {B : Nat} {R : Nat → BitVec 32} {M M' : Nat} (h : Law w0 w B R M) (hM : M ≤ M') : Law w0 w B R M' := by
  obtain ⟨x, lid, fl, n, olds, h1, h2, h3, h4, h5⟩ := h.x
  exact ⟨h.fr, h.m, x, lid, fl, n, olds, h1, h2, h3, by omega, h5⟩
set_option maxHeartbeats 400000 in
theorem sameReads_any {w0 : World} (B : Nat) (R : Nat → BitVec 32) (M : Nat) (c : Int) (w : World) (h : Law w0 w B R M) :
    Calls Try.prog 24 #[pt B, pt (B + 5 + 1), .int .i64 c] w fun e w' => e = .returned (.bool true) ∧ w = w' := by
  obtain ⟨x, lid, fl, n, olds, hx, hi, -⟩ := h.x
  have hm := h.m
  have hr := hi.reads
  by_cases hc : 0 ≤ c ∧ c < 24
  · obtain ⟨k, rfl⟩ := Int.eq_ofNat_of_zero_le hc.1
    have hk : k < 24 := by omega
    have hX := xReads_in B x k w hx hk
    rw [hr] at hX
    have HX := Bx.mk hX
    clear hX hr hi h
    go_enter Try.func24, Try.ntmps24
    go_wp2_with (first | (go_at_call 40; refine HX.out.mono ?_; rintro e w' ⟨rfl, rfl⟩) | (go_at_call 16; refine (mReads_in _ _ _ _ hm hk).mono ?_; rintro e w' ⟨rfl, rfl⟩))
    go_ret
    exact ⟨by simp, rfl⟩
  · clear hr hi h
    go_enter Try.func24, Try.ntmps24
    go_wp2_with (first | (go_at_call 40; refine (xReads_out _ _ _ hc).mono ?_; rintro e w' ⟨rfl, rfl⟩) | (go_at_call 16; refine (mReads_out _ _ _ hc).mono ?_; rintro e w' ⟨rfl, rfl⟩))
    go_ret
    exact ⟨by simp, rfl⟩
set_option maxHeartbeats 400000 in
theorem sameLevel_any {w0 : World} (B : Nat) (R : Nat → BitVec 32) (M : Nat) (c : Int) (w : World) (h : Law w0 w B R M) :
    Calls Try.prog 28 #[pt B, pt (B + 5 + 1), .int .i64 c] w fun e w' => e = .returned (.bool true) ∧ Law w0 w' B R M := by
  obtain ⟨x, lid, fl, n, olds, hx, hi, -⟩ := h.x
  have hm := h.m
  have HH := Bx.mk h
  by_cases hc : 0 ≤ c ∧ c < 24
  · obtain ⟨k, rfl⟩ := Int.eq_ofNat_of_zero_le hc.1
    have hk : k < 24 := by omega
    have hX := xLevel_in B x k w hx hk
    rw [hi.level k hk] at hX
    have HX := Bx.mk hX
    clear hX hi h
    go_enter Try.func28, Try.ntmps28
    go_wp2_with (first | (go_at_call 44; refine HX.out.mono ?_; rintro e w' ⟨rfl, rfl⟩) | (go_at_call 45; refine (mLevel_in _ _ _ _ hm hk).mono ?_; rintro e w' ⟨rfl, hf⟩))
    go_ret
    exact ⟨by simp, HH.out.fr0 hf⟩
  · clear hi h
    go_enter Try.func28, Try.ntmps28
    go_wp2_with (first | (go_at_call 44; refine (xLevel_out _ _ _ hc).mono ?_; rintro e w' ⟨rfl, rfl⟩) | (go_at_call 45; refine (mLevel_out _ _ _ hc).mono ?_; rintro e w' ⟨rfl, rfl⟩))
    go_ret
    exact ⟨by simp, HH.out⟩
set_option maxHeartbeats 400000 in
theorem sameCyclic_any {w0 : World} (B : Nat) (R : Nat → BitVec 32) (M : Nat) (w : World) (h : Law w0 w B R M) :
    Calls Try.prog 27 #[pt B, pt (B + 5 + 1)] w fun e w' => e = .returned (.bool true) ∧ Law w0 w' B R M := by
  obtain ⟨x, lid, fl, n, olds, hx, hi, -⟩ := h.x
  have hm := h.m
  have HH := Bx.mk h
  have hX := xCyclic_any B x w hx
  rw [hi.cyc] at hX
  have HX := Bx.mk hX
  clear hX hi h
  go_enter Try.func27, Try.ntmps27
  go_wp2_with (first | (go_at_call 43; refine HX.out.mono ?_; rintro e w' ⟨rfl, rfl⟩) | (go_at_call 15; refine (mCyclic_any _ _ _ hm).mono ?_; rintro e w' ⟨rfl, hm1, hf⟩))
  go_ret
  exact ⟨by simp, HH.out.frm hm1 hf⟩
set_option maxHeartbeats 400000 in
theorem sameHang_any {w0 : World} (B : Nat) (R : Nat → BitVec 32) (M : Nat) (s : BitVec 32) (w : World) (h : Law w0 w B R M) :
    Calls Try.prog 26 #[pt B, pt (B + 5 + 1), U s] w fun e w' => e = .returned (.bool true) ∧ Law w0 w' B R M := by
  obtain ⟨x, lid, fl, n, olds, hx, hi, -⟩ := h.x
  have hm := h.m
  have HH := Bx.mk h
  have HX := Bx.mk (xHang_any B x s w hx hi.hrb)
  have HE := Bx.mk (fun h' hh => hang_eq R s h' x.readBy hi.hT hi.hR hi.hrb hh)
  clear hi h
  go_enter Try.func26, Try.ntmps26
  go_wp2_with (first | (go_at_call 42; refine HX.out.mono ?_; rintro e w' ⟨h', rfl, hh, rfl⟩; obtain rfl := HE.out h' hh) | (go_at_call 38; refine (mHang_any _ _ _ _ hm).mono ?_; rintro e w' ⟨rfl, hm1, hf⟩))
  go_ret
  exact ⟨by simp, HH.out.frm hm1 hf⟩
set_option maxRecDepth 100000 in
set_option maxHeartbeats 1000000 in
theorem sameOrder_any {w0 : World} (B : Nat) (R : Nat → BitVec 32) (M : Nat) (s : BitVec 32) (w : World) (h : Law w0 w B R M) (hM : M ≤ 1152921504606846976) :
    Calls Try.prog 29 #[pt B, pt (B + 5 + 1), pt (B + 7), U s] w fun e w' => e = .returned (.bool true) ∧ Law w0 w' B R (M + 1) := by
  obtain ⟨x, lid, fl, n, olds, hx, hi, hd, hn, hr, hrest⟩ := h.x
  have hm := h.m
  have hlt := hm.lt
  have hdlt := Row.lt hd
  have HI := Bx.mk hi
  have HH := Bx.mk h
  have hlen : (ord R s).length ≤ 600 := by have := ordTo_len R s 24; unfold ord; omega
  have HREST := Bx.mk hrest
  clear hi h hrest
  have hnn := neq_nil
  go_enter Try.func29, Try.ntmps29
  go_wp2_with (go_at_call 46; refine (xOrder_any _ _ _ _ _ hx HI.out).mono ?_; rintro e w1 ⟨va, rfl, hva, hf1⟩)
  go_wp2_with (go_at_call 14; refine (mOrder_any _ _ _ _ (hm.fr0 hf1)).mono ?_; rintro e w2 ⟨vb, rfl, hvb, hm2, hf2⟩)
  generalize ord R s = L at *
  have hd2 : DK w2 (B + 7) lid fl n olds := hf2.row (hf1.row0 hd) (by omega)
  have hr2 : Ring w2 (B + 8) w.heap.size n olds := (hr.fr hf1 (by simp)).fr hf2 (fun k hk => by omega)
  have hx2 : XG w2 B x := (hx.fr0 hf1).fr hf2 (fun k hk => by omega)
  have hs1 := hf1.size
  have hs2 := hf2.size
  rcases hva with ⟨rfl, rfl⟩ | ⟨ga, rfl, hne, hga, hrow⟩
  · rcases hvb with ⟨rfl, -⟩ | ⟨gb, cb, rfl, -⟩
    · go_wp2_with (first | (go_at_call 47; refine (untouched_any _ _ _ _ _ _ _ _ hd2 hr2 (by omega)).mono ?_; rintro e w' ⟨rfl, rfl⟩) | (go_at_call 48; refine (sameInts_nil _ _ _ _ _).mono ?_; rintro e w3 ⟨rfl, hf3⟩) | (go_at_call 49; refine (keep_nil _ _ _ _ _ _ (by exact hf3.row0 hd2) (by omega)).mono ?_; rintro e w4 ⟨rfl, hd4, hf4⟩))
      go_ret
      have hs3 := hf3.size
      have hs4 := hf4.size
      exact ⟨rfl, ((((HH.out.fr.trans hf1.up).trans (hf2.mono (fun k hk => by show B ≤ k ∧ k < B + 8; omega))).trans hf3.up).trans (hf4.mono (fun k hk => by show B ≤ k ∧ k < B + 8; omega))), (hm2.fr0 hf3).fr hf4 (by omega) (by omega), x, lid, fl, n + 1, _, (hx2.fr0 hf3).fr hf4 (fun k hk => by omega), HI.out, hd4, by omega, ((hr2.fr hf3 (by simp)).fr hf4 (fun k hk => by omega)).keep (by omega) (.inl rfl), HREST.out⟩
    · go_wp2_with (first | (go_at_call 47; refine (untouched_any _ _ _ _ _ _ _ _ hd2 hr2 (by omega)).mono ?_; rintro e w' ⟨rfl, rfl⟩) | (go_at_call 48; refine (sameInts_nil _ _ _ _ _).mono ?_; rintro e w3 ⟨rfl, hf3⟩) | (go_at_call 49; refine (keep_nil _ _ _ _ _ _ (by exact hf3.row0 hd2) (by omega)).mono ?_; rintro e w4 ⟨rfl, hd4, hf4⟩))
      go_ret
      have hs3 := hf3.size
      have hs4 := hf4.size
      exact ⟨rfl, ((((HH.out.fr.trans hf1.up).trans (hf2.mono (fun k hk => by show B ≤ k ∧ k < B + 8; omega))).trans hf3.up).trans (hf4.mono (fun k hk => by show B ≤ k ∧ k < B + 8; omega))), (hm2.fr0 hf3).fr hf4 (by omega) (by omega), x, lid, fl, n + 1, _, (hx2.fr0 hf3).fr hf4 (fun k hk => by omega), HI.out, hd4, by omega, ((hr2.fr hf3 (by simp)).fr hf4 (fun k hk => by omega)).keep (by omega) (.inl rfl), HREST.out⟩
  · rcases hvb with ⟨rfl, hnil⟩ | ⟨gb, cb, rfl, hil⟩
    · exact absurd hnil hne
    · have hl0 : ((L.length : Int) == 0) = false := by
        rw [beq_eq_false_iff_ne]
        intro e
        exact hne (List.eq_nil_of_length_eq_zero (by omega))
      have hrow2 : Row w2 ga L.length (fun i => I (nth L i : Nat)) := hf2.row hrow (by omega)
      have HIL := Bx.mk hil
      have hglt := hil.lt
      clear hne hil
      go_wp2_with (first | (go_at_call 47; refine (untouched_any _ _ _ _ _ _ _ _ hd2 hr2 (by omega)).mono ?_; rintro e w' ⟨rfl, rfl⟩) | (go_at_call 48; refine (sameInts_row _ _ _ _ _ (fun i => ((nth L i : Nat) : Int)) _ (by omega) hrow2.lt hglt hrow2.cell HIL.out.cell).mono ?_; rintro e w3 ⟨rfl, hf3⟩) | (go_at_call 49; refine (keep_row _ _ _ _ _ _ _ _ _ (by exact hf3.row0 hd2) (by omega) (hf3.row0 hrow2) (by omega) (by omega)).mono ?_; rintro e w4 ⟨rfl, hd4, hrow4, hf4⟩))
      go_ret
      have hs3 := hf3.size
      have hs4 := hf4.size
      have hl4 := hrow4.lt
      have hs0 := HH.out.fr.size
      exact ⟨rfl, ((((HH.out.fr.trans hf1.up).trans (hf2.mono (fun k hk => by show B ≤ k ∧ k < B + 8; omega))).trans hf3.up).step hf4 (fun k hk => by have hk : k = B + 7 ∨ k = ga := hk; show (B ≤ k ∧ k < B + 8) ∨ w0.heap.size ≤ k; omega)), (hm2.fr0 hf3).fr hf4 (by omega) (by omega), x, lid, fl, n + 1, _, (hx2.fr0 hf3).fr hf4 (fun k hk => by omega), HI.out, hd4, by omega, ((hr2.fr hf3 (by simp)).fr hf4 (fun k hk => by omega)).keep (by omega) (.inr ⟨ga, L.length, rfl, by omega, by omega, hl4, hrow4⟩), HREST.out⟩
end Go.Proofs.Qxb6500330a
