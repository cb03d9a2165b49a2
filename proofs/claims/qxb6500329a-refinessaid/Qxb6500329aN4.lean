import Derived.Test.Qxb6500329aN3
import Derived.Test.Qxb6500329aL12
namespace Go.Proofs.Qxb6500329a
set_option linter.unusedVariables false
set_option linter.unusedSimpArgs false
open Go.RowKit Go.PlainAid
theorem StepS.drew {w : World} {B : FB} {fb d K S : Nat} {s : ByteArray} {v : Value} {t : Tr} {ct : Nat} (h : StepS w B fb d K S s v t ct) : StepS w.drew B fb d K S s v t ct :=
  ⟨h.ds.fr0 (Fr.refl _ _).drew, h.fz.fr0 (Fr.refl _ _).drew, h.mf.fr (Fr.refl S0 _).drew (fun c => c), h.low, h.ct, h.len, h.txt⟩
theorem StepS.drewN {w : World} {B : FB} {fb d K S : Nat} {s : ByteArray} {v : Value} {t : Tr} {ct : Nat} (h : StepS w B fb d K S s v t ct) (n : Nat) : StepS (w.drewN n) B fb d K S s v t ct :=
  ⟨h.ds.fr0 ((Fr.refl _ _).drewN n), h.fz.fr0 ((Fr.refl _ _).drewN n), h.mf.fr ((Fr.refl S0 _).drewN n) (fun c => c), h.low, h.ct, h.len, h.txt⟩
theorem StepS.post {w0 w : World} {B : FB} {fb d K S : Nat} {s : ByteArray} {v v0 : Value} {t : Tr} {ct c0 : Nat} (h : StepS w B fb d K S s v t ct) (hc : ct ≤ c0 + 3) (hv : ∀ k, v.ownBlock = some k → v0.ownBlock = some k ∨ w0.heap.size ≤ k) (f : Fr (Used B fb d K S) w0 w) : StepP w0 B fb d K S v0 c0 (.returned (.bool true)) w :=
  ⟨rfl, ⟨s, v, t, ct, h.ds, h.len, h.txt, hc, hv⟩, h.fz, h.mf, f.usd⟩
set_option maxRecDepth 100000 in
set_option maxHeartbeats 4000000 in
theorem play_check (B : FB) (fb d K S : Nat) (s : ByteArray) (v : Value) (t : Tr) (ct : Nat) (a b c : Int) (s1 s2 : ByteArray) (quiet : Bool) (w : World) (h : StepS w B fb d K S s v t ct) :
    Calls Try.prog 28 #[pt B.f, pt fb, pt d, opV 9 a b c s1 s2, .bool quiet] w (StepP w B fb d K S v ct) := by
  have hA := Bx.mk (h.alloc (opB 9 a b c s1 s2))
  have hck := Bx.mk (check_any B _ hA.out.fz)
  have hP := Bx.mk (hA.out.post (c0 := ct) (v0 := v) (w0 := w) (by omega) (fun k hk => .inl hk) ((Fr.refl _ _).alloc (opB 9 a b c s1 s2)))
  clear h
  go_enter Try.func28, Try.ntmps28
  go_wp2_with (first | (go_at_call 26; refine hck.out.mono ?_; clear hck; rintro e w' ⟨rfl, rfl⟩))
  go_ret
  exact hP.out
set_option maxRecDepth 100000 in
set_option maxHeartbeats 4000000 in
theorem play_clear (B : FB) (fb d K S : Nat) (s : ByteArray) (v : Value) (t : Tr) (ct : Nat) (a b c : Int) (s1 s2 : ByteArray) (quiet : Bool) (w : World) (h : StepS w B fb d K S s v t ct) :
    Calls Try.prog 28 #[pt B.f, pt fb, pt d, opV 8 a b c s1 s2, .bool quiet] w (StepP w B fb d K S v ct) := by
  have h1 := h.setText ⟨#[]⟩ (by decide)
  have hlen0 : (⟨#[]⟩ : ByteArray).size ≤ 41 := by decide
  have h2 := h1.ds.setReg (H := 0) (v' := .slice none 0 0) (T := ⟨[], -1, 0, 0⟩) (.inl ⟨rfl, rfl⟩) (by decide) (fun x hx => by cases hx) (fun k hk => by cases hk)
  have f : Fr (fun k => k = d) w (((((w.setCell ⟨d, 0, none⟩ (.string ⟨#[]⟩)).setCell ⟨d, 1, none⟩ (.slice none 0 0)).setCell ⟨d, 2, none⟩ (I (-1))).setCell ⟨d, 3, none⟩ (I 0)).setCell ⟨d, 4, none⟩ (I 0)) := (((((Fr.refl (fun k => k = d) w).setCell (p := ⟨d, 0, none⟩) (.inl rfl) _).setCell (p := ⟨d, 1, none⟩) (.inl rfl) _).setCell (p := ⟨d, 2, none⟩) (.inl rfl) _).setCell (p := ⟨d, 3, none⟩) (.inl rfl) _).setCell (p := ⟨d, 4, none⟩) (.inl rfl) _
  have h3 : StepS (((((w.setCell ⟨d, 0, none⟩ (.string ⟨#[]⟩)).setCell ⟨d, 1, none⟩ (.slice none 0 0)).setCell ⟨d, 2, none⟩ (I (-1))).setCell ⟨d, 3, none⟩ (I 0)).setCell ⟨d, 4, none⟩ (I 0)) B fb d K S ⟨#[]⟩ (.slice none 0 0) ⟨[], -1, 0, 0⟩ ct :=
    ⟨h2.mono (fun k hk => by rcases hk with e | e; simpa using e; cases e), h.fz.fr f (fun k hk e => h.ds.ids.dB (by rw [← show k = d from e]; exact hk)), h.mf.fr f (fun e => h.ds.ids.fd e), h.low.mono f.size, h.ct, by decide, hlen0⟩
  have hP := Bx.mk ((h3.alloc (opB 8 a b c s1 s2)).post (w0 := w) (v0 := v) (c0 := ct) (by omega) (fun k hk => by cases hk) ((f.mono (fun k hk => .inr (.inr (.inl hk)))).alloc _))
  have hrow := h.ds.row
  have d0 := hrow.cell 0 (by omega)
  have d1 := hrow.cell 1 (by omega)
  have d2 := hrow.cell 2 (by omega)
  have d3 := hrow.cell 3 (by omega)
  have d4 := hrow.cell 4 (by omega)
  have z0 := hrow.frozen 0
  have z1 := hrow.frozen 1
  have z2 := hrow.frozen 2
  have z3 := hrow.frozen 3
  have z4 := hrow.frozen 4
  simp only [dkC] at d0 d1 d2 d3 d4
  have hdl : d < w.heap.size := hrow.lt
  clear h h1 h2 h3 f hrow
  go_enter Try.func28, Try.ntmps28
  go_wp2_with fail
  go_ret
  exact hP.out
set_option maxRecDepth 100000 in
set_option maxHeartbeats 4000000 in
theorem play_turn (B : FB) (fb d K S : Nat) (s : ByteArray) (v : Value) (t : Tr) (ct : Nat) (kd a b c : Int) (s1 s2 : ByteArray) (quiet : Bool) (w : World) (h : StepS w B fb d K S s v t ct) (hc : c ≤ 9223372036854775807) (h1 : kd ≠ 1) (h2 : kd ≠ 2) (h7 : kd ≠ 7) (h8 : kd ≠ 8) (h9 : kd ≠ 9) :
    Calls Try.prog 28 #[pt B.f, pt fb, pt d, opV kd a b c s1 s2, .bool quiet] w (StepP w B fb d K S v ct) := by
  have hA := h.alloc (opB kd a b c s1 s2)
  have htu := Bx.mk (turn_any B fb d K S s v t ct kd a b c s1 s2 _ hA hc)
  have e1 : (kd == 1) = false := by simpa using h1
  have e2 : (kd == 2) = false := by simpa using h2
  have e7 : (kd == 7) = false := by simpa using h7
  have e8 : (kd == 8) = false := by simpa using h8
  have e9 : (kd == 9) = false := by simpa using h9
  have hAB := Bx.mk hA
  clear h hA h1 h2 h7 h8 h9
  go_enter Try.func28, Try.ntmps28
  go_wp2_with (first | (go_at_call 39; refine htu.out.mono ?_; clear htu; rintro e w1 ⟨rfl, ⟨v', t', hD1, hl1, ho1⟩, hf1⟩))
  go_ret
  have hA := hAB.out
  have hno : ∀ k, (k = d ∨ v.ownBlock = some k) → k ≠ fb ∧ ¬ FmS B k := by
    rintro k (e | e)
    · exact ⟨fun e2 => hA.ds.ids.fd (by rw [← e2, e]), fun e2 => hA.ds.ids.dB (by rw [← e]; exact e2)⟩
    · exact ⟨fun e2 => (hA.ds.own k e).1 (.inr (.inl e2)), fun e2 => (hA.ds.own k e).1 (.inl e2)⟩
  have hsz := hf1.size
  have hA0 : Fr (fun k => Used B fb d K S k ∨ v.ownBlock = some k) w (w.alloc (opB kd a b c s1 s2)) := (Fr.refl _ _).alloc _
  refine ⟨rfl, ⟨_, _, _, _, hD1, hl1, hA.txt, by omega, ?_⟩, hA.fz.fr hf1 (fun k hk c => (hno k c).2 hk), hA.mf.fr hf1 (fun c => (hno fb c).1 rfl), hA0.step hf1 (fun x hx => ?_)⟩
  · intro k hk
    rcases ho1 k hk with e | e
    · exact .inl e
    · exact .inr (by simp at e; omega)
  · rcases hx with e | e
    · exact .inl (.inl (.inr (.inr (.inl e))))
    · exact .inl (.inr e)
set_option maxRecDepth 100000 in
set_option maxHeartbeats 4000000 in
theorem play_print (B : FB) (fb d K S : Nat) (s : ByteArray) (v : Value) (t : Tr) (ct : Nat) (a b c : Int) (s1 s2 : ByteArray) (quiet : Bool) (w : World) (h : StepS w B fb d K S s v t ct) :
    Calls Try.prog 28 #[pt B.f, pt fb, pt d, opV 7 a b c s1 s2, .bool quiet] w (StepP w B fb d K S v ct) := by
  have hA := h.alloc (opB 7 a b c s1 s2)
  have hsp := Bx.mk (sameprint_any B fb d K S s v t ct quiet _ hA.ds hA.fz hA.mf hA.low hA.ct hA.len hA.txt)
  clear h hA
  go_enter Try.func28, Try.ntmps28
  go_wp2_with (first | (go_at_call 38; refine hsp.out.mono ?_; clear hsp; rintro e w1 ⟨rfl, ⟨s', v', t', c', hD1, hl1, hs1, hc1, ho1⟩, hz1, hm1, hf1⟩))
  go_ret
  refine ⟨rfl, ⟨_, _, _, _, hD1, hl1, hs1, hc1, fun k hk => ?_⟩, hz1, hm1, ((Fr.refl _ _).alloc _).trans hf1⟩
  rcases ho1 k hk with e | e
  · exact .inl e
  · exact .inr (by simp at e; omega)
set_option maxRecDepth 100000 in
set_option maxHeartbeats 4000000 in
theorem play_parse (B : FB) (fb d K S : Nat) (s : ByteArray) (v : Value) (t : Tr) (ct : Nat) (a b c : Int) (s1 s2 : ByteArray) (quiet : Bool) (w : World) (h : StepS w B fb d K S s v t ct) :
    Calls Try.prog 28 #[pt B.f, pt fb, pt d, opV 2 a b c s1 s2, .bool quiet] w (StepP w B fb d K S v ct) := by
  have hwh : Bx (∀ wx, Calls Try.prog 12 #[.string s, .string s1, I 40] wx fun e w' => e = .returned (.string (wholeQ s s1)) ∧ w' = wx) := Bx.mk (fun wx => (whole_str s s1 wx h.txt).mono (fun e w' g => ⟨g.1, g.2.symm⟩))
  have h1 := fun (n : Nat) => ((h.alloc (opB 2 a b c s1 s2)).drewN n).setText ⟨#[]⟩ (by decide)
  have hsp := Bx.mk (fun p (n : Nat) => sameparse_any B fb d K S _ ⟨#[]⟩ v t ct p quiet _ (h1 n).ds (h1 n).fz (h1 n).mf (h1 n).low (fun k hk => hk) (h1 n).ct (h1 n).len (h1 n).txt)
  have fB : Bx (∀ n : Nat, Fr (Used B fb d K S) w (((w.alloc (opB 2 a b c s1 s2)).drewN n).setCell ⟨d, 0, none⟩ (.string ⟨#[]⟩))) := Bx.mk (fun n => (((Fr.refl _ w).alloc _).drewN n).setCell (p := ⟨d, 0, none⟩) (.inl (.inr (.inr (.inl rfl)))) _)
  have d0 := h.ds.row.cell 0 (by omega)
  have z0 := h.ds.row.frozen 0
  simp only [dkC] at d0
  have hdl : d < w.heap.size := h.ds.row.lt
  clear h h1
  generalize wholeQ s s1 = q at *
  go_enter Try.func28, Try.ntmps28
  go_wp2_with fail
  go_quiet (first | (go_at_call 12; exact (hwh.out _).mono (fun e w' h => ⟨h.1, _, h.2⟩)))
  go_wp2_with (first | (go_at_call 37; refine (hsp.out _ _).mono ?_; clear hsp; rintro e w1 ⟨rfl, ⟨s', v', t', c', hD1, hl1, hs1, hc1, ho1⟩, hz1, hm1, hf1⟩))
  go_ret
  refine ⟨rfl, ⟨_, _, _, _, hD1, hl1, hs1, hc1, fun k hk => ?_⟩, hz1, hm1, (Fr.usd (fB.out _)).trans hf1⟩
  rcases ho1 k hk with e | e
  · exact .inl e
  · exact .inr (Nat.le_trans (fB.out _).size e)
set_option maxRecDepth 100000 in
set_option maxHeartbeats 4000000 in
theorem play_text (B : FB) (fb d K S : Nat) (s : ByteArray) (v : Value) (t : Tr) (ct : Nat) (a b c : Int) (s1 s2 : ByteArray) (quiet : Bool) (w : World) (h : StepS w B fb d K S s v t ct) :
    Calls Try.prog 28 #[pt B.f, pt fb, pt d, opV 1 a b c s1 s2, .bool quiet] w (StepP w B fb d K S v ct) := by
  have hlq := lenQ_size (p := s1) h.txt
  have hln := Bx.mk (fun wx => lengthen_any s s1 wx h.txt)
  generalize lenQ s s1 = q at *
  have h1 := h.setText q hlq
  have f : Fr (Used B fb d K S) w (w.setCell ⟨d, 0, none⟩ (.string q)) := (Fr.refl _ w).setCell (p := ⟨d, 0, none⟩) (.inl (.inr (.inr (.inl rfl)))) _
  have hP := Bx.mk (((h1.alloc (opB 1 a b c s1 s2)).drew).post (w0 := w) (v0 := v) (c0 := ct) (by omega) (fun k hk => .inl hk) ((f.alloc _).drew))
  have d0 := h.ds.row.cell 0 (by omega)
  have z0 := h.ds.row.frozen 0
  simp only [dkC] at d0
  have hdl : d < w.heap.size := h.ds.row.lt
  clear h h1 f hlq
  go_enter Try.func28, Try.ntmps28
  go_wp2_with fail
  go_region_with (first | (go_at_call 11; refine (hln.out _).mono ?_; rintro e w' ⟨rfl, rfl⟩))
  all_goals go_wp2_with fail
  all_goals go_ret
  all_goals exact hP.out
theorem play_any (B : FB) (fb d K S : Nat) (s : ByteArray) (v : Value) (t : Tr) (ct : Nat) (kd a b c : Int) (s1 s2 : ByteArray) (quiet : Bool) (w : World) (h : StepS w B fb d K S s v t ct) (hc : c ≤ 9223372036854775807) :
    Calls Try.prog 28 #[pt B.f, pt fb, pt d, opV kd a b c s1 s2, .bool quiet] w (StepP w B fb d K S v ct) := by
  by_cases h1 : kd = 1
  · subst h1; exact play_text B fb d K S s v t ct a b c s1 s2 quiet w h
  by_cases h2 : kd = 2
  · subst h2; exact play_parse B fb d K S s v t ct a b c s1 s2 quiet w h
  by_cases h7 : kd = 7
  · subst h7; exact play_print B fb d K S s v t ct a b c s1 s2 quiet w h
  by_cases h8 : kd = 8
  · subst h8; exact play_clear B fb d K S s v t ct a b c s1 s2 quiet w h
  by_cases h9 : kd = 9
  · subst h9; exact play_check B fb d K S s v t ct a b c s1 s2 quiet w h
  exact play_turn B fb d K S s v t ct kd a b c s1 s2 quiet w h hc h1 h2 h7 h8 h9
end Go.Proofs.Qxb6500329a
