import Derived.Test.Qxb6500326aGreatX14
namespace Go.Proofs.Qxb6500326aGreat
set_option maxRecDepth 100000
set_option linter.unusedVariables false
set_option linter.unusedSimpArgs false
open Go.RowKit Go.PlainAid
theorem Hts.pop {k e : Nat} {st : RS} (h : Hts k e st) {m : Mk} {O' : List Mk} (hO : st.O = m :: O') (hm : m.kind ≠ 2) : Hts k e (st.vo st.V O') :=
  ⟨by show st.V.length = bins O' + e; rw [h.len, hO]; show (if m.kind = 2 then 1 else 0) + bins O' + e = _; rw [if_neg hm]; omega, h.vk,
   by have := h.ok; rw [hO] at this; simp at this; show O'.length ≤ k; omega, h.vin, fun m' hm' => h.mn m' (by rw [hO]; exact List.mem_cons_of_mem _ hm'),
   by have := h.so; rw [hO] at this; exact this.2, fun m' hm' => h.kd m' (by rw [hO]; exact List.mem_cons_of_mem _ hm')⟩
/-- The cells of the mark on top. -/
theorem AF.top {w : World} {B : FB} {b : Nat → Int} {n nt k : Nat} {st : RS} (h : AF w B b n nt k st) {m : Mk} {O' : List Mk} (hO : st.O = m :: O') (ho : st.O.length ≤ 41) :
    w.cell? ⟨B.f, 9, none⟩ = some (I ((O'.length + 1 : Nat) : Int)) ∧ w.frozen? ⟨B.f, 9, none⟩ = false ∧ w.cell? ⟨B.f, 8, none⟩ = some (sl B.o 41 41) ∧ w.cell? ⟨B.o, O'.length * 5, none⟩ = some (I m.kind) ∧ w.cell? ⟨B.o, O'.length * 5 + 1, none⟩ = some (I m.op) ∧ w.cell? ⟨B.o, O'.length * 5 + 2, none⟩ = some (I m.st) ∧ w.cell? ⟨B.o, O'.length * 5 + 3, none⟩ = some (I m.n) ∧ w.cell? ⟨B.o, O'.length * 5 + 4, none⟩ = some (I m.link) ∧ B.f < w.heap.size ∧ B.o < w.heap.size := by
  obtain ⟨F, hF, hR, -, -⟩ := h
  have a9 := hF.row.cell 9 (by omega)
  have a8 := hF.row.cell 8 (by omega)
  have hno := hR.nol
  obtain ⟨t1', t2', -⟩ := hR.topO hO
  rw [hO] at hno ho
  simp only [List.length_cons] at hno ho
  rw [hno, Nat.add_sub_cancel] at t2'
  have b0 := hF.ops.cell0 O'.length (by omega) (by omega)
  have b1 := hF.ops.cell O'.length 1 (by omega) (by omega)
  have b2 := hF.ops.cell O'.length 2 (by omega) (by omega)
  have b3 := hF.ops.cell O'.length 3 (by omega) (by omega)
  have b4 := hF.ops.cell O'.length 4 (by omega) (by omega)
  simp only [fmC] at a9 a8
  rw [hno] at a9
  rw [t2'] at b0 b1 b2 b3 b4
  exact ⟨a9, hF.row.frozen 9, a8, b0, b1, b2, b3, b4, hF.row.lt, hF.lts.2.2.2.2.1⟩
/-- The mark on top is taken off. -/
theorem AF.pop {w : World} {B : FB} {b : Nat → Int} {n nt k : Nat} {st : RS} (h : AF w B b n nt k st) {m : Mk} {O' : List Mk} (hO : st.O = m :: O') : AF (w.setCell ⟨B.f, 9, none⟩ (I O'.length)) B b n nt k (st.vo st.V O') := by
  obtain ⟨F, hF, hR, h1, h2⟩ := h
  have hno := hR.nol
  obtain ⟨t1', -, t3'⟩ := hR.topO hO
  rw [hO] at hno
  simp only [List.length_cons] at hno
  rw [hno, Nat.add_sub_cancel] at t3'
  exact ⟨{ F with no := O'.length }, hF.set (F' := { F with no := O'.length }) 9 (I O'.length) (by intro i hi; rcases i with _ | _ | _ | _ | _ | _ | _ | _ | _ | _ | _ | _ | _ | _ | _ | _ | _ | i <;> first | rfl | omega) rfl rfl rfl rfl rfl rfl rfl, { hR with O := t3' }, h1, h2⟩
set_option maxRecDepth 100000 in
set_option maxHeartbeats 4000000 in
theorem close_open (B : FB) (b : Nat → Int) (n nt k : Nat) (st : RS) (t : Tok) (w : World) (h : AF w B b n nt k st) (hts : Hts k 1 st) (m : Mk) (O' : List Mk) (hO : st.O = m :: O') (hm : m.kind = 3) (ht : t = lex b n st.pos) :
    Calls Tryz.prog 194 #[pt B.f, tkV t] w (Turned w B b n nt k st (st.close b n t)) := by
  have hcl : st.close b n t = if t.kind ≠ 41 then st.fail 3 t.st else ((st.take b n).vo (st.take b n).V O').settle := by
    unfold RS.close; rw [hO]; simp only; rw [if_neg (by omega)]; unfold RS.closeTail
    by_cases e : t.kind ≠ 41
    · rw [if_pos e, if_pos e]
    · rw [if_neg e, if_neg e]; simp only; rw [if_pos hm]; rfl
  rw [hcl]
  clear hcl
  obtain ⟨hkn, hn41, hpn⟩ := h.kn
  have hol : st.O.length ≤ 41 := by have := hts.ok; omega
  obtain ⟨c9, z9, c8, k0, k1, k2, k3, k4, lf, lo⟩ := h.top hO hol
  have hp41 : (O'.length : Int) < 41 := by rw [hO] at hol; simp at hol; omega
  have hnb := Bx.mk (fun j (hj : w.heap.size ≤ j) => h.lts hj)
  have hT0 := Bx.mk ((tk_new w t rfl).alloc (.cells (mkA m) 220)).drew
  have hM0 := Bx.mk ((mk_new (w.alloc (.cells (tkA t) 213)) m (H := w.heap.size + 1) (by simp))).drew
  have hA0 : Bx (AF (((w.alloc (.cells (tkA t) 213)).alloc (.cells (mkA m) 220)).drew) B b n nt k st) := Bx.mk (((h.alloc _).alloc _).fr0 (Fr.refl _ _).drew)
  have e4 : (m.kind == 4) = false := by simp [hm]
  have e3 : (m.kind == 3) = true := by simp [hm]
  by_cases h41 : t.kind = 41
  · rw [if_neg (by simpa using h41)]
    have d41 : (t.kind != 41) = false := by simpa using h41
    have hTk := Bx.mk (fun wx hx => takeX B b n nt k st wx hx (by rw [← ht, h41]; decide))
    have g1 := (hts.take (b := b) (n := n)).pop (m := m) (O' := O') hO (by omega)
    have hpop := Bx.mk (fun wx (hx : AF wx B b n nt (k + 1) (st.take b n)) => hx.pop (m := m) (O' := O') hO)
    have htop := Bx.mk (fun wx (hx : AF wx B b n nt (k + 1) (st.take b n)) => hx.top (m := m) (O' := O') hO hol)
    have hst := Bx.mk (fun wx hx => settleX B b n nt (k + 1) ((st.take b n).vo (st.take b n).V O') wx hx (by have := g1.ok; omega) (by have := g1.vk; omega) g1.len)
    have hsh := Bx.mk (settle_hts g1)
    generalize st.take b n = s1 at *
    generalize O'.length = p at *
    clear h hts hO hm h41 ht g1 hpn
    go_enter Tryz.func194, Tryz.ntmps194
    go_wp2_with fail
    go_region
    go_wp2_with (first
      | (go_at_call 196; refine (hTk.out _ hA0.out).mono ?_; clear hTk; rintro e w1 ⟨rfl, hA1, hf1⟩; have hT1 := Bx.mk (hf1.row hT0.out (hnb.out _ (Nat.le_refl _))); have hM1 := Bx.mk (hf1.row hM0.out (hnb.out _ (by omega))); obtain ⟨d9, y9, -, -, -, -, -, -, -, -⟩ := htop.out _ hA1; have i0 := hM1.out.cell 0 (by omega); simp only [mkC] at i0; have hP1 := Bx.mk (hpop.out _ hA1); have fne : w.heap.size + 1 ≠ B.f := (by omega); have hA1 := Bx.mk hA1)
      | (go_at_call 223; refine (hst.out _ hP1.out).mono ?_; clear hst; rintro e w2 ⟨rfl, hA2, hf2⟩))
    go_returns
    exact ⟨rfl, ⟨k + 1, hA2, by omega, fun e => ⟨fun _ => by omega, by rw [hsh.out.2.1]; exact hsh.out.1, fun _ => hsh.out.2.2⟩⟩, (((((Fr.refl _ _).alloc _).alloc _).drew.trans hf1).fm 9 _).trans hf2⟩
  · rw [if_pos h41]
    have d41 : (t.kind != 41) = true := by simpa using h41
    have hfl := Bx.mk (fun wx hx => failX B b n nt k st 3 t.st wx hx)
    have her := Bx.mk (fail_errR st (e := 3) (by decide) t.st)
    generalize O'.length = p at *
    clear h hts hO hm h41 ht hpn hol
    go_enter Tryz.func194, Tryz.ntmps194
    go_wp2_with fail
    go_region
    go_wp2_with (first
      | (go_at_call 195; refine (hfl.out _ hA0.out).mono ?_; clear hfl; rintro e w1 ⟨rfl, hA1, hf1⟩))
    go_returns
    exact ⟨rfl, ⟨k, hA1, Nat.le_refl _, fun e => absurd e her.out⟩, (((Fr.refl _ _).alloc _).alloc _).drew.trans hf1⟩
end Go.Proofs.Qxb6500326aGreat
