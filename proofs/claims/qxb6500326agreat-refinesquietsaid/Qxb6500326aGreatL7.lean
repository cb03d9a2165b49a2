import Derived.Test.Qxb6500326aGreatL6
import Derived.Test.Qxb6500326aGreatN1
import Derived.Deep.CutRange
namespace Go.Proofs.Qxb6500326aGreat
set_option maxRecDepth 100000
set_option linter.unusedVariables false
set_option linter.unusedSimpArgs false
open Go.RowKit Go.PlainAid

set_option maxHeartbeats 2000000 in
theorem lengthen_40 (s p : ByteArray) (hs : s.size ≤ 1057) : ∃ r : ByteArray, r.size ≤ 1057 ∧ ∀ w, Calls Tryz.prog 11 #[.string s, .string p, I 40] w fun e w' => e = .returned (.string r) ∧ w = w' := by
  by_cases h0 : 41 ≤ s.size
  · refine ⟨s, hs, fun w => ?_⟩
    have hd : decide ((41 : Int) - (s.size : Int) ≤ 0) = true := decide_eq_true (by omega)
    have hsI : (s.size : Int) ≤ 1057 := by omega
    clear h0
    go_enter Tryz.func11, Tryz.ntmps11
    go_wp2
    go_ret
    exact ⟨rfl, rfl⟩
  · have hd : decide ((41 : Int) - (s.size : Int) ≤ 0) = false := decide_eq_false (by omega)
    obtain ⟨r, hr⟩ : ∃ r : Nat, r + s.size = 41 := ⟨41 - s.size, by omega⟩
    have hrI : (41 : Int) - (s.size : Int) = (r : Int) := by omega
    have hr1 : (r : Int) ≤ 1057 := by omega
    have hr0 : decide ((r : Int) ≤ 0) = false := decide_eq_false (by omega)
    have hrt : ((r : Int)).toNat = r := by simp
    by_cases hp : r < p.size
    · have hd2 : decide ((r : Int) < (p.size : Int)) = true := decide_eq_true (by omega)
      have hd3 : (r : Int) ≤ (p.size : Int) := by omega
      have hsz : Bx (s.size + (p.extract 0 r).size ≤ 100000) := Bx.mk (by rw [ByteArray.size_extract]; omega)
      refine ⟨s ++ p.extract 0 r, by rw [ByteArray.size_append, ByteArray.size_extract]; omega, fun w => ?_⟩
      go_enter Tryz.func11, Tryz.ntmps11
      go_wp2_with (first | (refine wpList_add_bytes rfl (.tmp 23) (.tmp 24) (by rfl) s (p.extract 0 r) (by rfl) (by rfl) hsz.out ?_))
      go_ret
      exact ⟨rfl, rfl⟩
    · have hd2 : decide ((r : Int) < (p.size : Int)) = false := decide_eq_false (by omega)
      have hsz : Bx (s.size + p.size ≤ 100000) := Bx.mk (by omega)
      refine ⟨s ++ p, by rw [ByteArray.size_append]; omega, fun w => ?_⟩
      go_enter Tryz.func11, Tryz.ntmps11
      go_wp2_with (first | (refine wpList_add_bytes rfl (.tmp 23) (.tmp 24) (by rfl) s p (by rfl) (by rfl) hsz.out ?_))
      go_ret
      exact ⟨rfl, rfl⟩
set_option maxHeartbeats 2000000 in
theorem whole_40 (s p : ByteArray) (hs : s.size ≤ 1057) : ∃ r : ByteArray, ∀ w, Calls Tryz.prog 12 #[.string s, .string p, I 40] w fun e w' => e = .returned (.string r) ∧ w = w' := by
  cases hb : (s.toList == [])
  · obtain ⟨r, -, hl⟩ := lengthen_40 s p hs
    refine ⟨r, fun w => ?_⟩
    replace hl := Bx.mk (hl w)
    go_enter Tryz.func12, Tryz.ntmps12
    go_wp2_with (first | (go_at_call 11; refine hl.out.mono ?_; clear hl; rintro e w' ⟨rfl, rfl⟩))
    go_ret
    exact ⟨rfl, rfl⟩
  · refine ⟨p, fun w => ?_⟩
    go_enter Tryz.func12, Tryz.ntmps12
    go_wp2_with fail
    go_ret
    exact ⟨rfl, rfl⟩

set_option maxHeartbeats 2000000 in
theorem lengthen_1056 (s p : ByteArray) (hs : s.size ≤ 1057) : ∃ r : ByteArray, r.size ≤ 1057 ∧ ∀ w, Calls Tryz.prog 11 #[.string s, .string p, I 1056] w fun e w' => e = .returned (.string r) ∧ w = w' := by
  by_cases h0 : 1057 ≤ s.size
  · refine ⟨s, hs, fun w => ?_⟩
    have hd : decide ((1057 : Int) - (s.size : Int) ≤ 0) = true := decide_eq_true (by omega)
    have hsI : (s.size : Int) ≤ 1057 := by omega
    clear h0
    go_enter Tryz.func11, Tryz.ntmps11
    go_wp2
    go_ret
    exact ⟨rfl, rfl⟩
  · have hd : decide ((1057 : Int) - (s.size : Int) ≤ 0) = false := decide_eq_false (by omega)
    obtain ⟨r, hr⟩ : ∃ r : Nat, r + s.size = 1057 := ⟨1057 - s.size, by omega⟩
    have hrI : (1057 : Int) - (s.size : Int) = (r : Int) := by omega
    have hr1 : (r : Int) ≤ 1057 := by omega
    have hr0 : decide ((r : Int) ≤ 0) = false := decide_eq_false (by omega)
    have hrt : ((r : Int)).toNat = r := by simp
    by_cases hp : r < p.size
    · have hd2 : decide ((r : Int) < (p.size : Int)) = true := decide_eq_true (by omega)
      have hd3 : (r : Int) ≤ (p.size : Int) := by omega
      have hsz : Bx (s.size + (p.extract 0 r).size ≤ 100000) := Bx.mk (by rw [ByteArray.size_extract]; omega)
      refine ⟨s ++ p.extract 0 r, by rw [ByteArray.size_append, ByteArray.size_extract]; omega, fun w => ?_⟩
      go_enter Tryz.func11, Tryz.ntmps11
      go_wp2_with (first | (refine wpList_add_bytes rfl (.tmp 23) (.tmp 24) (by rfl) s (p.extract 0 r) (by rfl) (by rfl) hsz.out ?_))
      go_ret
      exact ⟨rfl, rfl⟩
    · have hd2 : decide ((r : Int) < (p.size : Int)) = false := decide_eq_false (by omega)
      have hsz : Bx (s.size + p.size ≤ 100000) := Bx.mk (by omega)
      refine ⟨s ++ p, by rw [ByteArray.size_append]; omega, fun w => ?_⟩
      go_enter Tryz.func11, Tryz.ntmps11
      go_wp2_with (first | (refine wpList_add_bytes rfl (.tmp 23) (.tmp 24) (by rfl) s p (by rfl) (by rfl) hsz.out ?_))
      go_ret
      exact ⟨rfl, rfl⟩
set_option maxHeartbeats 2000000 in
theorem whole_1056 (s p : ByteArray) (hs : s.size ≤ 1057) : ∃ r : ByteArray, ∀ w, Calls Tryz.prog 12 #[.string s, .string p, I 1056] w fun e w' => e = .returned (.string r) ∧ w = w' := by
  cases hb : (s.toList == [])
  · obtain ⟨r, -, hl⟩ := lengthen_1056 s p hs
    refine ⟨r, fun w => ?_⟩
    replace hl := Bx.mk (hl w)
    go_enter Tryz.func12, Tryz.ntmps12
    go_wp2_with (first | (go_at_call 11; refine hl.out.mono ?_; clear hl; rintro e w' ⟨rfl, rfl⟩))
    go_ret
    exact ⟨rfl, rfl⟩
  · refine ⟨p, fun w => ?_⟩
    go_enter Tryz.func12, Tryz.ntmps12
    go_wp2_with fail
    go_ret
    exact ⟨rfl, rfl⟩

/-- What the law asks of an op besides. -/
structure PlF (kd a b n : Int) (T T' : Tx) (last : ByteArray) : Prop where
  set : kd = 2 → n = 0 → ∀ k : Nat, k < 24 → T' k = if (k : Int) = a then last else T k
  ed : kd = 3 → n = edP a b ∧ T' = edX a b T
  cp : kd = 4 → n = cpP T a b ∧ T' = cpX a b T
def PlayP (w : World) (ρ : Nat → Nat) (D : Ad) (T : Tx) (kd a b : Int) : Ending → World → Prop := fun e w' => ∃ n, e = .returned (.tuple #[.bool true, I n]) ∧ (∃ ρ', Ext w ρ ρ' ∧ ∃ T' past' next' d', WS w' ρ' D T' past' next' d' ∧ PlF kd a b n T T' d'.last) ∧ Fr (fun k => ρ k ≠ 0) w w'
section
variable {w w' w1 : World} {ρ ρ' ρ1 ρ0 : Nat → Nat} {D : Ad} {T T' : Tx} {past next past' next' : List Tx} {d d' : Dk} {va vp vn : Value} {kw : Nat}
theorem plf_other {kd a b n : Int} {last : ByteArray} (h2 : kd ≠ 2) (h3 : kd ≠ 3) (h4 : kd ≠ 4) : PlF kd a b n T T' last := ⟨fun e => absurd e h2, fun e => absurd e h3, fun e => absurd e h4⟩
/-- From a step behind the boxing. -/
theorem play_of {kd a b n : Int} {Q : World → (Nat → Nat) → Prop} {e : Ending} {w2 : World} (f : Fr (fun k => ρ k ≠ 0) w w1) (hx : Ext w ρ ρ0) (h : St w1 ρ0 (.returned (.tuple #[.bool true, I n])) Q e w2) (hQ : ∀ w' ρ', Q w' ρ' → ∃ T' past' next' d', WS w' ρ' D T' past' next' d' ∧ PlF kd a b n T T' d'.last) : PlayP w ρ D T kd a b e w2 := by
  obtain ⟨he, ⟨ρ2, hx2, hq⟩, hf⟩ := h
  exact ⟨n, he, ⟨ρ2, hx.trans hx2 f.size, hQ _ _ hq⟩, Fr.col (P := fun n => n ≠ 0) f hx hf⟩
theorem cmd_set {s : ByteArray} {a b : Int} {w' : World} (h : (setP a s ≠ 0 ∧ WS w' ρ' D T past next { d with last := s }) ∨ (setP a s = 0 ∧ WS w' ρ' D (setT a s T) past' next' { d with last := s })) : ∃ T' past' next' d', WS w' ρ' D T' past' next' d' ∧ PlF 2 a b (setP a s) T T' d'.last := by
  rcases h with ⟨hn, h⟩ | ⟨hn, h⟩
  · exact ⟨_, _, _, _, h, fun _ e => absurd e hn, fun e => (by cases e), fun e => (by cases e)⟩
  · refine ⟨_, _, _, _, h, fun _ _ k hk => ?_, fun e => (by cases e), fun e => (by cases e)⟩
    have hp := setP_size hn
    unfold setT
    rw [if_pos hn]
    show upd T a.toNat s k = if (k : Int) = a then s else T k
    unfold upd
    by_cases e : k = a.toNat
    · rw [if_pos e, if_pos (by omega)]
    · rw [if_neg e, if_neg (by omega)]
theorem edX_bad {a b : Int} (h : edP a b ≠ 0) : edX a b T = T := by
  unfold edP at h; unfold edX
  split at h
  · exact absurd rfl h
  · rename_i hk; rw [if_neg hk]
theorem cpX_bad {a b : Int} (h : cpP T a b ≠ 0) : cpX a b T = T := by unfold cpX; rw [if_neg h]
theorem cmd_ed {a b : Int} {w' : World} (h : (edP a b ≠ 0 ∧ WS w' ρ' D T past next d) ∨ (edP a b = 0 ∧ WS w' ρ' D (edX a b T) past' next' d)) : ∃ T' past' next' d', WS w' ρ' D T' past' next' d' ∧ PlF 3 a b (edP a b) T T' d'.last := by
  rcases h with ⟨hn, h⟩ | ⟨hn, h⟩
  · exact ⟨_, _, _, _, h, fun e => (by cases e), fun _ => ⟨rfl, (edX_bad hn).symm⟩, fun e => (by cases e)⟩
  · exact ⟨_, _, _, _, h, fun e => (by cases e), fun _ => ⟨rfl, rfl⟩, fun e => (by cases e)⟩
theorem cmd_cp {a b : Int} {w' : World} (h : (cpP T a b ≠ 0 ∧ WS w' ρ' D T past next d) ∨ (cpP T a b = 0 ∧ WS w' ρ' D (cpX a b T) past' next' d)) : ∃ T' past' next' d', WS w' ρ' D T' past' next' d' ∧ PlF 4 a b (cpP T a b) T T' d'.last := by
  rcases h with ⟨hn, h⟩ | ⟨hn, h⟩
  · exact ⟨_, _, _, _, h, fun e => (by cases e), fun e => (by cases e), fun _ => ⟨rfl, (cpX_bad hn).symm⟩⟩
  · exact ⟨_, _, _, _, h, fun e => (by cases e), fun e => (by cases e), fun _ => ⟨rfl, rfl⟩⟩
theorem play_run {kd a b n : Int} {e : Ending} {w2 : World} (f : Fr (fun k => ρ k ≠ 0) w w1) (hx : Ext w ρ ρ0) (h2 : kd ≠ 2) (h3 : kd ≠ 3) (h4 : kd ≠ 4) (h : RunP w1 ρ0 D d n e w2) : PlayP w ρ D T kd a b e w2 :=
  play_of f hx h (fun w' ρ' ⟨T', p', n', hw⟩ => ⟨T', p', n', d, hw, plf_other h2 h3 h4⟩)
theorem play_same {kd a b : Int} {w2 : World} (f : Fr (fun k => ρ k ≠ 0) w w2) (hx : Ext w ρ ρ0) (h2 : kd ≠ 2) (h3 : kd ≠ 3) (h4 : kd ≠ 4) (h : WS w2 ρ0 D T past next d) : PlayP w ρ D T kd a b (.returned (.tuple #[.bool true, I 0])) w2 :=
  ⟨0, rfl, ⟨ρ0, hx, _, _, _, _, h, plf_other h2 h3 h4⟩, f⟩
theorem WS.setText (h : WS w ρ D T past next d) (s : ByteArray) (hs : s.size ≤ 1057) : WS (w.setCell ⟨D.dk, 0, none⟩ (.string s)) ρ D T past next { d with text := s } ∧ ρ D.dk = 7 := by
  obtain ⟨va, vp, vn, hd⟩ := h.ds
  exact ⟨⟨h.bk.dk hd.co 0 _, h.bm.dk hd.co 0 _, _, _, _, hd.setText s hs⟩, hd.co⟩
theorem WS.setSave (h : WS w ρ D T past next d) (hs : Sn w ρ (sl kw 24 24) T) : WS ((w.setCell ⟨D.dk, 1, none⟩ (.string (bs (savFrom T 0)))).setCell ⟨D.dk, 2, none⟩ (sl kw 24 24)) ρ D T past next { d with saved := bs (savFrom T 0), at_ := T } ∧ ρ D.dk = 7 := by
  obtain ⟨va, vp, vn, hd⟩ := h.ds
  have hT : TxO T := by obtain ⟨vp', vn', hb⟩ := h.bm; exact hb.by'.tx
  refine ⟨⟨(h.bk.dk hd.co 1 _).dk hd.co 2 _, (h.bm.dk hd.co 1 _).dk hd.co 2 _, sl kw 24 24, vp, vn, ?_⟩, hd.co⟩
  have hs2 : Sn ((w.setCell ⟨D.dk, 1, none⟩ (.string (bs (savFrom T 0)))).setCell ⟨D.dk, 2, none⟩ (sl kw 24 24)) ρ (sl kw 24 24) T := (hs.fr (fr_dk hd.co 1 _) (fun k hk e => by simp only [Cq] at e; omega) (Ext.refl _ _)).fr (fr_dk hd.co 2 _) (fun k hk e => by simp only [Cq] at e; omega) (Ext.refl _ _)
  exact ⟨((hd.ls.set 1 _).set 2 _).congr (dk6 ⟨rfl, rfl, rfl, rfl, rfl, rfl⟩), hd.co, .inr hs2, (hd.pt.dk (by decide) hd.co 1 _).dk (by decide) hd.co 2 _, (hd.nt.dk (by decide) hd.co 1 _).dk (by decide) hd.co 2 _, rfl, hT, hd.rg⟩
theorem WS.cells (h : WS w ρ D T past next d) : w.cell? ⟨D.dk, 0, none⟩ = some (.string d.text) ∧ w.cell? ⟨D.dk, 1, none⟩ = some (.string d.saved) ∧ D.dk < w.heap.size ∧ (∀ i, w.frozen? ⟨D.dk, i, none⟩ = false) ∧ (∃ v, w.cell? ⟨D.dk, 2, none⟩ = some v) ∧ d.text.size ≤ 1057 ∧ ρ D.dk = 7 := by
  obtain ⟨va, vp, vn, hd⟩ := h.ds
  obtain ⟨c0, c1, c2, c3, c4, c5, hl, hz⟩ := hd.cells
  exact ⟨c0, c1, hl, hz, ⟨_, c2⟩, hd.rg, hd.co⟩

set_option maxHeartbeats 16000000 in
theorem play_edit (a b c : Int) (S1 T1 : ByteArray) (w : World) (h : WS w ρ D T past next d) (hs : Sn w ρ (sl kw 24 24) T) : Calls Tryz.prog 29 #[pt D.R.bk, pt D.mb, pt D.dk, .agg (opA 3 a b c S1 T1), sl kw 24 24] w (PlayP w ρ D T 3 a b) := by
  have hop := op_new w 3 a b c S1 T1 rfl
  have hfa : Fr S0 w (w.alloc (.cells (opA 3 a b c S1 T1) 30)) := (Fr.refl S0 w).alloc _
  have hx0 : Bx (Ext w ρ (ext ρ w.heap.size w.heap.size 0)) := ⟨ext_Ext _ _ _ _⟩
  have hg0 : Bx (ext ρ w.heap.size w.heap.size 0 w.heap.size = 0) := ⟨ext_new (Nat.le_refl _)⟩
  have hW := h.fr0x hfa hx0.out
  have hs0 := hs.fr hfa (fun _ _ e => e) hx0.out
  have hf0 : Bx (Fr (fun k => ρ k ≠ 0) w (w.alloc (.cells (opA 3 a b c S1 T1) 30))) := ⟨hfa.up⟩
  clear h hs hfa
  generalize hρ0 : ext ρ w.heap.size w.heap.size 0 = ρ0 at *
  clear hρ0
  obtain ⟨q0, q1, q2, q3, q4, q5, hgl⟩ := hop.op6
  obtain ⟨c0, c1, hl, hz, ⟨va, c2⟩, hrg, hco⟩ := hW.cells
  have hne : ¬ D.dk = w.heap.size := fun e => by rw [e] at hco; have := hg0.out; omega
  have hne2 : ¬ w.heap.size = D.dk := fun e => hne e.symm
  have hC := Bx.mk (command_edit a b c S1 T1 es _ hW hs0 (fun w1 H u r hb => bkEdit_any a b w1 hb) (fun w1 ρ1 hb => bmEdit_any a b w1 hb))
  clear hz hrg hco hW hs0 hop
  go_enter Tryz.func29, Tryz.ntmps29
  go_wp2_with (first
    | (go_at_call 59; refine hC.out.mono ?_; clear hC; rintro e w1 ⟨rfl, hq, hf1⟩; replace hq := Bx.mk hq; replace hf1 := Bx.mk hf1))
  go_ret2
  exact play_of hf0.out hx0.out ⟨rfl, hq.out, hf1.out⟩ (fun w' ρ' h => cmd_ed h)

set_option maxHeartbeats 16000000 in
theorem play_copy (a b c : Int) (S1 T1 : ByteArray) (w : World) (h : WS w ρ D T past next d) (hs : Sn w ρ (sl kw 24 24) T) : Calls Tryz.prog 29 #[pt D.R.bk, pt D.mb, pt D.dk, .agg (opA 4 a b c S1 T1), sl kw 24 24] w (PlayP w ρ D T 4 a b) := by
  have hop := op_new w 4 a b c S1 T1 rfl
  have hfa : Fr S0 w (w.alloc (.cells (opA 4 a b c S1 T1) 30)) := (Fr.refl S0 w).alloc _
  have hx0 : Bx (Ext w ρ (ext ρ w.heap.size w.heap.size 0)) := ⟨ext_Ext _ _ _ _⟩
  have hg0 : Bx (ext ρ w.heap.size w.heap.size 0 w.heap.size = 0) := ⟨ext_new (Nat.le_refl _)⟩
  have hW := h.fr0x hfa hx0.out
  have hs0 := hs.fr hfa (fun _ _ e => e) hx0.out
  have hf0 : Bx (Fr (fun k => ρ k ≠ 0) w (w.alloc (.cells (opA 4 a b c S1 T1) 30))) := ⟨hfa.up⟩
  clear h hs hfa
  generalize hρ0 : ext ρ w.heap.size w.heap.size 0 = ρ0 at *
  clear hρ0
  obtain ⟨q0, q1, q2, q3, q4, q5, hgl⟩ := hop.op6
  obtain ⟨c0, c1, hl, hz, ⟨va, c2⟩, hrg, hco⟩ := hW.cells
  have hne : ¬ D.dk = w.heap.size := fun e => by rw [e] at hco; have := hg0.out; omega
  have hne2 : ¬ w.heap.size = D.dk := fun e => hne e.symm
  have hC := Bx.mk (command_copy a b c S1 T1 es _ hW hs0 (fun w1 H u r hb => bkCopy_any a b w1 hb) (fun w1 ρ1 hb => bmCopy_any a b w1 hb))
  clear hz hrg hco hW hs0 hop
  go_enter Tryz.func29, Tryz.ntmps29
  go_wp2_with (first
    | (go_at_call 59; refine hC.out.mono ?_; clear hC; rintro e w1 ⟨rfl, hq, hf1⟩; replace hq := Bx.mk hq; replace hf1 := Bx.mk hf1))
  go_ret2
  exact play_of hf0.out hx0.out ⟨rfl, hq.out, hf1.out⟩ (fun w' ρ' h => cmd_cp h)

set_option maxHeartbeats 16000000 in
theorem play_undo (a b c : Int) (S1 T1 : ByteArray) (w : World) (h : WS w ρ D T past next d) (hs : Sn w ρ (sl kw 24 24) T) : Calls Tryz.prog 29 #[pt D.R.bk, pt D.mb, pt D.dk, .agg (opA 5 a b c S1 T1), sl kw 24 24] w (PlayP w ρ D T 5 a b) := by
  have hop := op_new w 5 a b c S1 T1 rfl
  have hfa : Fr S0 w (w.alloc (.cells (opA 5 a b c S1 T1) 30)) := (Fr.refl S0 w).alloc _
  have hx0 : Bx (Ext w ρ (ext ρ w.heap.size w.heap.size 0)) := ⟨ext_Ext _ _ _ _⟩
  have hg0 : Bx (ext ρ w.heap.size w.heap.size 0 w.heap.size = 0) := ⟨ext_new (Nat.le_refl _)⟩
  have hW := h.fr0x hfa hx0.out
  have hs0 := hs.fr hfa (fun _ _ e => e) hx0.out
  have hf0 : Bx (Fr (fun k => ρ k ≠ 0) w (w.alloc (.cells (opA 5 a b c S1 T1) 30))) := ⟨hfa.up⟩
  clear h hs hfa
  generalize hρ0 : ext ρ w.heap.size w.heap.size 0 = ρ0 at *
  clear hρ0
  obtain ⟨q0, q1, q2, q3, q4, q5, hgl⟩ := hop.op6
  obtain ⟨c0, c1, hl, hz, ⟨va, c2⟩, hrg, hco⟩ := hW.cells
  have hne : ¬ D.dk = w.heap.size := fun e => by rw [e] at hco; have := hg0.out; omega
  have hne2 : ¬ w.heap.size = D.dk := fun e => hne e.symm
  have hC : Bx (∃ n, Calls Tryz.prog 60 #[pt D.R.bk, pt D.mb, pt D.dk, sl kw 24 24] (w.alloc (.cells (opA 5 a b c S1 T1) 30)) (RunP (w.alloc (.cells (opA 5 a b c S1 T1) 30)) ρ0 D d n)) := ⟨by
    rcases Nat.eq_zero_or_pos past.length with h0 | h0
    · exact ⟨11, back_zero _ hW h0⟩
    · exact ⟨0, back_some (u := past.length - 1) _ hW hs0 (by omega)⟩⟩
  obtain ⟨n, hC⟩ := hC.out
  replace hC := Bx.mk hC
  clear hz hrg hco hW hs0 hop
  go_enter Tryz.func29, Tryz.ntmps29
  go_wp2_with (first
    | (go_at_call 60; refine hC.out.mono ?_; clear hC; rintro e w1 ⟨rfl, hq, hf1⟩; replace hq := Bx.mk hq; replace hf1 := Bx.mk hf1))
  go_ret2
  exact play_run (n := n) hf0.out hx0.out (by decide) (by decide) (by decide) ⟨rfl, hq.out, hf1.out⟩

set_option maxHeartbeats 16000000 in
theorem play_redo (a b c : Int) (S1 T1 : ByteArray) (w : World) (h : WS w ρ D T past next d) (hs : Sn w ρ (sl kw 24 24) T) : Calls Tryz.prog 29 #[pt D.R.bk, pt D.mb, pt D.dk, .agg (opA 6 a b c S1 T1), sl kw 24 24] w (PlayP w ρ D T 6 a b) := by
  have hop := op_new w 6 a b c S1 T1 rfl
  have hfa : Fr S0 w (w.alloc (.cells (opA 6 a b c S1 T1) 30)) := (Fr.refl S0 w).alloc _
  have hx0 : Bx (Ext w ρ (ext ρ w.heap.size w.heap.size 0)) := ⟨ext_Ext _ _ _ _⟩
  have hg0 : Bx (ext ρ w.heap.size w.heap.size 0 w.heap.size = 0) := ⟨ext_new (Nat.le_refl _)⟩
  have hW := h.fr0x hfa hx0.out
  have hs0 := hs.fr hfa (fun _ _ e => e) hx0.out
  have hf0 : Bx (Fr (fun k => ρ k ≠ 0) w (w.alloc (.cells (opA 6 a b c S1 T1) 30))) := ⟨hfa.up⟩
  clear h hs hfa
  generalize hρ0 : ext ρ w.heap.size w.heap.size 0 = ρ0 at *
  clear hρ0
  obtain ⟨q0, q1, q2, q3, q4, q5, hgl⟩ := hop.op6
  obtain ⟨c0, c1, hl, hz, ⟨va, c2⟩, hrg, hco⟩ := hW.cells
  have hne : ¬ D.dk = w.heap.size := fun e => by rw [e] at hco; have := hg0.out; omega
  have hne2 : ¬ w.heap.size = D.dk := fun e => hne e.symm
  have hC : Bx (∃ n, Calls Tryz.prog 61 #[pt D.R.bk, pt D.mb, pt D.dk, sl kw 24 24] (w.alloc (.cells (opA 6 a b c S1 T1) 30)) (RunP (w.alloc (.cells (opA 6 a b c S1 T1) 30)) ρ0 D d n)) := ⟨by
    rcases Nat.eq_zero_or_pos next.length with h0 | h0
    · exact ⟨11, forth_zero _ hW h0⟩
    · exact ⟨0, forth_some (u := next.length - 1) _ hW hs0 (by omega)⟩⟩
  obtain ⟨n, hC⟩ := hC.out
  replace hC := Bx.mk hC
  clear hz hrg hco hW hs0 hop
  go_enter Tryz.func29, Tryz.ntmps29
  go_wp2_with (first
    | (go_at_call 61; refine hC.out.mono ?_; clear hC; rintro e w1 ⟨rfl, hq, hf1⟩; replace hq := Bx.mk hq; replace hf1 := Bx.mk hf1))
  go_ret2
  exact play_run (n := n) hf0.out hx0.out (by decide) (by decide) (by decide) ⟨rfl, hq.out, hf1.out⟩

set_option maxHeartbeats 16000000 in
theorem play_again (a b c : Int) (S1 T1 : ByteArray) (w : World) (h : WS w ρ D T past next d) (hs : Sn w ρ (sl kw 24 24) T) : Calls Tryz.prog 29 #[pt D.R.bk, pt D.mb, pt D.dk, .agg (opA 9 a b c S1 T1), sl kw 24 24] w (PlayP w ρ D T 9 a b) := by
  have hop := op_new w 9 a b c S1 T1 rfl
  have hfa : Fr S0 w (w.alloc (.cells (opA 9 a b c S1 T1) 30)) := (Fr.refl S0 w).alloc _
  have hx0 : Bx (Ext w ρ (ext ρ w.heap.size w.heap.size 0)) := ⟨ext_Ext _ _ _ _⟩
  have hg0 : Bx (ext ρ w.heap.size w.heap.size 0 w.heap.size = 0) := ⟨ext_new (Nat.le_refl _)⟩
  have hW := h.fr0x hfa hx0.out
  have hs0 := hs.fr hfa (fun _ _ e => e) hx0.out
  have hf0 : Bx (Fr (fun k => ρ k ≠ 0) w (w.alloc (.cells (opA 9 a b c S1 T1) 30))) := ⟨hfa.up⟩
  clear h hs hfa
  generalize hρ0 : ext ρ w.heap.size w.heap.size 0 = ρ0 at *
  clear hρ0
  obtain ⟨q0, q1, q2, q3, q4, q5, hgl⟩ := hop.op6
  obtain ⟨c0, c1, hl, hz, ⟨va, c2⟩, hrg, hco⟩ := hW.cells
  have hne : ¬ D.dk = w.heap.size := fun e => by rw [e] at hco; have := hg0.out; omega
  have hne2 : ¬ w.heap.size = D.dk := fun e => hne e.symm
  have hC := Bx.mk (loadedAgain_any _ hW)
  clear hz hrg hco hW hs0 hop
  go_enter Tryz.func29, Tryz.ntmps29
  go_wp2_with (first
    | (go_at_call 62; refine hC.out.mono ?_; clear hC; rintro e w1 ⟨rfl, hq, hf1⟩; replace hq := Bx.mk hq; replace hf1 := Bx.mk hf1))
  go_ret2
  exact play_run (n := 0) hf0.out hx0.out (by decide) (by decide) (by decide) ⟨rfl, hq.out, hf1.out⟩

set_option maxHeartbeats 16000000 in
theorem play_raw (a b c : Int) (S1 T1 : ByteArray) (w : World) (h : WS w ρ D T past next d) (hs : Sn w ρ (sl kw 24 24) T) : Calls Tryz.prog 29 #[pt D.R.bk, pt D.mb, pt D.dk, .agg (opA 10 a b c S1 T1), sl kw 24 24] w (PlayP w ρ D T 10 a b) := by
  have hop := op_new w 10 a b c S1 T1 rfl
  have hfa : Fr S0 w (w.alloc (.cells (opA 10 a b c S1 T1) 30)) := (Fr.refl S0 w).alloc _
  have hx0 : Bx (Ext w ρ (ext ρ w.heap.size w.heap.size 0)) := ⟨ext_Ext _ _ _ _⟩
  have hg0 : Bx (ext ρ w.heap.size w.heap.size 0 w.heap.size = 0) := ⟨ext_new (Nat.le_refl _)⟩
  have hW := h.fr0x hfa hx0.out
  have hs0 := hs.fr hfa (fun _ _ e => e) hx0.out
  have hf0 : Bx (Fr (fun k => ρ k ≠ 0) w (w.alloc (.cells (opA 10 a b c S1 T1) 30))) := ⟨hfa.up⟩
  clear h hs hfa
  generalize hρ0 : ext ρ w.heap.size w.heap.size 0 = ρ0 at *
  clear hρ0
  obtain ⟨q0, q1, q2, q3, q4, q5, hgl⟩ := hop.op6
  obtain ⟨c0, c1, hl, hz, ⟨va, c2⟩, hrg, hco⟩ := hW.cells
  have hne : ¬ D.dk = w.heap.size := fun e => by rw [e] at hco; have := hg0.out; omega
  have hne2 : ¬ w.heap.size = D.dk := fun e => hne e.symm
  have hC := Bx.mk (sameRaw_any a _ hW)
  replace hW := Bx.mk hW
  clear hz hrg hco hs0 hop
  go_enter Tryz.func29, Tryz.ntmps29
  go_wp2_with (first
    | (go_at_call 53; refine hC.out.mono ?_; clear hC; rintro e _ ⟨rfl, rfl⟩))
  go_ret2
  exact play_same hf0.out hx0.out (by decide) (by decide) (by decide) hW.out

set_option maxHeartbeats 16000000 in
theorem play_value (a b c : Int) (S1 T1 : ByteArray) (w : World) (h : WS w ρ D T past next d) (hs : Sn w ρ (sl kw 24 24) T) : Calls Tryz.prog 29 #[pt D.R.bk, pt D.mb, pt D.dk, .agg (opA 11 a b c S1 T1), sl kw 24 24] w (PlayP w ρ D T 11 a b) := by
  have hop := op_new w 11 a b c S1 T1 rfl
  have hfa : Fr S0 w (w.alloc (.cells (opA 11 a b c S1 T1) 30)) := (Fr.refl S0 w).alloc _
  have hx0 : Bx (Ext w ρ (ext ρ w.heap.size w.heap.size 0)) := ⟨ext_Ext _ _ _ _⟩
  have hg0 : Bx (ext ρ w.heap.size w.heap.size 0 w.heap.size = 0) := ⟨ext_new (Nat.le_refl _)⟩
  have hW := h.fr0x hfa hx0.out
  have hs0 := hs.fr hfa (fun _ _ e => e) hx0.out
  have hf0 : Bx (Fr (fun k => ρ k ≠ 0) w (w.alloc (.cells (opA 11 a b c S1 T1) 30))) := ⟨hfa.up⟩
  clear h hs hfa
  generalize hρ0 : ext ρ w.heap.size w.heap.size 0 = ρ0 at *
  clear hρ0
  obtain ⟨q0, q1, q2, q3, q4, q5, hgl⟩ := hop.op6
  obtain ⟨c0, c1, hl, hz, ⟨va, c2⟩, hrg, hco⟩ := hW.cells
  have hne : ¬ D.dk = w.heap.size := fun e => by rw [e] at hco; have := hg0.out; omega
  have hne2 : ¬ w.heap.size = D.dk := fun e => hne e.symm
  have hC := Bx.mk (sameValue_any a _ hW)
  replace hW := Bx.mk hW
  clear hz hrg hco hs0 hop
  go_enter Tryz.func29, Tryz.ntmps29
  go_wp2_with (first
    | (go_at_call 54; refine hC.out.mono ?_; clear hC; rintro e w1 ⟨rfl, hf1⟩; replace hf1 := Bx.mk hf1))
  go_ret2
  exact play_same (hf0.out.trans hf1.out.up) hx0.out (by decide) (by decide) (by decide) (hW.out.fr0 hf1.out)

set_option maxHeartbeats 16000000 in
theorem play_undos (a b c : Int) (S1 T1 : ByteArray) (w : World) (h : WS w ρ D T past next d) (hs : Sn w ρ (sl kw 24 24) T) : Calls Tryz.prog 29 #[pt D.R.bk, pt D.mb, pt D.dk, .agg (opA 12 a b c S1 T1), sl kw 24 24] w (PlayP w ρ D T 12 a b) := by
  have hop := op_new w 12 a b c S1 T1 rfl
  have hfa : Fr S0 w (w.alloc (.cells (opA 12 a b c S1 T1) 30)) := (Fr.refl S0 w).alloc _
  have hx0 : Bx (Ext w ρ (ext ρ w.heap.size w.heap.size 0)) := ⟨ext_Ext _ _ _ _⟩
  have hg0 : Bx (ext ρ w.heap.size w.heap.size 0 w.heap.size = 0) := ⟨ext_new (Nat.le_refl _)⟩
  have hW := h.fr0x hfa hx0.out
  have hs0 := hs.fr hfa (fun _ _ e => e) hx0.out
  have hf0 : Bx (Fr (fun k => ρ k ≠ 0) w (w.alloc (.cells (opA 12 a b c S1 T1) 30))) := ⟨hfa.up⟩
  clear h hs hfa
  generalize hρ0 : ext ρ w.heap.size w.heap.size 0 = ρ0 at *
  clear hρ0
  obtain ⟨q0, q1, q2, q3, q4, q5, hgl⟩ := hop.op6
  obtain ⟨c0, c1, hl, hz, ⟨va, c2⟩, hrg, hco⟩ := hW.cells
  have hne : ¬ D.dk = w.heap.size := fun e => by rw [e] at hco; have := hg0.out; omega
  have hne2 : ¬ w.heap.size = D.dk := fun e => hne e.symm
  have hC := Bx.mk (sameUndos_any _ hW)
  replace hW := Bx.mk hW
  clear hz hrg hco hs0 hop
  go_enter Tryz.func29, Tryz.ntmps29
  go_wp2_with (first
    | (go_at_call 55; refine hC.out.mono ?_; clear hC; rintro e _ ⟨rfl, rfl⟩))
  go_ret2
  exact play_same hf0.out hx0.out (by decide) (by decide) (by decide) hW.out

set_option maxHeartbeats 16000000 in
theorem play_redos (a b c : Int) (S1 T1 : ByteArray) (w : World) (h : WS w ρ D T past next d) (hs : Sn w ρ (sl kw 24 24) T) : Calls Tryz.prog 29 #[pt D.R.bk, pt D.mb, pt D.dk, .agg (opA 13 a b c S1 T1), sl kw 24 24] w (PlayP w ρ D T 13 a b) := by
  have hop := op_new w 13 a b c S1 T1 rfl
  have hfa : Fr S0 w (w.alloc (.cells (opA 13 a b c S1 T1) 30)) := (Fr.refl S0 w).alloc _
  have hx0 : Bx (Ext w ρ (ext ρ w.heap.size w.heap.size 0)) := ⟨ext_Ext _ _ _ _⟩
  have hg0 : Bx (ext ρ w.heap.size w.heap.size 0 w.heap.size = 0) := ⟨ext_new (Nat.le_refl _)⟩
  have hW := h.fr0x hfa hx0.out
  have hs0 := hs.fr hfa (fun _ _ e => e) hx0.out
  have hf0 : Bx (Fr (fun k => ρ k ≠ 0) w (w.alloc (.cells (opA 13 a b c S1 T1) 30))) := ⟨hfa.up⟩
  clear h hs hfa
  generalize hρ0 : ext ρ w.heap.size w.heap.size 0 = ρ0 at *
  clear hρ0
  obtain ⟨q0, q1, q2, q3, q4, q5, hgl⟩ := hop.op6
  obtain ⟨c0, c1, hl, hz, ⟨va, c2⟩, hrg, hco⟩ := hW.cells
  have hne : ¬ D.dk = w.heap.size := fun e => by rw [e] at hco; have := hg0.out; omega
  have hne2 : ¬ w.heap.size = D.dk := fun e => hne e.symm
  have hC := Bx.mk (sameRedos_any _ hW)
  replace hW := Bx.mk hW
  clear hz hrg hco hs0 hop
  go_enter Tryz.func29, Tryz.ntmps29
  go_wp2_with (first
    | (go_at_call 56; refine hC.out.mono ?_; clear hC; rintro e _ ⟨rfl, rfl⟩))
  go_ret2
  exact play_same hf0.out hx0.out (by decide) (by decide) (by decide) hW.out

set_option maxHeartbeats 16000000 in
theorem play_check (a b c : Int) (S1 T1 : ByteArray) (w : World) (h : WS w ρ D T past next d) (hs : Sn w ρ (sl kw 24 24) T) : Calls Tryz.prog 29 #[pt D.R.bk, pt D.mb, pt D.dk, .agg (opA 14 a b c S1 T1), sl kw 24 24] w (PlayP w ρ D T 14 a b) := by
  have hop := op_new w 14 a b c S1 T1 rfl
  have hfa : Fr S0 w (w.alloc (.cells (opA 14 a b c S1 T1) 30)) := (Fr.refl S0 w).alloc _
  have hx0 : Bx (Ext w ρ (ext ρ w.heap.size w.heap.size 0)) := ⟨ext_Ext _ _ _ _⟩
  have hg0 : Bx (ext ρ w.heap.size w.heap.size 0 w.heap.size = 0) := ⟨ext_new (Nat.le_refl _)⟩
  have hW := h.fr0x hfa hx0.out
  have hs0 := hs.fr hfa (fun _ _ e => e) hx0.out
  have hf0 : Bx (Fr (fun k => ρ k ≠ 0) w (w.alloc (.cells (opA 14 a b c S1 T1) 30))) := ⟨hfa.up⟩
  clear h hs hfa
  generalize hρ0 : ext ρ w.heap.size w.heap.size 0 = ρ0 at *
  clear hρ0
  obtain ⟨q0, q1, q2, q3, q4, q5, hgl⟩ := hop.op6
  obtain ⟨c0, c1, hl, hz, ⟨va, c2⟩, hrg, hco⟩ := hW.cells
  have hne : ¬ D.dk = w.heap.size := fun e => by rw [e] at hco; have := hg0.out; omega
  have hne2 : ¬ w.heap.size = D.dk := fun e => hne e.symm
  have hC := Bx.mk (check58_any _ hW)
  replace hW := Bx.mk hW
  clear hz hrg hco hs0 hop
  go_enter Tryz.func29, Tryz.ntmps29
  go_wp2_with (first
    | (go_at_call 58; refine hC.out.mono ?_; clear hC; rintro e w1 ⟨rfl, hf1⟩; replace hf1 := Bx.mk hf1))
  go_ret2
  exact play_same (hf0.out.trans hf1.out.up) hx0.out (by decide) (by decide) (by decide) (hW.out.fr0 hf1.out)

set_option maxHeartbeats 16000000 in
theorem play_save (a b c : Int) (S1 T1 : ByteArray) (w : World) (h : WS w ρ D T past next d) (hs : Sn w ρ (sl kw 24 24) T) : Calls Tryz.prog 29 #[pt D.R.bk, pt D.mb, pt D.dk, .agg (opA 7 a b c S1 T1), sl kw 24 24] w (PlayP w ρ D T 7 a b) := by
  have hop := op_new w 7 a b c S1 T1 rfl
  have hfa : Fr S0 w (w.alloc (.cells (opA 7 a b c S1 T1) 30)) := (Fr.refl S0 w).alloc _
  have hx0 : Bx (Ext w ρ (ext ρ w.heap.size w.heap.size 0)) := ⟨ext_Ext _ _ _ _⟩
  have hg0 : Bx (ext ρ w.heap.size w.heap.size 0 w.heap.size = 0) := ⟨ext_new (Nat.le_refl _)⟩
  have hW := h.fr0x hfa hx0.out
  have hs0 := hs.fr hfa (fun _ _ e => e) hx0.out
  have hf0 : Bx (Fr (fun k => ρ k ≠ 0) w (w.alloc (.cells (opA 7 a b c S1 T1) 30))) := ⟨hfa.up⟩
  clear h hs hfa
  generalize hρ0 : ext ρ w.heap.size w.heap.size 0 = ρ0 at *
  clear hρ0
  obtain ⟨q0, q1, q2, q3, q4, q5, hgl⟩ := hop.op6
  obtain ⟨c0, c1, hl, hz, ⟨va, c2⟩, hrg, hco⟩ := hW.cells
  have hne : ¬ D.dk = w.heap.size := fun e => by rw [e] at hco; have := hg0.out; omega
  have hne2 : ¬ w.heap.size = D.dk := fun e => hne e.symm
  have hC := Bx.mk (sameSave_any _ hW)
  replace hs0 := Bx.mk hs0
  clear hz hrg hco hop hW
  go_enter Tryz.func29, Tryz.ntmps29
  go_wp2_with (first
    | (go_at_call 57; refine hC.out.mono ?_; clear hC; rintro e w1 ⟨rfl, hW1, hf1⟩; clear c0 c1 c2 hl q0 q1 q2 q3 q4 q5 hgl; obtain ⟨c0, c1, hl, hz, ⟨va', c2⟩, hrg, hco⟩ := hW1.cells; have z1 := hz 1; have z2 := hz 2; have hs1 := hs0.out.fr hf1 (fun k hk e => by omega) (Ext.refl _ _); have hW2 := Bx.mk (hW1.setSave hs1).1; replace hf1 := Bx.mk (fr_dkS (fr_dkS (Fr.col (P := fun n => n ≠ 0) hf0.out hx0.out (fr1 hf1)) hx0.out hco 1 (.string (bs (savFrom T 0)))) hx0.out hco 2 (sl kw 24 24)); clear hz hrg hco hW1 hs1))
  go_ret2
  exact ⟨0, rfl, ⟨ρ0, hx0.out, _, _, _, _, hW2.out, plf_other (by decide) (by decide) (by decide)⟩, hf1.out⟩

set_option maxHeartbeats 16000000 in
theorem play_text (a b c : Int) (S1 T1 : ByteArray) (w : World) (h : WS w ρ D T past next d) (hs : Sn w ρ (sl kw 24 24) T) : Calls Tryz.prog 29 #[pt D.R.bk, pt D.mb, pt D.dk, .agg (opA 1 a b c S1 T1), sl kw 24 24] w (PlayP w ρ D T 1 a b) := by
  have hop := op_new w 1 a b c S1 T1 rfl
  have hfa : Fr S0 w (w.alloc (.cells (opA 1 a b c S1 T1) 30)) := (Fr.refl S0 w).alloc _
  have hx0 : Bx (Ext w ρ (ext ρ w.heap.size w.heap.size 0)) := ⟨ext_Ext _ _ _ _⟩
  have hg0 : Bx (ext ρ w.heap.size w.heap.size 0 w.heap.size = 0) := ⟨ext_new (Nat.le_refl _)⟩
  have hW := h.fr0x hfa hx0.out
  have hs0 := hs.fr hfa (fun _ _ e => e) hx0.out
  have hf0 : Bx (Fr (fun k => ρ k ≠ 0) w (w.alloc (.cells (opA 1 a b c S1 T1) 30))) := ⟨hfa.up⟩
  clear h hs hfa
  generalize hρ0 : ext ρ w.heap.size w.heap.size 0 = ρ0 at *
  clear hρ0
  obtain ⟨q0, q1, q2, q3, q4, q5, hgl⟩ := hop.op6
  obtain ⟨c0, c1, hl, hz, ⟨va, c2⟩, hrg, hco⟩ := hW.cells
  have hne : ¬ D.dk = w.heap.size := fun e => by rw [e] at hco; have := hg0.out; omega
  have hne2 : ¬ w.heap.size = D.dk := fun e => hne e.symm
  obtain ⟨r, hr, hL⟩ := lengthen_1056 d.text S1 hrg
  replace hL := Bx.mk hL
  have hW2 := Bx.mk (hW.setText r hr).1
  have hf2 := Bx.mk (fr_dkS hf0.out hx0.out hco 0 (.string r))
  have z0 := hz 0
  generalize d.text = tx at c0 hL
  clear hz hrg hco hW hs0 hop
  go_enter Tryz.func29, Tryz.ntmps29
  go_upto_region 3 with fail
  refine region_cut (fun w' => Bx (Fr S0 ((w.alloc (.cells (opA 1 a b c S1 T1) 30)).setCell ⟨D.dk, 0, none⟩ (.string r)) w')) ?_
  apply Exists.intro
  apply And.intro
  · go_region_with (first | (go_at_call 11; refine (hL.out _).mono ?_; rintro e w2 ⟨rfl, rfl⟩))
    all_goals exact ⟨rfl, ⟨⟨rfl, rfl, rfl, Nat.le_refl _, fun _ _ _ => rfl⟩⟩⟩
  rintro w3 hf3
  replace hf3 := Bx.mk hf3
  go_wp2_with fail
  go_ret2
  exact ⟨0, rfl, ⟨ρ0, hx0.out, _, _, _, _, hW2.out.fr0 hf3.out.out, plf_other (by decide) (by decide) (by decide)⟩, hf2.out.trans hf3.out.out.up⟩

set_option maxHeartbeats 16000000 in
theorem play_set (a b c : Int) (S1 T1 : ByteArray) (w : World) (h : WS w ρ D T past next d) (hs : Sn w ρ (sl kw 24 24) T) : Calls Tryz.prog 29 #[pt D.R.bk, pt D.mb, pt D.dk, .agg (opA 2 a b c S1 T1), sl kw 24 24] w (PlayP w ρ D T 2 a b) := by
  have hop := op_new w 2 a b c S1 T1 rfl
  have hfa : Fr S0 w (w.alloc (.cells (opA 2 a b c S1 T1) 30)) := (Fr.refl S0 w).alloc _
  have hx0 : Bx (Ext w ρ (ext ρ w.heap.size w.heap.size 0)) := ⟨ext_Ext _ _ _ _⟩
  have hg0 : Bx (ext ρ w.heap.size w.heap.size 0 w.heap.size = 0) := ⟨ext_new (Nat.le_refl _)⟩
  have hW := h.fr0x hfa hx0.out
  have hs0 := hs.fr hfa (fun _ _ e => e) hx0.out
  have hf0 : Bx (Fr (fun k => ρ k ≠ 0) w (w.alloc (.cells (opA 2 a b c S1 T1) 30))) := ⟨hfa.up⟩
  clear h hs hfa
  generalize hρ0 : ext ρ w.heap.size w.heap.size 0 = ρ0 at *
  clear hρ0
  obtain ⟨q0, q1, q2, q3, q4, q5, hgl⟩ := hop.op6
  obtain ⟨c0, c1, hl, hz, ⟨va, c2⟩, hrg, hco⟩ := hW.cells
  have hne : ¬ D.dk = w.heap.size := fun e => by rw [e] at hco; have := hg0.out; omega
  have hne2 : ¬ w.heap.size = D.dk := fun e => hne e.symm
  obtain ⟨r, hL⟩ := whole_40 d.text S1 hrg
  replace hL := Bx.mk hL
  have z0 := hz 0
  have hne3 := hne
  replace hW := Bx.mk hW
  replace hs0 := Bx.mk hs0
  replace hco := Bx.mk hco
  replace hop := Bx.mk hop
  generalize htx : d.text = tx at c0 hL
  clear htx hz hrg
  go_enter Tryz.func29, Tryz.ntmps29
  go_wp2_with fail
  go_quiet (first | (go_at_call 12; exact (hL.out _).mono (fun e w' h => ⟨h.1, _, h.2.symm⟩)))
  have hdn : Bx (∀ n, Fr S0 (w.alloc (.cells (opA 2 a b c S1 T1) 30)) ((w.alloc (.cells (opA 2 a b c S1 T1) 30)).drewN n)) := ⟨fun n => (Fr.refl S0 _).drewN n⟩
  generalize hnq : (w.alloc (.cells (opA 2 a b c S1 T1) 30)).drewN _ = wn
  replace hdn : Bx (Fr S0 (w.alloc (.cells (opA 2 a b c S1 T1) 30)) wn) := ⟨hnq ▸ hdn.out _⟩
  clear hnq
  replace hW := Bx.mk (hW.out.fr0 hdn.out)
  replace hs0 := Bx.mk (hs0.out.fr hdn.out (fun _ _ e => e) (Ext.refl _ _))
  replace hop := Bx.mk (hdn.out.row0 hop.out)
  replace hf0 := Bx.mk (hf0.out.trans hdn.out.up)
  clear hdn c0 c1 c2 hl z0 q0 q1 q2 q3 q4 q5 hgl hL
  obtain ⟨c0, c1, hl, hz, ⟨va', c2⟩, hrg, hco2⟩ := hW.out.cells
  have z0 := hz 0
  have hop2 := (fr_dk hco.out 0 (.string es)).row hop.out (fun e => by simp only [Cq] at e; have := hg0.out; omega)
  obtain ⟨q0, q1, q2, q3, q4, q5, hgl⟩ := hop.out.op6
  have hW2 := (hW.out.setText es (by decide)).1
  have hs2 := hs0.out.fr (fr_dk hco.out 0 (.string es)) (fun k hk e => by simp only [Cq] at e; omega) (Ext.refl _ _)
  replace hf0 := Bx.mk (fr_dkS hf0.out hx0.out hco.out 0 (.string es))
  have hC := Bx.mk (command_set a b c S1 T1 r _ hW2 hs2 (fun w1 H u r1 hb => bkSet_any a r w1 hb) (fun w1 ρ1 hb => bmSet_any a r w1 hb))
  clear hz hrg hco2 hop2 hW2 hs2 hs0
  go_wp2_with (first
    | (go_at_call 59; refine hC.out.mono ?_; clear hC; rintro e w1 ⟨rfl, hq, hf1⟩; replace hq := Bx.mk hq; replace hf1 := Bx.mk hf1))
  go_ret2
  exact play_of hf0.out hx0.out ⟨rfl, hq.out, hf1.out⟩ (fun w' ρ' h => cmd_set (d := { d with text := es }) h)

set_option maxHeartbeats 16000000 in
theorem play_load (a b c : Int) (S1 T1 : ByteArray) (w : World) (h : WS w ρ D T past next d) (hs : Sn w ρ (sl kw 24 24) T) : Calls Tryz.prog 29 #[pt D.R.bk, pt D.mb, pt D.dk, .agg (opA 8 a b c S1 T1), sl kw 24 24] w (PlayP w ρ D T 8 a b) := by
  have hop := op_new w 8 a b c S1 T1 rfl
  have hfa : Fr S0 w (w.alloc (.cells (opA 8 a b c S1 T1) 30)) := (Fr.refl S0 w).alloc _
  have hx0 : Bx (Ext w ρ (ext ρ w.heap.size w.heap.size 0)) := ⟨ext_Ext _ _ _ _⟩
  have hg0 : Bx (ext ρ w.heap.size w.heap.size 0 w.heap.size = 0) := ⟨ext_new (Nat.le_refl _)⟩
  have hW := h.fr0x hfa hx0.out
  have hs0 := hs.fr hfa (fun _ _ e => e) hx0.out
  have hf0 : Bx (Fr (fun k => ρ k ≠ 0) w (w.alloc (.cells (opA 8 a b c S1 T1) 30))) := ⟨hfa.up⟩
  clear h hs hfa
  generalize hρ0 : ext ρ w.heap.size w.heap.size 0 = ρ0 at *
  clear hρ0
  obtain ⟨q0, q1, q2, q3, q4, q5, hgl⟩ := hop.op6
  obtain ⟨c0, c1, hl, hz, ⟨va, c2⟩, hrg, hco⟩ := hW.cells
  have hne : ¬ D.dk = w.heap.size := fun e => by rw [e] at hco; have := hg0.out; omega
  have hne2 : ¬ w.heap.size = D.dk := fun e => hne e.symm
  obtain ⟨r, hL⟩ := whole_1056 d.text S1 hrg
  replace hL := Bx.mk hL
  have z0 := hz 0
  have hne3 := hne
  replace hW := Bx.mk hW
  replace hs0 := Bx.mk hs0
  replace hco := Bx.mk hco
  replace hop := Bx.mk hop
  generalize htx : d.text = tx at c0 hL
  clear htx hz hrg
  go_enter Tryz.func29, Tryz.ntmps29
  go_wp2_with fail
  go_quiet (first | (go_at_call 12; exact (hL.out _).mono (fun e w' h => ⟨h.1, _, h.2.symm⟩)))
  have hdn : Bx (∀ n, Fr S0 (w.alloc (.cells (opA 8 a b c S1 T1) 30)) ((w.alloc (.cells (opA 8 a b c S1 T1) 30)).drewN n)) := ⟨fun n => (Fr.refl S0 _).drewN n⟩
  generalize hnq : (w.alloc (.cells (opA 8 a b c S1 T1) 30)).drewN _ = wn
  replace hdn : Bx (Fr S0 (w.alloc (.cells (opA 8 a b c S1 T1) 30)) wn) := ⟨hnq ▸ hdn.out _⟩
  clear hnq
  replace hW := Bx.mk (hW.out.fr0 hdn.out)
  replace hs0 := Bx.mk (hs0.out.fr hdn.out (fun _ _ e => e) (Ext.refl _ _))
  replace hop := Bx.mk (hdn.out.row0 hop.out)
  replace hf0 := Bx.mk (hf0.out.trans hdn.out.up)
  clear hdn c0 c1 c2 hl z0 q0 q1 q2 q3 q4 q5 hgl hL
  obtain ⟨c0, c1, hl, hz, ⟨va', c2⟩, hrg, hco2⟩ := hW.out.cells
  have z0 := hz 0
  have hop2 := (fr_dk hco.out 0 (.string es)).row hop.out (fun e => by simp only [Cq] at e; have := hg0.out; omega)
  obtain ⟨q0, q1, q2, q3, q4, q5, hgl⟩ := hop.out.op6
  have hW2 := (hW.out.setText es (by decide)).1
  have hs2 := hs0.out.fr (fr_dk hco.out 0 (.string es)) (fun k hk e => by simp only [Cq] at e; omega) (Ext.refl _ _)
  replace hf0 := Bx.mk (fr_dkS hf0.out hx0.out hco.out 0 (.string es))
  obtain ⟨n, hC⟩ := loaded_any r _ hW2
  replace hC := Bx.mk hC
  clear hz hrg hco2 hop2 hW2 hs2 hs0
  go_wp2_with (first
    | (go_at_call 62; refine hC.out.mono ?_; clear hC; rintro e w1 ⟨rfl, hq, hf1⟩; replace hq := Bx.mk hq; replace hf1 := Bx.mk hf1))
  go_ret2
  exact play_run (n := n) hf0.out hx0.out (by decide) (by decide) (by decide) ⟨rfl, hq.out, hf1.out⟩

set_option maxHeartbeats 16000000 in
theorem play_other (kd a b c : Int) (S1 T1 : ByteArray) (w : World) (h : WS w ρ D T past next d) (hs : Sn w ρ (sl kw 24 24) T) (hk : kd < 1 ∨ 14 < kd) : Calls Tryz.prog 29 #[pt D.R.bk, pt D.mb, pt D.dk, .agg (opA kd a b c S1 T1), sl kw 24 24] w (PlayP w ρ D T kd a b) := by
  have hop := op_new w kd a b c S1 T1 rfl
  have hfa : Fr S0 w (w.alloc (.cells (opA kd a b c S1 T1) 30)) := (Fr.refl S0 w).alloc _
  have hx0 : Bx (Ext w ρ (ext ρ w.heap.size w.heap.size 0)) := ⟨ext_Ext _ _ _ _⟩
  have hg0 : Bx (ext ρ w.heap.size w.heap.size 0 w.heap.size = 0) := ⟨ext_new (Nat.le_refl _)⟩
  have hW := h.fr0x hfa hx0.out
  have hs0 := hs.fr hfa (fun _ _ e => e) hx0.out
  have hf0 : Bx (Fr (fun k => ρ k ≠ 0) w (w.alloc (.cells (opA kd a b c S1 T1) 30))) := ⟨hfa.up⟩
  clear h hs hfa
  generalize hρ0 : ext ρ w.heap.size w.heap.size 0 = ρ0 at *
  clear hρ0
  obtain ⟨q0, q1, q2, q3, q4, q5, hgl⟩ := hop.op6
  obtain ⟨c0, c1, hl, hz, ⟨va, c2⟩, hrg, hco⟩ := hW.cells
  have hne : ¬ D.dk = w.heap.size := fun e => by rw [e] at hco; have := hg0.out; omega
  have hne2 : ¬ w.heap.size = D.dk := fun e => hne e.symm
  replace hW := Bx.mk hW
  have k1 : (kd == 1) = false := by simp; omega
  have k2 : (kd == 2) = false := by simp; omega
  have k3 : (kd == 3) = false := by simp; omega
  have k4 : (kd == 4) = false := by simp; omega
  have k5 : (kd == 5) = false := by simp; omega
  have k6 : (kd == 6) = false := by simp; omega
  have k7 : (kd == 7) = false := by simp; omega
  have k8 : (kd == 8) = false := by simp; omega
  have k9 : (kd == 9) = false := by simp; omega
  have k10 : (kd == 10) = false := by simp; omega
  have k11 : (kd == 11) = false := by simp; omega
  have k12 : (kd == 12) = false := by simp; omega
  have k13 : (kd == 13) = false := by simp; omega
  have k14 : (kd == 14) = false := by simp; omega
  have n2 : Bx (kd ≠ 2) := ⟨by omega⟩
  have n3 : Bx (kd ≠ 3) := ⟨by omega⟩
  have n4 : Bx (kd ≠ 4) := ⟨by omega⟩
  clear hz hrg hco hs0 hop hk
  go_enter Tryz.func29, Tryz.ntmps29
  go_wp2_with fail
  go_ret2
  exact play_same hf0.out hx0.out n2.out n3.out n4.out hW.out
theorem play_any (kd a b c : Int) (S1 T1 : ByteArray) (w : World) (h : WS w ρ D T past next d) (hs : Sn w ρ (sl kw 24 24) T) : Calls Tryz.prog 29 #[pt D.R.bk, pt D.mb, pt D.dk, .agg (opA kd a b c S1 T1), sl kw 24 24] w (PlayP w ρ D T kd a b) := by
  by_cases hk : kd < 1 ∨ 14 < kd
  · exact play_other kd a b c S1 T1 w h hs hk
  · have : kd = 1 ∨ kd = 2 ∨ kd = 3 ∨ kd = 4 ∨ kd = 5 ∨ kd = 6 ∨ kd = 7 ∨ kd = 8 ∨ kd = 9 ∨ kd = 10 ∨ kd = 11 ∨ kd = 12 ∨ kd = 13 ∨ kd = 14 := by omega
    rcases this with e | e | e | e | e | e | e | e | e | e | e | e | e | e <;> subst e
    · exact play_text a b c S1 T1 w h hs
    · exact play_set a b c S1 T1 w h hs
    · exact play_edit a b c S1 T1 w h hs
    · exact play_copy a b c S1 T1 w h hs
    · exact play_undo a b c S1 T1 w h hs
    · exact play_redo a b c S1 T1 w h hs
    · exact play_save a b c S1 T1 w h hs
    · exact play_load a b c S1 T1 w h hs
    · exact play_again a b c S1 T1 w h hs
    · exact play_raw a b c S1 T1 w h hs
    · exact play_value a b c S1 T1 w h hs
    · exact play_undos a b c S1 T1 w h hs
    · exact play_redos a b c S1 T1 w h hs
    · exact play_check a b c S1 T1 w h hs
end
end Go.Proofs.Qxb6500326aGreat
