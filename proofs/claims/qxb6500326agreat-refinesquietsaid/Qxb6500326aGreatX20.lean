import Derived.Test.Qxb6500326aGreatX19
namespace Go.Proofs.Qxb6500326aGreat
set_option maxRecDepth 100000
set_option linter.unusedVariables false
set_option linter.unusedSimpArgs false
open Go.RowKit Go.PlainAid
structure SF (b : Nat → Int) (n k : Nat) (t : Tok) (s : RS) : Prop where
  hts : Hts k 1 s
  hav : s.hav = true
  tk : topk s.O ≠ 1
  tok : lex b n s.pos = t
  nn : s.nodes.length ≤ 24
section
variable {B : FB} {b : Nat → Int} {n nt k : Nat} {t : Tok} {s : RS}
theorem add_nn {s : RS} (h : s.nodes.length ≤ 24) (x : Nd) : (s.add x).1.nodes.length ≤ 24 := by
  unfold RS.add
  split
  · exact h
  · split
    · rw [(fail_V s 7 s.pos).2.2.1]; exact h
    · simp; omega
theorem join_nn {s : RS} (h : s.nodes.length ≤ 24) : s.join.nodes.length ≤ 24 := by
  cases hO : s.O with
  | nil => unfold RS.join; rw [hO]; exact h
  | cons m O' =>
    cases hV : s.V with
    | nil => unfold RS.join; rw [hO, hV]; exact h
    | cons y V1 =>
      cases V1 with
      | nil => unfold RS.join; rw [hO, hV]; exact h
      | cons x V' => rw [join_eq hO hV]; exact add_nn h _
theorem SF.join (h : SF b n k t s) (ht : topOf s.O ≠ 0) : SF b n k t s.join :=
  ⟨join_hts h.hts ht, by rw [(join_pos s).2.1]; exact h.hav, join_top h.hts ht, by rw [(join_pos s).1]; exact h.tok, join_nn h.nn⟩
theorem SF.joinC (h : SF b n k t s) (ht : topOf s.O ≠ 0) (hk : k < nt) (hn : nt ≤ 41) : ∀ wx, AF wx B b n nt k s → Calls Tryz.prog 193 #[pt B.f] wx (Ran wx B b n nt k s.join (.tuple #[])) := by
  intro wx hx
  obtain ⟨m, O', y, x, V', hO, hV⟩ := join_twoR h.hts ht
  exact joinX B b n nt k s wx hx m O' y x V' hO hV (by have := h.hts.ok; omega) (by have := h.hts.vk; omega)
theorem SF.topC (h : SF b n k t s) (hk : k < nt) (hn : nt ≤ 41) : ∀ wx, AF wx B b n nt k s → Calls Tryz.prog 192 #[pt B.f] wx (Ran wx B b n nt k s (I (topOf s.O))) :=
  fun wx hx => topX B b n nt k s wx hx (by have := h.hts.ok; omega)
theorem SF.closeC (h : SF b n k t s) (ht : topOf s.O = 0) : ∀ wx, AF wx B b n nt k s → Calls Tryz.prog 194 #[pt B.f, tkV t] wx (Turned wx B b n nt k s (s.close b n t)) :=
  fun wx hx => closeX B b n nt k s t wx hx h.hts h.hav h.tk ht h.tok.symm
theorem after3_push {v : Int} {V' : List Int} (hV : s.V = v :: V') (hr : isRange s.nodes v = false) : s.after3 b n t = ((s.take b n).push ⟨2, t.n, 0, 0, 0⟩).hv false := by
  unfold RS.after3; rw [hV]; simp only; rw [if_neg (by rw [hr]; decide)]; rfl
theorem after3_fail {v : Int} {V' : List Int} (hV : s.V = v :: V') (hr : isRange s.nodes v = true) : s.after3 b n t = s.fail 3 t.st := by
  unfold RS.after3; rw [hV]; simp only; rw [if_pos hr]
def PushC (B : FB) (b : Nat → Int) (n nt k : Nat) (t : Tok) (s R : RS) : Prop := ∃ s3 s4 : RS,
  (∀ wx, AF wx B b n nt k s → Calls Tryz.prog 196 #[pt B.f] wx (Ran wx B b n nt (k + 1) s3 (.tuple #[]))) ∧
  (∀ wx, AF wx B b n nt (k + 1) s3 → Calls Tryz.prog 197 #[pt B.f, mkV ⟨2, t.n, 0, 0, 0⟩] wx (Ran wx B b n nt (k + 1) s4 (.tuple #[]))) ∧
  (∀ wx, AF wx B b n nt (k + 1) s4 → (∃ y, wx.cell? ⟨B.f, 10, none⟩ = some (.bool y)) ∧ wx.frozen? ⟨B.f, 10, none⟩ = false ∧ AF (wx.setCell ⟨B.f, 10, none⟩ (.bool false)) B b n nt (k + 1) R) ∧
  (R.err = 0 → (R.done = false → k < k + 1) ∧ Hts (k + 1) (if R.hav = true then 1 else 0) R ∧ (R.hav = true → topk R.O ≠ 1))
theorem SF.pushC (h : SF b n k t s) (h6 : t.kind = 6) (hlt : topOf s.O < strength t.n) (hk : k < nt) (hn : nt ≤ 41) : PushC B b n nt k t s (((s.take b n).push ⟨2, t.n, 0, 0, 0⟩).hv false) := by
  have hT : Hts (k + 1) 1 (s.take b n) := h.hts.take
  have hol : (s.take b n).O.length < k + 1 := Nat.lt_succ_of_le h.hts.ok
  refine ⟨s.take b n, (s.take b n).push ⟨2, t.n, 0, 0, 0⟩, fun wx hx => takeX B b n nt k s wx hx (by rw [h.tok, h6]; decide), fun wx hx => pushX B b n nt (k + 1) _ _ wx hx (by omega), fun wx hx => hx.hv0, fun _ => ⟨fun _ => by omega, ?_, fun e => absurd (show false = true from e) (by decide)⟩⟩
  rw [if_neg (by show ¬ (false = true); decide)]
  exact Hts.pushBin hT t.n hol h.tk hlt
theorem SF.end3 (h : SF b n k t s) (h6 : t.kind = 6) (hlt : topOf s.O < strength t.n) (hk : k < nt) (hn : nt ≤ 41) :
    (∃ (q : Nat) (v : Int), (q : Int) < 41 ∧ decide (0 ≤ v) = false ∧ (∀ wx, AF wx B b n nt k s → wx.cell? ⟨B.f, 6, none⟩ = some (sl B.v 41 41) ∧ wx.cell? ⟨B.f, 7, none⟩ = some (I ((q + 1 : Nat) : Int)) ∧ wx.cell? ⟨B.v, q, none⟩ = some (I v)) ∧ PushC B b n nt k t s (s.after3 b n t)) ∨
    (∃ (q j : Nat) (kd : Int), (q : Int) < 41 ∧ (j : Int) < 24 ∧ (kd == 4) = false ∧ (∀ wx, AF wx B b n nt k s → wx.cell? ⟨B.f, 6, none⟩ = some (sl B.v 41 41) ∧ wx.cell? ⟨B.f, 7, none⟩ = some (I ((q + 1 : Nat) : Int)) ∧ wx.cell? ⟨B.v, q, none⟩ = some (I (j : Int)) ∧ wx.cell? ⟨B.f, 4, none⟩ = some (sl B.a 24 24) ∧ wx.cell? ⟨B.a, j * 13, none⟩ = some (I kd)) ∧ PushC B b n nt k t s (s.after3 b n t)) ∨
    (∃ (q j : Nat) (kd : Int), (q : Int) < 41 ∧ (j : Int) < 24 ∧ (kd == 4) = true ∧ (∀ wx, AF wx B b n nt k s → wx.cell? ⟨B.f, 6, none⟩ = some (sl B.v 41 41) ∧ wx.cell? ⟨B.f, 7, none⟩ = some (I ((q + 1 : Nat) : Int)) ∧ wx.cell? ⟨B.v, q, none⟩ = some (I (j : Int)) ∧ wx.cell? ⟨B.f, 4, none⟩ = some (sl B.a 24 24) ∧ wx.cell? ⟨B.a, j * 13, none⟩ = some (I kd)) ∧ (∀ wx, AF wx B b n nt k s → Calls Tryz.prog 195 #[pt B.f, I 3, I t.st] wx (Ran wx B b n nt k (s.after3 b n t) (.tuple #[]))) ∧ (s.after3 b n t).err ≠ 0) := by
  obtain ⟨v, V', hV, hv⟩ := after3_cases h.hts
  have hvk := h.hts.vk
  have hv41 : s.V.length ≤ 41 := by omega
  have hq : (V'.length : Int) < 41 := by rw [hV] at hv41; simp at hv41; omega
  rcases hv with hv | ⟨j, x, rfl, hx⟩
  · refine .inl ⟨V'.length, v, hq, decide_eq_false (by omega), fun wx hx => hx.lastV hV hv41, ?_⟩
    rw [after3_push hV (by unfold isRange; rw [decide_eq_false (by omega)]; rfl)]
    exact h.pushC h6 hlt hk hn
  · have hj : (j : Int) < 24 := by
      have hl : j < s.nodes.length := by
        apply Classical.byContradiction
        intro c
        rw [List.getElem?_eq_none (by omega)] at hx; cases hx
      have := h.nn
      omega
    have hir : isRange s.nodes (j : Int) = (x.kind == 4) := by
      unfold isRange; rw [decide_eq_true (by omega)]; simp only [Int.toNat_natCast, hx]; rfl
    by_cases h4 : x.kind = 4
    · refine .inr (.inr ⟨V'.length, j, x.kind, hq, hj, by simpa using h4, fun wx hwx => ?_, ?_, ?_⟩)
      · obtain ⟨a, c, d⟩ := hwx.lastV hV hv41
        obtain ⟨e, f, -⟩ := hwx.node hx
        exact ⟨a, c, d, e, f⟩
      · rw [after3_fail hV (by rw [hir]; simpa using h4)]
        exact fun wx hwx => failX B b n nt k s 3 t.st wx hwx
      · rw [after3_fail hV (by rw [hir]; simpa using h4)]
        exact fail_errR s (by decide) t.st
    · refine .inr (.inl ⟨V'.length, j, x.kind, hq, hj, by simpa using h4, fun wx hwx => ?_, ?_⟩)
      · obtain ⟨a, c, d⟩ := hwx.lastV hV hv41
        obtain ⟨e, f, -⟩ := hwx.node hx
        exact ⟨a, c, d, e, f⟩
      · rw [after3_push hV (by rw [hir]; simpa using h4)]
        exact h.pushC h6 hlt hk hn
end
theorem bt_eq {a c : Int} (h : a = c) : (a == c) = true := by simpa using h
theorem bt_ne {a c : Int} (h : a ≠ c) : (a == c) = false := by simpa using h
theorem afterX (B : FB) (b : Nat → Int) (n nt k : Nat) (st : RS) (w : World) (h : AF w B b n nt k st) (hts : Hts k 1 st) (hav : st.hav = true) (htk : topk st.O ≠ 1) :
    Calls Tryz.prog 160 #[pt B.f] w (Turned w B b n nt k st (st.after b n)) := by
  obtain ⟨hk, hn, hpn⟩ := h.kn
  obtain ⟨s0, h0⟩ : ∃ s0, st.look b n = s0 := ⟨_, rfl⟩
  obtain ⟨t, e0⟩ : ∃ t, lex b n st.pos = t := ⟨_, rfl⟩
  have q0 : lex b n s0.pos = t := by rw [← h0, look_tok hpn, e0]
  have hS0 : SF b n k t s0 := ⟨by rw [← h0]; exact hts.look, by rw [← h0, (look_V st).2.2.2.2.1]; exact hav, by rw [← h0, (look_V st).2.1]; exact htk, q0, by rw [← h0, (look_V st).2.2.1]; exact h.nn⟩
  have hlk := lookX B b n nt k st w h
  rw [h0, e0] at hlk
  have hnb := fun j (hj : w.heap.size ≤ j) => h.lts hj
  have b0 := topOf_bd s0.O
  have n3 := topk_not3 hS0.tk
  by_cases h6 : t.kind = 6
  · have d6 := bt_eq h6
    have hst : ∀ wx, Calls Tryz.prog 191 #[I t.n] wx (fun e w' => e = .returned (I (strength t.n)) ∧ wx = w') := fun wx => strength_any t.n wx
    have hg := strOf_op h6
    rcases (show strength t.n = 1 ∨ strength t.n = 2 ∨ strength t.n = 3 from by unfold strength; split; exact .inl rfl; split; exact .inr (.inl rfl); exact .inr (.inr rfl)) with g | g | g
    · rw [g] at hst hg
      by_cases u2 : topOf s0.O = 2
      · rw [after_eq h0 q0 hg (show s0.join2 1 = s0.join from by unfold RS.join2; rw [if_pos ⟨by omega, u2⟩])]
        have hS1 := hS0.join (show topOf s0.O ≠ 0 by omega)
        have l2 := join_topOf hS0.hts (show topOf s0.O ≠ 0 by omega)
        have hj2 := hS0.joinC (B := B) (show topOf s0.O ≠ 0 by omega) hk hn
        generalize s0.join = s1 at *
        have c0 := topOf_bd s1.O
        by_cases u1 : topOf s1.O = 1
        · have hJ := hS1.join (show topOf s1.O ≠ 0 by omega)
          have l1 := join_topOf hS1.hts (show topOf s1.O ≠ 0 by omega)
          have b1 := topOf_bd s1.join.O
          rw [show s1.after2 b n t 1 = s1.join.close b n t from by unfold RS.after2; rw [if_pos ⟨by omega, u1⟩]]
          exact after_1yy_close B b n nt k st s0 t w hnb hlk d6 hst _ (bt_eq u2) (hS0.topC hk hn) s1 hj2 _ (bt_eq u1) (hS1.topC hk hn) s1.join (hS1.joinC (by omega) hk hn) _ (hJ.closeC (by omega))
        · rw [show s1.after2 b n t 1 = s1.after3 b n t from by unfold RS.after2; rw [if_neg (fun c => u1 c.2), if_neg (by omega)]]
          rcases SF.end3 (B := B) hS1 h6 (by rw [g]; omega) hk hn with ⟨q, v, hq, dv, hc, s3, s4, a1, a2, a3, a4⟩ | ⟨q, j, kd, hq, hj, dk, hc, s3, s4, a1, a2, a3, a4⟩ | ⟨q, j, kd, hq, hj, dk, hc, hf, her⟩
          · exact after_1yn_neg B b n nt k st s0 t w hnb hlk d6 hst _ (bt_eq u2) (hS0.topC hk hn) s1 hj2 _ (bt_ne u1) (hS1.topC hk hn) _ q 0 v 0 hq dv hc s3 s4 a1 a2 a3 a4
          · exact after_1yn_norange B b n nt k st s0 t w hnb hlk d6 hst _ (bt_eq u2) (hS0.topC hk hn) s1 hj2 _ (bt_ne u1) (hS1.topC hk hn) _ q j 0 kd hq hj dk hc s3 s4 a1 a2 a3 a4
          · exact after_1yn_range B b n nt k st s0 t w hnb hlk d6 hst _ (bt_eq u2) (hS0.topC hk hn) s1 hj2 _ (bt_ne u1) (hS1.topC hk hn) _ q j 0 kd hq hj dk hc hf her
      · rw [after_eq h0 q0 hg (show s0.join2 1 = s0 from by unfold RS.join2; rw [if_neg (fun c => u2 c.2)])]
        have c0 := topOf_bd s0.O
        by_cases u1 : topOf s0.O = 1
        · have hJ := hS0.join (show topOf s0.O ≠ 0 by omega)
          have l1 := join_topOf hS0.hts (show topOf s0.O ≠ 0 by omega)
          have b1 := topOf_bd s0.join.O
          rw [show s0.after2 b n t 1 = s0.join.close b n t from by unfold RS.after2; rw [if_pos ⟨by omega, u1⟩]]
          exact after_1ny_close B b n nt k st s0 t w hnb hlk d6 hst _ (bt_ne u2) (hS0.topC hk hn) _ (bt_eq u1) (hS0.topC hk hn) s0.join (hS0.joinC (by omega) hk hn) _ (hJ.closeC (by omega))
        · rw [show s0.after2 b n t 1 = s0.after3 b n t from by unfold RS.after2; rw [if_neg (fun c => u1 c.2), if_neg (by omega)]]
          rcases SF.end3 (B := B) hS0 h6 (by rw [g]; omega) hk hn with ⟨q, v, hq, dv, hc, s3, s4, a1, a2, a3, a4⟩ | ⟨q, j, kd, hq, hj, dk, hc, s3, s4, a1, a2, a3, a4⟩ | ⟨q, j, kd, hq, hj, dk, hc, hf, her⟩
          · exact after_1nn_neg B b n nt k st s0 t w hnb hlk d6 hst _ (bt_ne u2) (hS0.topC hk hn) _ (bt_ne u1) (hS0.topC hk hn) _ q 0 v 0 hq dv hc s3 s4 a1 a2 a3 a4
          · exact after_1nn_norange B b n nt k st s0 t w hnb hlk d6 hst _ (bt_ne u2) (hS0.topC hk hn) _ (bt_ne u1) (hS0.topC hk hn) _ q j 0 kd hq hj dk hc s3 s4 a1 a2 a3 a4
          · exact after_1nn_range B b n nt k st s0 t w hnb hlk d6 hst _ (bt_ne u2) (hS0.topC hk hn) _ (bt_ne u1) (hS0.topC hk hn) _ q j 0 kd hq hj dk hc hf her
    · rw [g] at hst hg
      by_cases u2 : topOf s0.O = 2
      · rw [after_eq h0 q0 hg (show s0.join2 2 = s0.join from by unfold RS.join2; rw [if_pos ⟨by omega, u2⟩])]
        have hS1 := hS0.join (show topOf s0.O ≠ 0 by omega)
        have l2 := join_topOf hS0.hts (show topOf s0.O ≠ 0 by omega)
        have hj2 := hS0.joinC (B := B) (show topOf s0.O ≠ 0 by omega) hk hn
        generalize s0.join = s1 at *
        rw [show s1.after2 b n t 2 = s1.after3 b n t from by unfold RS.after2; rw [if_neg (by omega), if_neg (by omega)]]
        rcases SF.end3 (B := B) hS1 h6 (by rw [g]; omega) hk hn with ⟨q, v, hq, dv, hc, s3, s4, a1, a2, a3, a4⟩ | ⟨q, j, kd, hq, hj, dk, hc, s3, s4, a1, a2, a3, a4⟩ | ⟨q, j, kd, hq, hj, dk, hc, hf, her⟩
        · exact after_2y_neg B b n nt k st s0 t w hnb hlk d6 hst _ (bt_eq u2) (hS0.topC hk hn) s1 hj2 _ q 0 v 0 hq dv hc s3 s4 a1 a2 a3 a4
        · exact after_2y_norange B b n nt k st s0 t w hnb hlk d6 hst _ (bt_eq u2) (hS0.topC hk hn) s1 hj2 _ q j 0 kd hq hj dk hc s3 s4 a1 a2 a3 a4
        · exact after_2y_range B b n nt k st s0 t w hnb hlk d6 hst _ (bt_eq u2) (hS0.topC hk hn) s1 hj2 _ q j 0 kd hq hj dk hc hf her
      · rw [after_eq h0 q0 hg (show s0.join2 2 = s0 from by unfold RS.join2; rw [if_neg (fun c => u2 c.2)])]
        rw [show s0.after2 b n t 2 = s0.after3 b n t from by unfold RS.after2; rw [if_neg (by omega), if_neg (by omega)]]
        rcases SF.end3 (B := B) hS0 h6 (by rw [g]; omega) hk hn with ⟨q, v, hq, dv, hc, s3, s4, a1, a2, a3, a4⟩ | ⟨q, j, kd, hq, hj, dk, hc, s3, s4, a1, a2, a3, a4⟩ | ⟨q, j, kd, hq, hj, dk, hc, hf, her⟩
        · exact after_2n_neg B b n nt k st s0 t w hnb hlk d6 hst _ (bt_ne u2) (hS0.topC hk hn) _ q 0 v 0 hq dv hc s3 s4 a1 a2 a3 a4
        · exact after_2n_norange B b n nt k st s0 t w hnb hlk d6 hst _ (bt_ne u2) (hS0.topC hk hn) _ q j 0 kd hq hj dk hc s3 s4 a1 a2 a3 a4
        · exact after_2n_range B b n nt k st s0 t w hnb hlk d6 hst _ (bt_ne u2) (hS0.topC hk hn) _ q j 0 kd hq hj dk hc hf her
    · rw [g] at hst hg
      rw [after_eq h0 q0 hg (show s0.join2 3 = s0 from by unfold RS.join2; rw [if_neg (by omega)])]
      rw [show s0.after2 b n t 3 = s0.after3 b n t from by unfold RS.after2; rw [if_neg (by omega), if_neg (by omega)]]
      rcases SF.end3 (B := B) hS0 h6 (by rw [g]; omega) hk hn with ⟨q, v, hq, dv, hc, s3, s4, a1, a2, a3, a4⟩ | ⟨q, j, kd, hq, hj, dk, hc, s3, s4, a1, a2, a3, a4⟩ | ⟨q, j, kd, hq, hj, dk, hc, hf, her⟩
      · exact after_3_neg B b n nt k st s0 t w hnb hlk d6 hst  _ q 0 v 0 hq dv hc s3 s4 a1 a2 a3 a4
      · exact after_3_norange B b n nt k st s0 t w hnb hlk d6 hst  _ q j 0 kd hq hj dk hc s3 s4 a1 a2 a3 a4
      · exact after_3_range B b n nt k st s0 t w hnb hlk d6 hst  _ q j 0 kd hq hj dk hc hf her
  · have d6 := bt_ne h6
    have hg := strOf_no h6
    by_cases u2 : topOf s0.O = 2
    · rw [after_eq h0 q0 hg (show s0.join2 0 = s0.join from by unfold RS.join2; rw [if_pos ⟨by omega, u2⟩])]
      have hS1 := hS0.join (show topOf s0.O ≠ 0 by omega)
      have l2 := join_topOf hS0.hts (show topOf s0.O ≠ 0 by omega)
      have hj2 := hS0.joinC (B := B) (show topOf s0.O ≠ 0 by omega) hk hn
      generalize s0.join = s1 at *
      have c0 := topOf_bd s1.O
      have m3 := topk_not3 hS1.tk
      by_cases u1 : topOf s1.O = 1
      · have hJ := hS1.join (show topOf s1.O ≠ 0 by omega)
        have l1 := join_topOf hS1.hts (show topOf s1.O ≠ 0 by omega)
        have b1 := topOf_bd s1.join.O
        rw [show s1.after2 b n t 0 = s1.join.close b n t from by unfold RS.after2; rw [if_pos ⟨by omega, u1⟩]]
        exact after_0yy_close B b n nt k st s0 t w hnb hlk d6 _ (bt_eq u2) (hS0.topC hk hn) s1 hj2 _ (bt_eq u1) (hS1.topC hk hn) s1.join (hS1.joinC (by omega) hk hn) _ (hJ.closeC (by omega))
      · rw [show s1.after2 b n t 0 = s1.close b n t from by unfold RS.after2; rw [if_neg (fun c => u1 c.2), if_pos rfl]]
        exact after_0yn_close B b n nt k st s0 t w hnb hlk d6 _ (bt_eq u2) (hS0.topC hk hn) s1 hj2 _ (bt_ne u1) (hS1.topC hk hn) _ (hS1.closeC (by omega))
    · rw [after_eq h0 q0 hg (show s0.join2 0 = s0 from by unfold RS.join2; rw [if_neg (fun c => u2 c.2)])]
      have c0 := topOf_bd s0.O
      have m3 := topk_not3 hS0.tk
      by_cases u1 : topOf s0.O = 1
      · have hJ := hS0.join (show topOf s0.O ≠ 0 by omega)
        have l1 := join_topOf hS0.hts (show topOf s0.O ≠ 0 by omega)
        have b1 := topOf_bd s0.join.O
        rw [show s0.after2 b n t 0 = s0.join.close b n t from by unfold RS.after2; rw [if_pos ⟨by omega, u1⟩]]
        exact after_0ny_close B b n nt k st s0 t w hnb hlk d6 _ (bt_ne u2) (hS0.topC hk hn) _ (bt_eq u1) (hS0.topC hk hn) s0.join (hS0.joinC (by omega) hk hn) _ (hJ.closeC (by omega))
      · rw [show s0.after2 b n t 0 = s0.close b n t from by unfold RS.after2; rw [if_neg (fun c => u1 c.2), if_pos rfl]]
        exact after_0nn_close B b n nt k st s0 t w hnb hlk d6 _ (bt_ne u2) (hS0.topC hk hn) _ (bt_ne u1) (hS0.topC hk hn) _ (hS0.closeC (by omega))
end Go.Proofs.Qxb6500326aGreat
