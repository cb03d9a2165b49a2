import Derived.Test.Qxb6500326aGreatH7
namespace Go.Proofs.Qxb6500326aGreat
set_option maxRecDepth 100000
set_option linter.unusedVariables false
set_option linter.unusedSimpArgs false
open Go.RowKit Go.PlainAid

/-! ### the real document -/
structure BK (w : World) (R : RA) (A : XA) (T : Tx) (H : Nat → Tx) (u r : Nat) : Prop where
  xe : R.xe = A.xe
  ed : XB w A T
  rg : ∃ base tu po wt, RG w R base u r tu po wt ∧ Ring tu po base u r H
  cur : H u = T
  sm : ∀ k, k ≤ u + r → TxO (H k)
  ap : ∀ k, SR R k → ¬ SE A k
/-- Within a command: the scratch holds the texts ahead of it. -/
structure AW (w : World) (R : RA) (A : XA) (T T' : Tx) (H : Nat → Tx) (u r : Nat) : Prop where
  xe : R.xe = A.xe
  ed : XB w A T'
  rg : ∃ base tu po, RG w R base u r tu po T ∧ Ring tu po base u r H
  cur : H u = T
  sm : ∀ k, k ≤ u + r → TxO (H k)
  ap : ∀ k, SR R k → ¬ SE A k
def SBk (R : RA) (A : XA) : Nat → Prop := fun k => SR R k ∨ SE A k
section
variable {w w' : World} {R : RA} {A : XA} {T T' : Tx} {H : Nat → Tx} {u r : Nat}
theorem BK.fr (h : BK w R A T H u r) {S : Nat → Prop} (f : Fr S w w') (hS : ∀ k, SBk R A k → ¬ S k) : BK w' R A T H u r := by
  obtain ⟨base, tu, po, wt, h1, h2⟩ := h.rg
  exact ⟨h.xe, h.ed.fr f (fun k hk => hS k (.inr hk)), ⟨base, tu, po, wt, h1.fr f (fun k hk => hS k (.inl hk)), h2⟩, h.cur, h.sm, h.ap⟩
theorem BK.fr0 (h : BK w R A T H u r) (f : Fr S0 w w') : BK w' R A T H u r := h.fr f (fun _ _ e => e)
theorem BK.lt (h : BK w R A T H u r) : ∀ k, SBk R A k → k < w.heap.size := by
  obtain ⟨base, tu, po, wt, h1, h2⟩ := h.rg
  rintro k (e | e)
  · exact h1.lt k e
  · exact h.ed.lt k e
theorem BK.tx (h : BK w R A T H u r) : TxO T := h.cur ▸ h.sm u (by omega)
theorem BK.n6 (h : BK w R A T H u r) : u + r ≤ 6 := by obtain ⟨base, tu, po, wt, h1, h2⟩ := h.rg; exact h2.n
theorem BK.cell (h : BK w R A T H u r) : w.cell? ⟨R.bk, 0, none⟩ = some (pt A.xe) ∧ w.cell? ⟨R.bk, 4, none⟩ = some (I u) ∧ w.cell? ⟨R.bk, 5, none⟩ = some (I r) ∧ R.bk < w.heap.size := by
  obtain ⟨base, tu, po, wt, h1, h2⟩ := h.rg
  obtain ⟨c0, c1, c2, c3, c4, c5, c6, c7, hl, -⟩ := h1.c8
  rw [h.xe] at c0
  exact ⟨c0, c4, c5, hl⟩
theorem AW.cell (h : AW w R A T T' H u r) : w.cell? ⟨R.bk, 0, none⟩ = some (pt A.xe) ∧ R.bk < w.heap.size := by
  obtain ⟨base, tu, po, h1, h2⟩ := h.rg
  obtain ⟨c0, c1, c2, c3, c4, c5, c6, c7, hl, -⟩ := h1.c8
  rw [h.xe] at c0
  exact ⟨c0, hl⟩
theorem AW.bk (h : AW w R A T T H u r) : BK w R A T H u r := by
  obtain ⟨base, tu, po, h1, h2⟩ := h.rg
  exact ⟨h.xe, h.ed, ⟨base, tu, po, T, h1, h2⟩, h.cur, h.sm, h.ap⟩
theorem rawC_xb (hxe : R.xe = A.xe) (ap : ∀ k, SR R k → ¬ SE A k) : RawC R T (fun w => XB w A T) :=
  ⟨fun h f => h.fr f (fun k hk e => ap k e hk), fun h c hc => by rw [hxe]; have := xb_raw h (c : Int); rw [rawP_at hc] at this; exact this⟩
theorem cmd_ahead (h : BK w R A T H u r) : Calls Tryz.prog 115 #[pt R.bk] w fun e w1 => e = .returned (.tuple #[]) ∧ AW w1 R A T T H u r ∧ Fr (SR R) w w1 := by
  obtain ⟨base, tu, po, wt, h1, h2⟩ := h.rg
  refine (ahead_any w h1 (rawC_xb h.xe h.ap) h.ed).mono ?_
  rintro e w1 ⟨rfl, hg, hf⟩
  exact ⟨rfl, ⟨h.xe, h.ed.fr hf (fun k hk e => h.ap k e hk), ⟨base, tu, po, hg, h2⟩, h.cur, h.sm, h.ap⟩, hf⟩
theorem AW.did (h : AW w R A T T H u r) (hx : XB w' A T') (f : Fr (SE A) w w') : AW w' R A T T' H u r := by
  obtain ⟨base, tu, po, h1, h2⟩ := h.rg
  exact ⟨h.xe, hx, ⟨base, tu, po, h1.fr f (fun k hk => h.ap k hk), h2⟩, h.cur, h.sm, h.ap⟩
theorem cmd_note (h : AW w R A T T' H u r) (hT : TxO T') : Calls Tryz.prog 116 #[pt R.bk] w fun e w1 => e = .returned (.tuple #[]) ∧ (∃ u' H', BK w1 R A T' H' u' 0 ∧ Noted H T' u u' H') ∧ Fr (SR R) w w1 := by
  obtain ⟨base, tu, po, h1, h2⟩ := h.rg
  refine (note_any w h1 h2 h.cur.symm (rawC_xb h.xe h.ap) h.ed).mono ?_
  rintro e w1 ⟨rfl, ⟨base', u', tu', po', H', hg, hr, hn⟩, hf⟩
  refine ⟨rfl, ⟨u', H', ⟨h.xe, h.ed.fr hf (fun k hk e => h.ap k e hk), ⟨base', tu', po', T, hg, hr⟩, ?_, ?_, h.ap⟩, hn⟩, hf⟩
  · rcases hn with ⟨_, rfl, rfl⟩ | ⟨_, rfl, rfl⟩ <;> exact upd_same _ _ _
  · intro k hk
    rcases hn with ⟨h6, rfl, rfl⟩ | ⟨h6, rfl, rfl⟩
    · by_cases e : k = u + 1
      · subst e; rw [upd_same]; exact hT
      · rw [upd_other _ _ e]; exact h.sm k (by omega)
    · by_cases e : k = 6
      · subst e; rw [upd_same]; exact hT
      · rw [upd_other _ _ e]; exact h.sm (k + 1) (by omega)
/-- What a command leaves. -/
def CmdP (w : World) (R : RA) (A : XA) (T : Tx) (H : Nat → Tx) (u r : Nat) (n : Int) (T' : Tx) : Ending → World → Prop := fun e w' => e = .returned (I n) ∧ Fr (SBk R A) w w' ∧
  ((n ≠ 0 ∧ BK w' R A T H u r) ∨ (n = 0 ∧ ∃ u' H', BK w' R A T' H' u' 0 ∧ Noted H T' u u' H'))
set_option maxHeartbeats 4000000 in
theorem bkEdit_w (k at_ : Int) (n : Int) (w : World) (h : BK w R A T H u r) (hT : TxO T') (hne : n ≠ 0 → T' = T) (hE : ∀ w1, XB w1 A T → Calls Tryz.prog 68 #[pt A.xe, I k, I at_] w1 (Did w1 (SE A) n (fun w' => XB w' A T'))) :
    Calls Tryz.prog 91 #[pt R.bk, I k, I at_] w (CmdP w R A T H u r n T') := by
  have hA := Bx.mk (cmd_ahead h)
  replace h := Bx.mk h
  replace hT := Bx.mk hT
  replace hne := Bx.mk hne
  replace hE := Bx.mk hE
  have hN : Bx (∀ w1, AW w1 R A T T' H u r → Calls Tryz.prog 116 #[pt R.bk] w1 fun e w' => e = .returned (.tuple #[]) ∧ (∃ u' H', BK w' R A T' H' u' 0 ∧ Noted H T' u u' H') ∧ Fr (SR R) w1 w') := ⟨fun w1 h1 => cmd_note h1 hT.out⟩
  cases hn : (n == 0)
  all_goals go_enter Tryz.func91, Tryz.ntmps91
  all_goals go_wp2_with (first
    | (go_at_call 115; refine hA.out.mono ?_; clear hA; rintro e w1 ⟨rfl, ha, hf1⟩; replace ha := Bx.mk ha; replace hf1 := Bx.mk hf1; obtain ⟨c0, hl⟩ := ha.out.cell; replace hE := Bx.mk (hE.out w1 ha.out.ed))
    | (go_at_call 68; refine hE.out.mono ?_; clear hE c0 hl; rintro e w2 ⟨rfl, hq, hf2⟩; replace hq := Bx.mk (ha.out.did hq hf2); replace hf2 := Bx.mk hf2; replace hN := Bx.mk (hN.out w2 hq.out))
    | (go_at_call 116; refine hN.out.mono ?_; clear hN; rintro e w3 ⟨rfl, hb, hf3⟩; replace hb := Bx.mk hb; replace hf3 := Bx.mk hf3))
  all_goals go_ret
  · have hn0 : n ≠ 0 := by simpa using hn
    refine ⟨rfl, (hf1.out.mono (fun k hk => .inl hk)).trans (hf2.out.mono (fun k hk => .inr hk)), .inl ⟨hn0, ?_⟩⟩
    have := hq.out
    rw [hne.out hn0] at this
    exact this.bk
  · have hn0 : n = 0 := by simpa using hn
    exact ⟨rfl, ((hf1.out.mono (fun k hk => .inl hk)).trans (hf2.out.mono (fun k hk => .inr hk))).trans (hf3.out.mono (fun k hk => .inl hk)), .inr ⟨hn0, hb.out⟩⟩
set_option maxHeartbeats 4000000 in
theorem bkCopy_w (src dst : Int) (n : Int) (w : World) (h : BK w R A T H u r) (hT : TxO T') (hne : n ≠ 0 → T' = T) (hE : ∀ w1, XB w1 A T → Calls Tryz.prog 69 #[pt A.xe, I src, I dst] w1 (Did w1 (SE A) n (fun w' => XB w' A T'))) :
    Calls Tryz.prog 92 #[pt R.bk, I src, I dst] w (CmdP w R A T H u r n T') := by
  have hA := Bx.mk (cmd_ahead h)
  replace h := Bx.mk h
  replace hT := Bx.mk hT
  replace hne := Bx.mk hne
  replace hE := Bx.mk hE
  have hN : Bx (∀ w1, AW w1 R A T T' H u r → Calls Tryz.prog 116 #[pt R.bk] w1 fun e w' => e = .returned (.tuple #[]) ∧ (∃ u' H', BK w' R A T' H' u' 0 ∧ Noted H T' u u' H') ∧ Fr (SR R) w1 w') := ⟨fun w1 h1 => cmd_note h1 hT.out⟩
  cases hn : (n == 0)
  all_goals go_enter Tryz.func92, Tryz.ntmps92
  all_goals go_wp2_with (first
    | (go_at_call 115; refine hA.out.mono ?_; clear hA; rintro e w1 ⟨rfl, ha, hf1⟩; replace ha := Bx.mk ha; replace hf1 := Bx.mk hf1; obtain ⟨c0, hl⟩ := ha.out.cell; replace hE := Bx.mk (hE.out w1 ha.out.ed))
    | (go_at_call 69; refine hE.out.mono ?_; clear hE c0 hl; rintro e w2 ⟨rfl, hq, hf2⟩; replace hq := Bx.mk (ha.out.did hq hf2); replace hf2 := Bx.mk hf2; replace hN := Bx.mk (hN.out w2 hq.out))
    | (go_at_call 116; refine hN.out.mono ?_; clear hN; rintro e w3 ⟨rfl, hb, hf3⟩; replace hb := Bx.mk hb; replace hf3 := Bx.mk hf3))
  all_goals go_ret
  · have hn0 : n ≠ 0 := by simpa using hn
    refine ⟨rfl, (hf1.out.mono (fun k hk => .inl hk)).trans (hf2.out.mono (fun k hk => .inr hk)), .inl ⟨hn0, ?_⟩⟩
    have := hq.out
    rw [hne.out hn0] at this
    exact this.bk
  · have hn0 : n = 0 := by simpa using hn
    exact ⟨rfl, ((hf1.out.mono (fun k hk => .inl hk)).trans (hf2.out.mono (fun k hk => .inr hk))).trans (hf3.out.mono (fun k hk => .inl hk)), .inr ⟨hn0, hb.out⟩⟩
set_option maxHeartbeats 4000000 in
theorem bkSet_w (c : Int) (s : ByteArray) (n : Int) (w : World) (h : BK w R A T H u r) (hT : TxO T') (hne : n ≠ 0 → T' = T) (hE : ∀ w1, XB w1 A T → Calls Tryz.prog 67 #[pt A.xe, I c, .string s] w1 (Did w1 (SE A) n (fun w' => XB w' A T'))) (hs : s.size ≤ 40) :
    Calls Tryz.prog 90 #[pt R.bk, I c, .string s] w (CmdP w R A T H u r n T') := by
  have hA := Bx.mk (cmd_ahead h)
  replace h := Bx.mk h
  replace hT := Bx.mk hT
  replace hne := Bx.mk hne
  replace hE := Bx.mk hE
  have hN : Bx (∀ w1, AW w1 R A T T' H u r → Calls Tryz.prog 116 #[pt R.bk] w1 fun e w' => e = .returned (.tuple #[]) ∧ (∃ u' H', BK w' R A T' H' u' 0 ∧ Noted H T' u u' H') ∧ Fr (SR R) w1 w') := ⟨fun w1 h1 => cmd_note h1 hT.out⟩
  have hsI : (s.size : Int) ≤ 40 := by omega
  cases hn : (n == 0)
  all_goals go_enter Tryz.func90, Tryz.ntmps90
  all_goals go_wp2_with (first
    | (go_at_call 115; refine hA.out.mono ?_; clear hA; rintro e w1 ⟨rfl, ha, hf1⟩; replace ha := Bx.mk ha; replace hf1 := Bx.mk hf1; obtain ⟨c0, hl⟩ := ha.out.cell; replace hE := Bx.mk (hE.out w1 ha.out.ed))
    | (go_at_call 67; refine hE.out.mono ?_; clear hE c0 hl; rintro e w2 ⟨rfl, hq, hf2⟩; replace hq := Bx.mk (ha.out.did hq hf2); replace hf2 := Bx.mk hf2; replace hN := Bx.mk (hN.out w2 hq.out))
    | (go_at_call 116; refine hN.out.mono ?_; clear hN; rintro e w3 ⟨rfl, hb, hf3⟩; replace hb := Bx.mk hb; replace hf3 := Bx.mk hf3))
  all_goals go_ret
  · have hn0 : n ≠ 0 := by simpa using hn
    refine ⟨rfl, (hf1.out.mono (fun k hk => .inl hk)).trans (hf2.out.mono (fun k hk => .inr hk)), .inl ⟨hn0, ?_⟩⟩
    have := hq.out
    rw [hne.out hn0] at this
    exact this.bk
  · have hn0 : n = 0 := by simpa using hn
    exact ⟨rfl, ((hf1.out.mono (fun k hk => .inl hk)).trans (hf2.out.mono (fun k hk => .inr hk))).trans (hf3.out.mono (fun k hk => .inl hk)), .inr ⟨hn0, hb.out⟩⟩
set_option maxHeartbeats 1000000 in
theorem bkSet_long (c : Int) (s : ByteArray) (w : World) (hs : 40 < s.size) : Calls Tryz.prog 90 #[pt R.bk, I c, .string s] w fun e w' => e = .returned (I 1) ∧ w = w' := by
  have hsI : (40 : Int) < s.size := by omega
  go_enter Tryz.func90, Tryz.ntmps90
  go_wp2_with fail
  go_ret
  exact ⟨rfl, rfl⟩
theorem bkSet_any (c : Int) (s : ByteArray) (w : World) (h : BK w R A T H u r) : Calls Tryz.prog 90 #[pt R.bk, I c, .string s] w (CmdP w R A T H u r (setP c s) (setT c s T)) := by
  rcases Nat.lt_or_ge 40 s.size with hs | hs
  · refine (bkSet_long c s w hs).mono ?_
    rintro e _ ⟨rfl, rfl⟩
    have e1 : setP c s = 1 := by unfold setP; rw [if_pos hs]
    rw [e1]
    exact ⟨rfl, Fr.refl _ _, .inl ⟨by decide, h⟩⟩
  · exact bkSet_w c s _ w h (h.tx.set c s) (fun hne => by unfold setT; rw [if_neg hne]) (fun w1 h1 => xb_set h1 c s) hs
theorem bkEdit_any (k at_ : Int) (w : World) (h : BK w R A T H u r) : Calls Tryz.prog 91 #[pt R.bk, I k, I at_] w (CmdP w R A T H u r (edP k at_) (edX k at_ T)) :=
  bkEdit_w k at_ _ w h (h.tx.ed k at_) (fun hne => by unfold edP at hne; unfold edX; split at hne; · exact absurd rfl hne
                                                      · rename_i hk; rw [if_neg hk]) (fun w1 h1 => xb_edit h1 k at_)
theorem bkCopy_any (src dst : Int) (w : World) (h : BK w R A T H u r) : Calls Tryz.prog 92 #[pt R.bk, I src, I dst] w (CmdP w R A T H u r (cpP T src dst) (cpX src dst T)) :=
  bkCopy_w src dst _ w h (h.tx.cp src dst) (fun hne => by unfold cpX; rw [if_neg hne]) (fun w1 h1 => xb_copy h1 src dst)
set_option maxHeartbeats 1000000 in
theorem bkRaw_any (c : Int) (w : World) (h : BK w R A T H u r) : Calls Tryz.prog 81 #[pt R.bk, I c] w fun e w' => e = .returned (.string (rawP T c)) ∧ w = w' := by
  obtain ⟨c0, c4, c5, hl⟩ := h.cell
  have hv := Bx.mk (xb_raw h.ed c)
  clear h
  generalize rawP T c = y at hv ⊢
  go_enter Tryz.func81, Tryz.ntmps81
  go_wp2_with (first | (go_at_call 52; refine hv.out.mono ?_; clear hv; rintro e _ ⟨rfl, rfl⟩))
  go_ret
  exact ⟨rfl, rfl⟩
set_option maxHeartbeats 1000000 in
theorem bkUndos_any (w : World) (h : BK w R A T H u r) : Calls Tryz.prog 83 #[pt R.bk] w fun e w' => e = .returned (I u) ∧ w = w' := by
  obtain ⟨c0, c4, c5, hl⟩ := h.cell
  clear h
  go_enter Tryz.func83, Tryz.ntmps83
  go_wp2_with fail
  go_ret
  exact ⟨rfl, rfl⟩
set_option maxHeartbeats 1000000 in
theorem bkRedos_any (w : World) (h : BK w R A T H u r) : Calls Tryz.prog 84 #[pt R.bk] w fun e w' => e = .returned (I r) ∧ w = w' := by
  obtain ⟨c0, c4, c5, hl⟩ := h.cell
  clear h
  go_enter Tryz.func84, Tryz.ntmps84
  go_wp2_with fail
  go_ret
  exact ⟨rfl, rfl⟩
end
end Go.Proofs.Qxb6500326aGreat
