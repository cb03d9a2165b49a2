import Derived.Test.Qxb6500326aGreatL3
namespace Go.Proofs.Qxb6500326aGreat
set_option maxRecDepth 100000
set_option linter.unusedVariables false
set_option linter.unusedSimpArgs false
open Go.RowKit Go.PlainAid
section
variable {w w' w1 : World} {ρ ρ' ρ1 : Nat → Nat} {D : Ad} {T T' : Tx} {past next past' next' : List Tx} {d : Dk} {va vp vn : Value}
/-- What an op leaves, the texts unnamed. -/
def RunP (w : World) (ρ : Nat → Nat) (D : Ad) (d : Dk) (n : Int) : Ending → World → Prop :=
  St w ρ (.returned (.tuple #[.bool true, I n])) (fun w' ρ' => ∃ T' past' next', WS w' ρ' D T' past' next' d)
theorem back_none (h : BKH w ρ D T past next) (hp : past.length = 0) : Calls Tryz.prog 94 #[pt D.R.bk] w fun e w' => e = .returned (I 11) ∧ w = w' := by
  obtain ⟨⟨H, u, r, h1, h2⟩, h3⟩ := h
  have : u = 0 := by have := h2.pl; omega
  subst this
  exact bkUndo_none w h1
theorem forth_none (h : BKH w ρ D T past next) (hp : next.length = 0) : Calls Tryz.prog 95 #[pt D.R.bk] w fun e w' => e = .returned (I 11) ∧ w = w' := by
  obtain ⟨⟨H, u, r, h1, h2⟩, h3⟩ := h
  have : r = 0 := by have := h2.nl; omega
  subst this
  exact bkRedo_none w h1
theorem back_real {q : Nat} (h : BKH w ρ D T past next) (hp : past.length = q + 1) : ∃ S, past[q]? = some S ∧ TxO S ∧ next.length < 6 ∧ Calls Tryz.prog 94 #[pt D.R.bk] w fun e w' => e = .returned (I 0) ∧ BKH w' ρ D S (past.take q) (next ++ [T]) ∧ Fr (fun k => ρ k = 1) w w' := by
  obtain ⟨⟨H, u, r, h1, h2⟩, h3⟩ := h
  have : u = q + 1 := by have := h2.pl; omega
  subst this
  have hn6 := h1.n6
  refine ⟨H q, h2.last, h1.sm q (by omega), by rw [h2.nl]; omega, (bkUndo_any w h1).mono ?_⟩
  rintro e w' ⟨rfl, hb, hf⟩
  have hh := h2.back
  rw [h1.cur] at hh
  exact ⟨rfl, ⟨⟨H, q, r + 1, hb, hh⟩, h3⟩, hf.mono h3⟩
theorem forth_real {q : Nat} (h : BKH w ρ D T past next) (hp : next.length = q + 1) : ∃ S, next[q]? = some S ∧ TxO S ∧ past.length < 6 ∧ Calls Tryz.prog 95 #[pt D.R.bk] w fun e w' => e = .returned (I 0) ∧ BKH w' ρ D S (past ++ [T]) (next.take q) ∧ Fr (fun k => ρ k = 1) w w' := by
  obtain ⟨⟨H, u, r, h1, h2⟩, h3⟩ := h
  have : r = q + 1 := by have := h2.nl; omega
  subst this
  have hn6 := h1.n6
  refine ⟨H (u + 1), h2.near, h1.sm (u + 1) (by omega), by rw [h2.pl]; omega, (bkRedo_any w h1).mono ?_⟩
  rintro e w' ⟨rfl, hb, hf⟩
  have hh := h2.forth
  rw [h1.cur] at hh
  exact ⟨rfl, ⟨⟨H, u + 1, q, hb, hh⟩, h3⟩, hf.mono h3⟩
theorem sn_row {k : Nat} {S : Tx} (h : Sn w ρ (sl k 24 24) S) : Row w k 24 (fun j => .string (S j)) := by
  obtain ⟨k', e, -, hr⟩ := h.ex
  cases e; exact hr

set_option maxHeartbeats 4000000 in
theorem back_zero {kw : Nat} (w : World) (h : WS w ρ D T past next d) (h0 : past.length = 0) : Calls Tryz.prog 60 #[pt D.R.bk, pt D.mb, pt D.dk, sl kw 24 24] w (RunP w ρ D d 11) := by
  have h1 := Bx.mk (back_none h.bk h0)
  have h2 := Bx.mk (bmUndo_none w h.bm h0)
  obtain ⟨va, vp, vn, hd⟩ := h.ds
  obtain ⟨ao, cap, rfl⟩ := hd.pt.shape h0
  obtain ⟨c0, c1, c2, c3, c4, c5, hl, hz⟩ := hd.cells
  replace h := Bx.mk h
  clear hd hz h0
  go_enter Tryz.func60, Tryz.ntmps60
  go_wp2_with (first
    | (go_at_call 94; refine h1.out.mono ?_; clear h1; rintro e _ ⟨rfl, rfl⟩)
    | (go_at_call 16; refine h2.out.mono ?_; clear h2; rintro e _ ⟨rfl, rfl⟩))
  go_ret2
  exact ⟨rfl, ⟨ρ, Ext.refl _ _, _, _, _, h.out⟩, Fr.refl _ _⟩
set_option maxHeartbeats 32000000 in
theorem back_some {kw u : Nat} (w : World) (h : WS w ρ D T past next d) (hs : Sn w ρ (sl kw 24 24) T) (hu : past.length = u + 1) : Calls Tryz.prog 60 #[pt D.R.bk, pt D.mb, pt D.dk, sl kw 24 24] w (RunP w ρ D d 0) := by
  obtain ⟨S, hS, hTS, hd6, hr⟩ := back_real h.bk hu
  replace hr := Bx.mk hr
  have hm : Bx (∀ w1 ρ1, BM w1 ρ1 D.mb D.M T past next → Calls Tryz.prog 16 #[pt D.mb] w1 (MdP w1 ρ1 (.returned (I 0)) (fun w' ρ' => BM w' ρ' D.mb D.M S (past.take u) (next ++ [T])))) := ⟨fun w1 ρ1 hb => bmUndo_any w1 hb hu hS hd6 hTS⟩
  obtain ⟨va, vp, vn, hd⟩ := h.ds
  obtain ⟨q, hq⟩ : ∃ q, q = u + 1 := ⟨_, rfl⟩
  have hu2 := hu
  rw [← hq] at hu2
  have hq6 : q ≤ 6 := by
    obtain ⟨vp', vn', hb⟩ := h.bm
    have := hb.pl; have := hb.nl; omega
  obtain ⟨b, off, cap, rfl, hcap⟩ := hd.pt.shape1 hu2 (by omega)
  have hq0 : ((q : Int) == 0) = false := by simp; omega
  have hq1 : IntKind.i64.wrap ((q : Int) - 1) = (u : Int) := by simp [IntKind.wrap, IntKind.bits, IntKind.signed]; omega
  have hqI : (q : Int) ≤ 6 := by omega
  have huI : (u : Int) < (q : Int) := by omega
  have huN : u < q := by omega
  have hcI : (q : Int) ≤ (cap : Int) := by omega
  have hP : Bx (∀ w1 ρ1 v, LT w1 ρ1 6 v next → Sn w1 ρ1 (sl kw 24 24) T → Calls Tryz.prog 93 #[v, sl kw 24 24] w1 (PushP w1 ρ1 6 (next ++ [T]))) := ⟨fun w1 ρ1 v h1 h2 => by have := push_any w1 h1 h2 (by omega) (by decide : 6 ≠ 0); rw [pushL_few hd6] at this; exact this⟩
  have hX0 : Bx (Ext w ρ ρ) := ⟨Ext.refl _ _⟩
  replace hs := Bx.mk hs
  replace hS := Bx.mk hS
  replace hd := Bx.mk hd
  have hbm := Bx.mk h.bm
  replace hu := Bx.mk hu
  replace hu2 := Bx.mk hu2
  replace hq := Bx.mk hq
  replace hTS := Bx.mk hTS
  clear h hd6
  go_enter Tryz.func60, Tryz.ntmps60
  go_wp2_with (first
    | (go_at_call 94; refine hr.out.mono ?_; clear hr; rintro e w1 ⟨rfl, hbk, hf1⟩; replace hd := Bx.mk (hd.out.fr hf1 (fun k hk e => by omega) (Ext.refl _ _)); replace hbm := hbm.out.fr hf1 (fun k hk e => by unfold MC at hk; omega) (Ext.refl _ _); replace hs := Bx.mk (hs.out.fr hf1 (fun k hk e => by omega) (Ext.refl _ _)); replace hm := Bx.mk (hm.out w1 ρ hbm); clear hbm; replace hbk := Bx.mk hbk; have hf := Bx.mk (fr1 hf1); clear hf1)
    | (go_at_call 16; refine hm.out.mono ?_; clear hm; rintro e w2 ⟨rfl, ⟨ρ2, hx2, hbm⟩, hf2⟩; replace hd := Bx.mk (hd.out.fr hf2 (fun k hk e => by unfold MC at e; omega) hx2); replace hs := Bx.mk (hs.out.fr hf2 (fun k hk e => by unfold MC at e; omega) hx2); replace hbk := Bx.mk (hbk.out.fr hf2 (fun k hk e => by unfold MC at e; omega) hx2); have hx3 := hX0.out.trans hx2 hf.out.size; replace hf := Bx.mk (Fr.col (P := fun n => n ≠ 0) hf.out (Ext.refl _ _) (hf2.mono (fun k hk => by unfold MC at hk; omega))); replace hX0 := Bx.mk hx3; clear hx3 hx2 hf2; replace hbm := Bx.mk hbm; obtain ⟨c0, c1, c2, c3, c4, c5, hl, hz⟩ := hd.out.cells; clear hz))
  obtain ⟨b', off', cap', ho⟩ := hd.out.pt.open1 (by have := hu2.out; omega)
  have he := ho.e
  injection he with he1 he2 he3
  injection he1 with he4
  injection he4 with he5 he6 he7
  subst he5 he6
  obtain ⟨kS, m0, hk0, hrS⟩ := ho.el u S hS.out
  have hbl := ho.lt
  have hsS : Bx (Sn w2 ρ2 (sl kS 24 24) S) := ⟨⟨⟨kS, rfl, hk0, hrS⟩⟩⟩
  clear ho he2 he3 he7 hk0 hrS
  go_quiet (fail)
  go_wp2_with fail
  have hdn : Bx (∀ n, Fr S0 w2 (w2.drewN n)) := ⟨fun n => (Fr.refl S0 w2).drewN n⟩
  generalize hnq : w2.drewN _ = wn
  replace hdn : Bx (Fr S0 w2 wn) := ⟨hnq ▸ hdn.out _⟩
  clear hnq
  replace hd := Bx.mk (hd.out.fr hdn.out (fun _ _ e => e) (Ext.refl _ _))
  replace hs := Bx.mk (hs.out.fr hdn.out (fun _ _ e => e) (Ext.refl _ _))
  replace hsS := Bx.mk (hsS.out.fr hdn.out (fun _ _ e => e) (Ext.refl _ _))
  replace hbk := Bx.mk (hbk.out.fr hdn.out (fun _ _ e => e) (Ext.refl _ _))
  replace hbm := Bx.mk (hbm.out.fr hdn.out (fun _ _ e => e) (Ext.refl _ _))
  replace hf := Bx.mk (hf.out.trans hdn.out.up)
  clear c0 c1 c2 c3 c4 c5 hl m0 hbl hdn
  obtain ⟨c0, c1, c2, c3, c4, c5, hl, hz⟩ := hd.out.cells
  have z4 := hz 4
  have z5 := hz 5
  clear hz
  have hcut := hd.out.setP (hd.out.pt.take u (by have := hu2.out; omega))
  have hco := hd.out.co
  have hpost := Bx.mk (show DX (wn.setCell ⟨D.dk, 4, none⟩ (.slice (some ⟨b, off, none⟩) u cap)).drew ρ2 D.dk d (past.take u) next va (.slice (some ⟨b, off, none⟩) u cap) vn ∧ BKH (wn.setCell ⟨D.dk, 4, none⟩ (.slice (some ⟨b, off, none⟩) u cap)).drew ρ2 D S (past.take u) (next ++ [T]) ∧ BM (wn.setCell ⟨D.dk, 4, none⟩ (.slice (some ⟨b, off, none⟩) u cap)).drew ρ2 D.mb D.M S (past.take u) (next ++ [T]) ∧ Sn (wn.setCell ⟨D.dk, 4, none⟩ (.slice (some ⟨b, off, none⟩) u cap)).drew ρ2 (sl kw 24 24) T ∧ Sn (wn.setCell ⟨D.dk, 4, none⟩ (.slice (some ⟨b, off, none⟩) u cap)).drew ρ2 (sl kS 24 24) S ∧ Fr (fun k => ρ k ≠ 0) w (wn.setCell ⟨D.dk, 4, none⟩ (.slice (some ⟨b, off, none⟩) u cap)).drew from
    ⟨hcut.fr ((Fr.refl S0 _).drew) (fun _ _ e => e) (Ext.refl _ _), (hbk.out.dk hco 4 _).fr ((Fr.refl S0 _).drew) (fun _ _ e => e) (Ext.refl _ _), (hbm.out.dk hco 4 _).fr ((Fr.refl S0 _).drew) (fun _ _ e => e) (Ext.refl _ _), hs.out.fr (((Fr.refl (Cq ρ2 7) wn).setCell (p := ⟨D.dk, 4, none⟩) (.inl hco) _).drew) (fun k hk e => by simp only [Cq] at e; omega) (Ext.refl _ _), hsS.out.fr (((Fr.refl (Cq ρ2 7) wn).setCell (p := ⟨D.dk, 4, none⟩) (.inl hco) _).drew) (fun k hk e => by simp only [Cq] at e; omega) (Ext.refl _ _), (fr_dkS hf.out hX0.out hco 4 _).drew⟩)
  clear hcut hco hd hs hsS hbk hbm hf
  refine region_cut (fun w' => Bx (DX w' ρ2 D.dk d (past.take u) next va (.slice (some ⟨b, off, none⟩) u cap) vn ∧ BKH w' ρ2 D S (past.take u) (next ++ [T]) ∧ BM w' ρ2 D.mb D.M S (past.take u) (next ++ [T]) ∧ Sn w' ρ2 (sl kw 24 24) T ∧ Sn w' ρ2 (sl kS 24 24) S ∧ Fr (fun k => ρ k ≠ 0) w w')) ?_
  apply Exists.intro
  apply And.intro
  · go_region
    all_goals exact ⟨rfl, hpost⟩
  rintro wq ⟨hd, hbk, hbm, hs, hsS, hf⟩
  clear hpost c0 c1 c2 c3 c4 c5 hl z4 z5
  obtain ⟨c0, c1, c2, c3, c4, c5, hl, hz⟩ := hd.cells
  have z4 := hz 4
  have z5 := hz 5
  clear hz
  replace hP := Bx.mk (hP.out wq ρ2 _ hd.nt hs)
  have hT20 : Bx (∀ w3 ρ3, BM w3 ρ3 D.mb D.M S (past.take u) (next ++ [T]) → Calls Tryz.prog 20 #[pt D.mb] w3 fun e w' => ∃ k, e = .returned (sl k 24 24) ∧ w3.heap.size ≤ k ∧ k < w'.heap.size ∧ Row w' k 24 (fun j => .string (S j)) ∧ Fr S0 w3 w') := ⟨fun w3 ρ3 hb => texts20_any w3 hb⟩
  have hTr : Bx (∀ w4 k, Row w4 k 24 (fun j => .string (S j)) → Row w4 kS 24 (fun j => .string (S j)) → Calls Tryz.prog 30 #[sl k 24 24, sl kS 24 24] w4 fun e w' => e = .returned (I 0) ∧ Fr S0 w4 w') := ⟨fun w4 k h1 h2 => by
    refine (turned_any w4 h1 h2).mono ?_
    rintro e w' ⟨n, rfl, -, h0, hf⟩
    have := h0 (fun _ _ => rfl)
    subst this
    exact ⟨rfl, hf⟩⟩
  replace hd := Bx.mk hd
  replace hbk := Bx.mk hbk
  replace hbm := Bx.mk hbm
  replace hsS := Bx.mk hsS
  replace hf := Bx.mk hf
  clear hs
  obtain ⟨nd, hnd⟩ : ∃ nd, (next ++ [T]).length = nd := ⟨_, rfl⟩
  replace hnd := Bx.mk hnd
  go_wp2_with (first
    | (go_at_call 93; refine hP.out.mono ?_; clear hP; rintro e w3 ⟨v3, rfl, ⟨ρ3, hx3, hl3⟩, hf3⟩; obtain ⟨ao3, cap3, rfl⟩ := hl3.shape hnd.out; have hd3 := hd.out.moveN hf3 hx3 hl3; clear c0 c1 c2 c3 c4 c5 hl z4 z5; have hd3r := hf3.row hd.out.ls (fun e => by simp only [Cq] at e; have := hd.out.co; omega); have cD := hd3r.cell 5 (by omega); have hl := hd3r.lt; have zD := hd3r.frozen 5; clear hd3r; have hco := hd3.co; replace hbk := Bx.mk ((hbk.out.fr hf3 (fun k hk e => by simp only [Cq] at e; omega) hx3).dk hco 5 (.slice ao3 nd cap3)); replace hbm := Bx.mk ((hbm.out.fr hf3 (fun k hk e => by simp only [Cq] at e; unfold MC at hk; omega) hx3).dk hco 5 (.slice ao3 nd cap3)); replace hsS := Bx.mk ((hsS.out.fr hf3 (fun k hk e => by simp only [Cq] at e; omega) hx3).fr (fr_dk hco 5 (.slice ao3 nd cap3)) (fun k hk e => by simp only [Cq] at e; omega) (Ext.refl _ _)); have hx4 : Ext w ρ ρ3 := hX0.out.trans hx3 hf.out.size; replace hf := Bx.mk (fr_dkS (Fr.col (P := fun n => n ≠ 0) hf.out hX0.out (hf3.mono (fun k hk => by simp only [Cq] at hk; omega))) hx4 hco 5 (.slice ao3 nd cap3)); replace hX0 := Bx.mk hx4; clear hx4 hx3 hl3 hf3 hco hd; replace hd3 := Bx.mk hd3; replace hT20 := Bx.mk (hT20.out _ _ hbm.out))
    | (go_at_call 20; refine hT20.out.mono ?_; clear hT20; rintro e w4 ⟨k4, rfl, -, -, hr4, hf4⟩; replace hTr := Bx.mk (hTr.out w4 k4 hr4 (hf4.row0 (sn_row hsS.out))); replace hf4 := Bx.mk hf4; clear hr4 hsS cD hl zD)
    | (go_at_call 30; refine hTr.out.mono ?_; clear hTr; rintro e w5 ⟨rfl, hf5⟩; replace hf5 := Bx.mk (hf4.out.trans hf5)))
  go_ret2
  refine ⟨rfl, ⟨ρ3, hX0.out, S, (past.take u), (next ++ [T]), ?_⟩, hf.out.trans hf5.out.up⟩
  exact WS.fr0 ⟨hbk.out, hbm.out, _, _, _, hd3.out⟩ hf5.out

set_option maxHeartbeats 4000000 in
theorem forth_zero {kw : Nat} (w : World) (h : WS w ρ D T past next d) (h0 : next.length = 0) : Calls Tryz.prog 61 #[pt D.R.bk, pt D.mb, pt D.dk, sl kw 24 24] w (RunP w ρ D d 11) := by
  have h1 := Bx.mk (forth_none h.bk h0)
  have h2 := Bx.mk (bmRedo_none w h.bm h0)
  obtain ⟨va, vp, vn, hd⟩ := h.ds
  obtain ⟨ao, cap, rfl⟩ := hd.nt.shape h0
  obtain ⟨c0, c1, c2, c3, c4, c5, hl, hz⟩ := hd.cells
  replace h := Bx.mk h
  clear hd hz h0
  go_enter Tryz.func61, Tryz.ntmps61
  go_wp2_with (first
    | (go_at_call 95; refine h1.out.mono ?_; clear h1; rintro e _ ⟨rfl, rfl⟩)
    | (go_at_call 17; refine h2.out.mono ?_; clear h2; rintro e _ ⟨rfl, rfl⟩))
  go_ret2
  exact ⟨rfl, ⟨ρ, Ext.refl _ _, _, _, _, h.out⟩, Fr.refl _ _⟩
set_option maxHeartbeats 32000000 in
theorem forth_some {kw u : Nat} (w : World) (h : WS w ρ D T past next d) (hs : Sn w ρ (sl kw 24 24) T) (hu : next.length = u + 1) : Calls Tryz.prog 61 #[pt D.R.bk, pt D.mb, pt D.dk, sl kw 24 24] w (RunP w ρ D d 0) := by
  obtain ⟨S, hS, hTS, hd6, hr⟩ := forth_real h.bk hu
  replace hr := Bx.mk hr
  have hm : Bx (∀ w1 ρ1, BM w1 ρ1 D.mb D.M T past next → Calls Tryz.prog 17 #[pt D.mb] w1 (MdP w1 ρ1 (.returned (I 0)) (fun w' ρ' => BM w' ρ' D.mb D.M S (past ++ [T]) (next.take u)))) := ⟨fun w1 ρ1 hb => bmRedo_any w1 hb hu hS hd6 hTS⟩
  obtain ⟨va, vp, vn, hd⟩ := h.ds
  obtain ⟨q, hq⟩ : ∃ q, q = u + 1 := ⟨_, rfl⟩
  have hu2 := hu
  rw [← hq] at hu2
  have hq6 : q ≤ 6 := by
    obtain ⟨vp', vn', hb⟩ := h.bm
    have := hb.pl; have := hb.nl; omega
  obtain ⟨b, off, cap, rfl, hcap⟩ := hd.nt.shape1 hu2 (by omega)
  have hq0 : ((q : Int) == 0) = false := by simp; omega
  have hq1 : IntKind.i64.wrap ((q : Int) - 1) = (u : Int) := by simp [IntKind.wrap, IntKind.bits, IntKind.signed]; omega
  have hqI : (q : Int) ≤ 6 := by omega
  have huI : (u : Int) < (q : Int) := by omega
  have huN : u < q := by omega
  have hcI : (q : Int) ≤ (cap : Int) := by omega
  have hP : Bx (∀ w1 ρ1 v, LT w1 ρ1 5 v past → Sn w1 ρ1 (sl kw 24 24) T → Calls Tryz.prog 93 #[v, sl kw 24 24] w1 (PushP w1 ρ1 5 (past ++ [T]))) := ⟨fun w1 ρ1 v h1 h2 => by have := push_any w1 h1 h2 (by omega) (by decide : 5 ≠ 0); rw [pushL_few hd6] at this; exact this⟩
  have hX0 : Bx (Ext w ρ ρ) := ⟨Ext.refl _ _⟩
  replace hs := Bx.mk hs
  replace hS := Bx.mk hS
  replace hd := Bx.mk hd
  have hbm := Bx.mk h.bm
  replace hu := Bx.mk hu
  replace hu2 := Bx.mk hu2
  replace hq := Bx.mk hq
  replace hTS := Bx.mk hTS
  clear h hd6
  go_enter Tryz.func61, Tryz.ntmps61
  go_wp2_with (first
    | (go_at_call 95; refine hr.out.mono ?_; clear hr; rintro e w1 ⟨rfl, hbk, hf1⟩; replace hd := Bx.mk (hd.out.fr hf1 (fun k hk e => by omega) (Ext.refl _ _)); replace hbm := hbm.out.fr hf1 (fun k hk e => by unfold MC at hk; omega) (Ext.refl _ _); replace hs := Bx.mk (hs.out.fr hf1 (fun k hk e => by omega) (Ext.refl _ _)); replace hm := Bx.mk (hm.out w1 ρ hbm); clear hbm; replace hbk := Bx.mk hbk; have hf := Bx.mk (fr1 hf1); clear hf1)
    | (go_at_call 17; refine hm.out.mono ?_; clear hm; rintro e w2 ⟨rfl, ⟨ρ2, hx2, hbm⟩, hf2⟩; replace hd := Bx.mk (hd.out.fr hf2 (fun k hk e => by unfold MC at e; omega) hx2); replace hs := Bx.mk (hs.out.fr hf2 (fun k hk e => by unfold MC at e; omega) hx2); replace hbk := Bx.mk (hbk.out.fr hf2 (fun k hk e => by unfold MC at e; omega) hx2); have hx3 := hX0.out.trans hx2 hf.out.size; replace hf := Bx.mk (Fr.col (P := fun n => n ≠ 0) hf.out (Ext.refl _ _) (hf2.mono (fun k hk => by unfold MC at hk; omega))); replace hX0 := Bx.mk hx3; clear hx3 hx2 hf2; replace hbm := Bx.mk hbm; obtain ⟨c0, c1, c2, c3, c4, c5, hl, hz⟩ := hd.out.cells; clear hz))
  obtain ⟨b', off', cap', ho⟩ := hd.out.nt.open1 (by have := hu2.out; omega)
  have he := ho.e
  injection he with he1 he2 he3
  injection he1 with he4
  injection he4 with he5 he6 he7
  subst he5 he6
  obtain ⟨kS, m0, hk0, hrS⟩ := ho.el u S hS.out
  have hbl := ho.lt
  have hsS : Bx (Sn w2 ρ2 (sl kS 24 24) S) := ⟨⟨⟨kS, rfl, hk0, hrS⟩⟩⟩
  clear ho he2 he3 he7 hk0 hrS
  go_quiet (fail)
  go_wp2_with fail
  have hdn : Bx (∀ n, Fr S0 w2 (w2.drewN n)) := ⟨fun n => (Fr.refl S0 w2).drewN n⟩
  generalize hnq : w2.drewN _ = wn
  replace hdn : Bx (Fr S0 w2 wn) := ⟨hnq ▸ hdn.out _⟩
  clear hnq
  replace hd := Bx.mk (hd.out.fr hdn.out (fun _ _ e => e) (Ext.refl _ _))
  replace hs := Bx.mk (hs.out.fr hdn.out (fun _ _ e => e) (Ext.refl _ _))
  replace hsS := Bx.mk (hsS.out.fr hdn.out (fun _ _ e => e) (Ext.refl _ _))
  replace hbk := Bx.mk (hbk.out.fr hdn.out (fun _ _ e => e) (Ext.refl _ _))
  replace hbm := Bx.mk (hbm.out.fr hdn.out (fun _ _ e => e) (Ext.refl _ _))
  replace hf := Bx.mk (hf.out.trans hdn.out.up)
  clear c0 c1 c2 c3 c4 c5 hl m0 hbl hdn
  obtain ⟨c0, c1, c2, c3, c4, c5, hl, hz⟩ := hd.out.cells
  have z4 := hz 4
  have z5 := hz 5
  clear hz
  have hcut := hd.out.setN (hd.out.nt.take u (by have := hu2.out; omega))
  have hco := hd.out.co
  have hpost := Bx.mk (show DX (wn.setCell ⟨D.dk, 5, none⟩ (.slice (some ⟨b, off, none⟩) u cap)).drew ρ2 D.dk d past (next.take u) va vp (.slice (some ⟨b, off, none⟩) u cap) ∧ BKH (wn.setCell ⟨D.dk, 5, none⟩ (.slice (some ⟨b, off, none⟩) u cap)).drew ρ2 D S (past ++ [T]) (next.take u) ∧ BM (wn.setCell ⟨D.dk, 5, none⟩ (.slice (some ⟨b, off, none⟩) u cap)).drew ρ2 D.mb D.M S (past ++ [T]) (next.take u) ∧ Sn (wn.setCell ⟨D.dk, 5, none⟩ (.slice (some ⟨b, off, none⟩) u cap)).drew ρ2 (sl kw 24 24) T ∧ Sn (wn.setCell ⟨D.dk, 5, none⟩ (.slice (some ⟨b, off, none⟩) u cap)).drew ρ2 (sl kS 24 24) S ∧ Fr (fun k => ρ k ≠ 0) w (wn.setCell ⟨D.dk, 5, none⟩ (.slice (some ⟨b, off, none⟩) u cap)).drew from
    ⟨hcut.fr ((Fr.refl S0 _).drew) (fun _ _ e => e) (Ext.refl _ _), (hbk.out.dk hco 5 _).fr ((Fr.refl S0 _).drew) (fun _ _ e => e) (Ext.refl _ _), (hbm.out.dk hco 5 _).fr ((Fr.refl S0 _).drew) (fun _ _ e => e) (Ext.refl _ _), hs.out.fr (((Fr.refl (Cq ρ2 7) wn).setCell (p := ⟨D.dk, 5, none⟩) (.inl hco) _).drew) (fun k hk e => by simp only [Cq] at e; omega) (Ext.refl _ _), hsS.out.fr (((Fr.refl (Cq ρ2 7) wn).setCell (p := ⟨D.dk, 5, none⟩) (.inl hco) _).drew) (fun k hk e => by simp only [Cq] at e; omega) (Ext.refl _ _), (fr_dkS hf.out hX0.out hco 5 _).drew⟩)
  clear hcut hco hd hs hsS hbk hbm hf
  refine region_cut (fun w' => Bx (DX w' ρ2 D.dk d past (next.take u) va vp (.slice (some ⟨b, off, none⟩) u cap) ∧ BKH w' ρ2 D S (past ++ [T]) (next.take u) ∧ BM w' ρ2 D.mb D.M S (past ++ [T]) (next.take u) ∧ Sn w' ρ2 (sl kw 24 24) T ∧ Sn w' ρ2 (sl kS 24 24) S ∧ Fr (fun k => ρ k ≠ 0) w w')) ?_
  apply Exists.intro
  apply And.intro
  · go_region
    all_goals exact ⟨rfl, hpost⟩
  rintro wq ⟨hd, hbk, hbm, hs, hsS, hf⟩
  clear hpost c0 c1 c2 c3 c4 c5 hl z4 z5
  obtain ⟨c0, c1, c2, c3, c4, c5, hl, hz⟩ := hd.cells
  have z4 := hz 4
  have z5 := hz 5
  clear hz
  replace hP := Bx.mk (hP.out wq ρ2 _ hd.pt hs)
  have hT20 : Bx (∀ w3 ρ3, BM w3 ρ3 D.mb D.M S (past ++ [T]) (next.take u) → Calls Tryz.prog 20 #[pt D.mb] w3 fun e w' => ∃ k, e = .returned (sl k 24 24) ∧ w3.heap.size ≤ k ∧ k < w'.heap.size ∧ Row w' k 24 (fun j => .string (S j)) ∧ Fr S0 w3 w') := ⟨fun w3 ρ3 hb => texts20_any w3 hb⟩
  have hTr : Bx (∀ w4 k, Row w4 k 24 (fun j => .string (S j)) → Row w4 kS 24 (fun j => .string (S j)) → Calls Tryz.prog 30 #[sl k 24 24, sl kS 24 24] w4 fun e w' => e = .returned (I 0) ∧ Fr S0 w4 w') := ⟨fun w4 k h1 h2 => by
    refine (turned_any w4 h1 h2).mono ?_
    rintro e w' ⟨n, rfl, -, h0, hf⟩
    have := h0 (fun _ _ => rfl)
    subst this
    exact ⟨rfl, hf⟩⟩
  replace hd := Bx.mk hd
  replace hbk := Bx.mk hbk
  replace hbm := Bx.mk hbm
  replace hsS := Bx.mk hsS
  replace hf := Bx.mk hf
  clear hs
  obtain ⟨nd, hnd⟩ : ∃ nd, (past ++ [T]).length = nd := ⟨_, rfl⟩
  replace hnd := Bx.mk hnd
  go_wp2_with (first
    | (go_at_call 93; refine hP.out.mono ?_; clear hP; rintro e w3 ⟨v3, rfl, ⟨ρ3, hx3, hl3⟩, hf3⟩; obtain ⟨ao3, cap3, rfl⟩ := hl3.shape hnd.out; have hd3 := hd.out.moveP hf3 hx3 hl3; clear c0 c1 c2 c3 c4 c5 hl z4 z5; have hd3r := hf3.row hd.out.ls (fun e => by simp only [Cq] at e; have := hd.out.co; omega); have cD := hd3r.cell 4 (by omega); have hl := hd3r.lt; have zD := hd3r.frozen 4; clear hd3r; have hco := hd3.co; replace hbk := Bx.mk ((hbk.out.fr hf3 (fun k hk e => by simp only [Cq] at e; omega) hx3).dk hco 4 (.slice ao3 nd cap3)); replace hbm := Bx.mk ((hbm.out.fr hf3 (fun k hk e => by simp only [Cq] at e; unfold MC at hk; omega) hx3).dk hco 4 (.slice ao3 nd cap3)); replace hsS := Bx.mk ((hsS.out.fr hf3 (fun k hk e => by simp only [Cq] at e; omega) hx3).fr (fr_dk hco 4 (.slice ao3 nd cap3)) (fun k hk e => by simp only [Cq] at e; omega) (Ext.refl _ _)); have hx4 : Ext w ρ ρ3 := hX0.out.trans hx3 hf.out.size; replace hf := Bx.mk (fr_dkS (Fr.col (P := fun n => n ≠ 0) hf.out hX0.out (hf3.mono (fun k hk => by simp only [Cq] at hk; omega))) hx4 hco 4 (.slice ao3 nd cap3)); replace hX0 := Bx.mk hx4; clear hx4 hx3 hl3 hf3 hco hd; replace hd3 := Bx.mk hd3; replace hT20 := Bx.mk (hT20.out _ _ hbm.out))
    | (go_at_call 20; refine hT20.out.mono ?_; clear hT20; rintro e w4 ⟨k4, rfl, -, -, hr4, hf4⟩; replace hTr := Bx.mk (hTr.out w4 k4 hr4 (hf4.row0 (sn_row hsS.out))); replace hf4 := Bx.mk hf4; clear hr4 hsS cD hl zD)
    | (go_at_call 30; refine hTr.out.mono ?_; clear hTr; rintro e w5 ⟨rfl, hf5⟩; replace hf5 := Bx.mk (hf4.out.trans hf5)))
  go_ret2
  refine ⟨rfl, ⟨ρ3, hX0.out, S, (past ++ [T]), (next.take u), ?_⟩, hf.out.trans hf5.out.up⟩
  exact WS.fr0 ⟨hbk.out, hbm.out, _, _, _, hd3.out⟩ hf5.out

end
end Go.Proofs.Qxb6500326aGreat
