import Derived.Test.Qxb6500326aGreatJ4
namespace Go.Proofs.Qxb6500326aGreat
set_option maxRecDepth 100000
set_option linter.unusedVariables false
set_option linter.unusedSimpArgs false
open Go.RowKit Go.PlainAid
section
variable {w w' : World} {ρ ρ' : Nat → Nat} {mk : Nat} {M : YA} {T T' S : Tx} {vp vn v : Value} {past next L : List Tx} {c : Nat}

theorem ready_past {kw : Nat} (h : BX w ρ mk M T past next vp vn) (hs : Sn w ρ (sl kw 24 24) T') : ∃ ks, LV (w.alloc (.cells #[sl kw 24 24] 38)) ρ 3 vp ks ∧ ks.length ≤ 100 ∧ (w.alloc (.cells #[sl kw 24 24] 38)).cell? ⟨w.heap.size, 0, none⟩ = some (sl kw 24 24) ∧
    ∀ v1 w1 ρ1, Ext (w.alloc (.cells #[sl kw 24 24] 38)) ρ ρ1 → LV w1 ρ1 3 v1 (ks ++ [sl kw 24 24]) → Fr (Cq ρ 3) (w.alloc (.cells #[sl kw 24 24] 38)) w1 → LT w1 ρ1 3 v1 (past ++ [T']) ∧ BY w1 ρ1 mk M T vp vn ∧ LT w1 ρ1 4 vn next ∧ Fr (fun k => MC (ρ k)) w w1 ∧ Ext w ρ ρ1 := by
  obtain ⟨ks, hLV, h2, h3⟩ := h.pt
  have hfa : Fr S0 w (w.alloc (.cells #[sl kw 24 24] 38)) := (Fr.refl S0 w).alloc _
  exact ⟨ks, hLV.fr hfa (fun _ _ e => e) (Ext.refl _ _), by have := h.pl; have := h.nl; omega, cell_one w (sl kw 24 24) 38, fun v1 w1 ρ1 => app_past (v1 := v1) (w1 := w1) (ρ1 := ρ1) (w0 := w) (h.fr0 hfa) h2 (fun i S hi => by obtain ⟨z, hz, hq⟩ := h3 i S hi; exact ⟨z, hz, hq.fr hfa (fun _ _ e => e) (Ext.refl _ _)⟩) (hs.fr hfa (fun _ _ e => e) (Ext.refl _ _)) hfa.up hfa.size⟩

theorem ready_next {kw : Nat} (h : BX w ρ mk M T past next vp vn) (hs : Sn w ρ (sl kw 24 24) T') : ∃ ks, LV (w.alloc (.cells #[sl kw 24 24] 38)) ρ 4 vn ks ∧ ks.length ≤ 100 ∧ (w.alloc (.cells #[sl kw 24 24] 38)).cell? ⟨w.heap.size, 0, none⟩ = some (sl kw 24 24) ∧
    ∀ v1 w1 ρ1, Ext (w.alloc (.cells #[sl kw 24 24] 38)) ρ ρ1 → LV w1 ρ1 4 v1 (ks ++ [sl kw 24 24]) → Fr (Cq ρ 4) (w.alloc (.cells #[sl kw 24 24] 38)) w1 → LT w1 ρ1 4 v1 (next ++ [T']) ∧ BY w1 ρ1 mk M T vp vn ∧ LT w1 ρ1 3 vp past ∧ Fr (fun k => MC (ρ k)) w w1 ∧ Ext w ρ ρ1 := by
  obtain ⟨ks, hLV, h2, h3⟩ := h.nt
  have hfa : Fr S0 w (w.alloc (.cells #[sl kw 24 24] 38)) := (Fr.refl S0 w).alloc _
  exact ⟨ks, hLV.fr hfa (fun _ _ e => e) (Ext.refl _ _), by have := h.pl; have := h.nl; omega, cell_one w (sl kw 24 24) 38, fun v1 w1 ρ1 => app_next (v1 := v1) (w1 := w1) (ρ1 := ρ1) (w0 := w) (h.fr0 hfa) h2 (fun i S hi => by obtain ⟨z, hz, hq⟩ := h3 i S hi; exact ⟨z, hz, hq.fr hfa (fun _ _ e => e) (Ext.refl _ _)⟩) (hs.fr hfa (fun _ _ e => e) (Ext.refl _ _)) hfa.up hfa.size⟩

theorem bx_setN {v1 : Value} (h : BY w ρ mk M T vp vn) (hp : LT w ρ 3 vp past) (hn : LT w ρ 4 v1 next) (h1 : past.length ≤ 6) (h2 : next.length ≤ 6) : BX (w.setCell ⟨mk, 2, none⟩ v1) ρ mk M T past next vp v1 :=
  ⟨h.setN _, hp.set8 (by decide) h.co 2 _, hn.set8 (by decide) h.co 2 _, h1, h2⟩
theorem bx_setP {v1 : Value} (h : BY w ρ mk M T vp vn) (hp : LT w ρ 3 v1 past) (hn : LT w ρ 4 vn next) (h1 : past.length ≤ 6) (h2 : next.length ≤ 6) : BX (w.setCell ⟨mk, 1, none⟩ v1) ρ mk M T past next v1 vn :=
  ⟨h.setP _, hp.set8 (by decide) h.co 1 _, hn.set8 (by decide) h.co 1 _, h1, h2⟩

set_option maxHeartbeats 2000000 in
theorem bmUndo_none (w : World) (h : BM w ρ mk M T past next) (h0 : past.length = 0) : Calls Tryz.prog 16 #[pt mk] w fun e w' => e = .returned (I 11) ∧ w = w' := by
  obtain ⟨vp, vn, h⟩ := h
  obtain ⟨ao, cap, rfl⟩ := h.pt.shape h0
  obtain ⟨c0, c1, c2, hl, z1, z2⟩ := h.by'.cells
  clear h h0
  go_enter Tryz.func16, Tryz.ntmps16
  go_wp2_with fail
  go_ret
  exact ⟨rfl, rfl⟩
set_option maxHeartbeats 16000000 in
theorem bmUndo_w {u : Nat} (w : World) (h : BX w ρ mk M T past next vp vn) (h1 : past.length = u + 1) (hu : past[u]? = some S) (hn : next.length < 6) (hS : TxO S) : Calls Tryz.prog 16 #[pt mk] w (MdP w ρ (.returned (I 0)) (fun w' ρ' => BM w' ρ' mk M S (past.take u) (next ++ [T]))) := by
  obtain ⟨q, hq⟩ : ∃ q, q = u + 1 := ⟨_, rfl⟩
  rw [← hq] at h1
  have hq6 : q ≤ 6 := by have := h.pl; have := h.nl; omega
  obtain ⟨b, off, cap, rfl, hcap⟩ := h.pt.shape1 h1 (by omega)
  have hq0 : ((q : Int) == 0) = false := by simp; omega
  have hq1 : IntKind.i64.wrap ((q : Int) - 1) = (u : Int) := by simp [IntKind.wrap, IntKind.bits, IntKind.signed]; omega
  have hqI : (q : Int) ≤ 6 := by omega
  have huI : (u : Int) < (q : Int) := by omega
  have huN : u < q := by omega
  have hcI : (q : Int) ≤ (cap : Int) := by omega
  obtain ⟨c0, c1, c2, hl, z1, z2⟩ := h.by'.cells
  have hA := Bx.mk (snap_any w c0 hl h.by'.ed)
  have hd6 : Bx ((next ++ [T]).length ≤ 6) := ⟨by simp; omega⟩
  obtain ⟨nd, hnd⟩ : ∃ nd, (next ++ [T]).length = nd := ⟨_, rfl⟩
  replace hnd := Bx.mk hnd
  have hs6 := Bx.mk (show past.length ≤ 6 by omega)
  replace h := Bx.mk h
  replace h1 := Bx.mk h1
  replace hu := Bx.mk hu
  replace hS := Bx.mk hS
  replace hq := Bx.mk hq
  clear hn
  go_enter Tryz.func16, Tryz.ntmps16
  go_wp2_with (first
    | (go_at_call 36; refine hA.out.mono ?_; clear hA c0 c1 c2 hl z1 z2; rintro e w1 ⟨k, rfl, hk, hk2, hr, hf⟩; obtain ⟨hb, hsn, hx1⟩ := snapped h.out hf hk hr; clear hr hk2; obtain ⟨c0, c1, c2, hl, z1, z2⟩ := hb.by'.cells; obtain ⟨ks, hLV1, hks, hcell, hkey⟩ := ready_next hb hsn; clear hb hsn; replace hLV1 := Bx.mk hLV1; replace hks := Bx.mk hks; replace hcell := Bx.mk hcell; replace hkey := Bx.mk hkey; replace hx1 := Bx.mk hx1; replace hf := Bx.mk (Fr.up (S := fun k => MC (ρ k)) hf); replace hk := Bx.mk hk; generalize ext ρ w.heap.size k 0 = ρ1 at *)
    | (at_builtin; refine wpList_append_lv rfl _ _ _ rfl hLV1.out rfl hks.out _ 1 (sl k 24 24) rfl hcell.out rfl ?_; intro v1 w2 ρ2 hx2 hlv2 hfr2; obtain ⟨hlt2, hby2, hlo2, hfm2, hext2⟩ := hkey.out v1 w2 ρ2 hx2 hlv2 hfr2; clear hkey hcell hLV1 hx2 hlv2 hfr2 hks c0 c1 c2 hl z1 z2; obtain ⟨ao1, cap1, rfl⟩ := hlt2.shape hnd.out; obtain ⟨c0, c1, c2, hl, z1, z2⟩ := hby2.cells; have hx3 := hx1.out.trans hext2 hf.out.size; replace hf := Bx.mk (fr8 (Fr.col hf.out hx1.out hfm2) hx3 hby2.co 2 (.slice ao1 nd cap1)); replace hx1 := Bx.mk hx3; clear hfm2 hext2 hx3; have hb := Bx.mk (bx_setN hby2 hlo2 hlt2 hs6.out hd6.out); clear hby2 hlt2 hlo2))
  generalize (Value.slice ao1 nd cap1) = v1 at *
  generalize hwb : w2.setCell ⟨mk, 2, none⟩ v1 = wb at *
  clear hwb c0 c1 c2 hl z1 z2
  obtain ⟨c0, c1, c2, hl, z1, z2⟩ := hb.out.by'.cells
  obtain ⟨b', off', cap', ho⟩ := hb.out.pt.open1 (by have := h1.out; omega)
  have he := ho.e
  injection he with he1 he2 he3
  injection he1 with he4
  injection he4 with he5 he6 he7
  subst he5 he6
  obtain ⟨kS, m0, hk0, hrS⟩ := ho.el u S hu.out
  have hbl := ho.lt
  clear ho he2 he3 he7
  have hP : Bx (Calls Tryz.prog 41 #[pt mk, sl kS 24 24] wb.drew fun e w' => e = .returned (.tuple #[]) ∧ (∃ ρ', Ext wb.drew ρ2 ρ' ∧ YB w' ρ' M S) ∧ Fr (Cq ρ2 2) wb.drew w') := ⟨put_any wb.drew c0 hl hb.out.by'.co (hb.out.by'.ed.fr ((Fr.refl S0 wb).drew) (fun _ _ e => e) (Ext.refl _ _)) hb.out.by'.tx hS.out hrS.drew hk0⟩
  clear hk0 hrS
  refine region_cut (fun w' => Bx ((∃ ρ3, Ext w ρ ρ3 ∧ BX w' ρ3 mk M S past (next ++ [T]) (.slice (some ⟨b, off, none⟩) q cap) v1) ∧ Fr (fun k => MC (ρ k)) w w')) ?_
  apply Exists.intro
  apply And.intro
  · go_region_with (first | (go_at_call 41; refine hP.out.mono ?_; rintro e w3 ⟨rfl, ⟨ρ3, hx3, hY⟩, hf3⟩))
    all_goals exact ⟨rfl, ⟨⟨ρ3, hx1.out.trans hx3 hf.out.size, (hb.out.fr0 ((Fr.refl S0 wb).drew)).did hf3 hx3 hY hS.out⟩, Fr.col hf.out.drew hx1.out (hf3.mono (fun k hk => .inl hk))⟩⟩
  rintro wq ⟨⟨ρ3, hx3, hb3⟩, hf3⟩
  clear hP hb hf hx1 c0 c1 c2 hl z1 z2 m0 hbl
  obtain ⟨c0, c1, c2, hl, z1, z2⟩ := hb3.by'.cells
  replace hb3 := Bx.mk hb3
  replace hx3 := Bx.mk hx3
  replace hf3 := Bx.mk hf3
  go_wp2_with fail
  go_region
  all_goals go_wp2_with fail
  all_goals go_ret
  all_goals exact ⟨rfl, ⟨ρ3, hx3.out, _, _, (bx_setP hb3.out.by' (hb3.out.pt.take u (by have := h1.out; omega)) hb3.out.nt (by rw [List.length_take]; omega) hb3.out.nl).fr0 ((Fr.refl S0 _).drew)⟩, (fr8 hf3.out hx3.out hb3.out.by'.co 1 _).drew⟩
theorem bmUndo_any {u : Nat} (w : World) (h : BM w ρ mk M T past next) (h1 : past.length = u + 1) (hu : past[u]? = some S) (hn : next.length < 6) (hS : TxO S) : Calls Tryz.prog 16 #[pt mk] w (MdP w ρ (.returned (I 0)) (fun w' ρ' => BM w' ρ' mk M S (past.take u) (next ++ [T]))) := by
  obtain ⟨vp, vn, h⟩ := h
  exact bmUndo_w w h h1 hu hn hS

set_option maxHeartbeats 2000000 in
theorem bmRedo_none (w : World) (h : BM w ρ mk M T past next) (h0 : next.length = 0) : Calls Tryz.prog 17 #[pt mk] w fun e w' => e = .returned (I 11) ∧ w = w' := by
  obtain ⟨vp, vn, h⟩ := h
  obtain ⟨ao, cap, rfl⟩ := h.nt.shape h0
  obtain ⟨c0, c1, c2, hl, z1, z2⟩ := h.by'.cells
  clear h h0
  go_enter Tryz.func17, Tryz.ntmps17
  go_wp2_with fail
  go_ret
  exact ⟨rfl, rfl⟩
set_option maxHeartbeats 16000000 in
theorem bmRedo_w {u : Nat} (w : World) (h : BX w ρ mk M T past next vp vn) (h1 : next.length = u + 1) (hu : next[u]? = some S) (hn : past.length < 6) (hS : TxO S) : Calls Tryz.prog 17 #[pt mk] w (MdP w ρ (.returned (I 0)) (fun w' ρ' => BM w' ρ' mk M S (past ++ [T]) (next.take u))) := by
  obtain ⟨q, hq⟩ : ∃ q, q = u + 1 := ⟨_, rfl⟩
  rw [← hq] at h1
  have hq6 : q ≤ 6 := by have := h.pl; have := h.nl; omega
  obtain ⟨b, off, cap, rfl, hcap⟩ := h.nt.shape1 h1 (by omega)
  have hq0 : ((q : Int) == 0) = false := by simp; omega
  have hq1 : IntKind.i64.wrap ((q : Int) - 1) = (u : Int) := by simp [IntKind.wrap, IntKind.bits, IntKind.signed]; omega
  have hqI : (q : Int) ≤ 6 := by omega
  have huI : (u : Int) < (q : Int) := by omega
  have huN : u < q := by omega
  have hcI : (q : Int) ≤ (cap : Int) := by omega
  obtain ⟨c0, c1, c2, hl, z1, z2⟩ := h.by'.cells
  have hA := Bx.mk (snap_any w c0 hl h.by'.ed)
  have hd6 : Bx ((past ++ [T]).length ≤ 6) := ⟨by simp; omega⟩
  obtain ⟨nd, hnd⟩ : ∃ nd, (past ++ [T]).length = nd := ⟨_, rfl⟩
  replace hnd := Bx.mk hnd
  have hs6 := Bx.mk (show next.length ≤ 6 by omega)
  replace h := Bx.mk h
  replace h1 := Bx.mk h1
  replace hu := Bx.mk hu
  replace hS := Bx.mk hS
  replace hq := Bx.mk hq
  clear hn
  go_enter Tryz.func17, Tryz.ntmps17
  go_wp2_with (first
    | (go_at_call 36; refine hA.out.mono ?_; clear hA c0 c1 c2 hl z1 z2; rintro e w1 ⟨k, rfl, hk, hk2, hr, hf⟩; obtain ⟨hb, hsn, hx1⟩ := snapped h.out hf hk hr; clear hr hk2; obtain ⟨c0, c1, c2, hl, z1, z2⟩ := hb.by'.cells; obtain ⟨ks, hLV1, hks, hcell, hkey⟩ := ready_past hb hsn; clear hb hsn; replace hLV1 := Bx.mk hLV1; replace hks := Bx.mk hks; replace hcell := Bx.mk hcell; replace hkey := Bx.mk hkey; replace hx1 := Bx.mk hx1; replace hf := Bx.mk (Fr.up (S := fun k => MC (ρ k)) hf); replace hk := Bx.mk hk; generalize ext ρ w.heap.size k 0 = ρ1 at *)
    | (at_builtin; refine wpList_append_lv rfl _ _ _ rfl hLV1.out rfl hks.out _ 1 (sl k 24 24) rfl hcell.out rfl ?_; intro v1 w2 ρ2 hx2 hlv2 hfr2; obtain ⟨hlt2, hby2, hlo2, hfm2, hext2⟩ := hkey.out v1 w2 ρ2 hx2 hlv2 hfr2; clear hkey hcell hLV1 hx2 hlv2 hfr2 hks c0 c1 c2 hl z1 z2; obtain ⟨ao1, cap1, rfl⟩ := hlt2.shape hnd.out; obtain ⟨c0, c1, c2, hl, z1, z2⟩ := hby2.cells; have hx3 := hx1.out.trans hext2 hf.out.size; replace hf := Bx.mk (fr8 (Fr.col hf.out hx1.out hfm2) hx3 hby2.co 1 (.slice ao1 nd cap1)); replace hx1 := Bx.mk hx3; clear hfm2 hext2 hx3; have hb := Bx.mk (bx_setP hby2 hlt2 hlo2 hd6.out hs6.out); clear hby2 hlt2 hlo2))
  generalize (Value.slice ao1 nd cap1) = v1 at *
  generalize hwb : w2.setCell ⟨mk, 1, none⟩ v1 = wb at *
  clear hwb c0 c1 c2 hl z1 z2
  obtain ⟨c0, c1, c2, hl, z1, z2⟩ := hb.out.by'.cells
  obtain ⟨b', off', cap', ho⟩ := hb.out.nt.open1 (by have := h1.out; omega)
  have he := ho.e
  injection he with he1 he2 he3
  injection he1 with he4
  injection he4 with he5 he6 he7
  subst he5 he6
  obtain ⟨kS, m0, hk0, hrS⟩ := ho.el u S hu.out
  have hbl := ho.lt
  clear ho he2 he3 he7
  have hP : Bx (Calls Tryz.prog 41 #[pt mk, sl kS 24 24] wb.drew fun e w' => e = .returned (.tuple #[]) ∧ (∃ ρ', Ext wb.drew ρ2 ρ' ∧ YB w' ρ' M S) ∧ Fr (Cq ρ2 2) wb.drew w') := ⟨put_any wb.drew c0 hl hb.out.by'.co (hb.out.by'.ed.fr ((Fr.refl S0 wb).drew) (fun _ _ e => e) (Ext.refl _ _)) hb.out.by'.tx hS.out hrS.drew hk0⟩
  clear hk0 hrS
  refine region_cut (fun w' => Bx ((∃ ρ3, Ext w ρ ρ3 ∧ BX w' ρ3 mk M S (past ++ [T]) next v1 (.slice (some ⟨b, off, none⟩) q cap)) ∧ Fr (fun k => MC (ρ k)) w w')) ?_
  apply Exists.intro
  apply And.intro
  · go_region_with (first | (go_at_call 41; refine hP.out.mono ?_; rintro e w3 ⟨rfl, ⟨ρ3, hx3, hY⟩, hf3⟩))
    all_goals exact ⟨rfl, ⟨⟨ρ3, hx1.out.trans hx3 hf.out.size, (hb.out.fr0 ((Fr.refl S0 wb).drew)).did hf3 hx3 hY hS.out⟩, Fr.col hf.out.drew hx1.out (hf3.mono (fun k hk => .inl hk))⟩⟩
  rintro wq ⟨⟨ρ3, hx3, hb3⟩, hf3⟩
  clear hP hb hf hx1 c0 c1 c2 hl z1 z2 m0 hbl
  obtain ⟨c0, c1, c2, hl, z1, z2⟩ := hb3.by'.cells
  replace hb3 := Bx.mk hb3
  replace hx3 := Bx.mk hx3
  replace hf3 := Bx.mk hf3
  go_wp2_with fail
  go_region
  all_goals go_wp2_with fail
  all_goals go_ret
  all_goals exact ⟨rfl, ⟨ρ3, hx3.out, _, _, (bx_setN hb3.out.by' hb3.out.pt (hb3.out.nt.take u (by have := h1.out; omega)) hb3.out.pl (by rw [List.length_take]; omega)).fr0 ((Fr.refl S0 _).drew)⟩, (fr8 hf3.out hx3.out hb3.out.by'.co 2 _).drew⟩
theorem bmRedo_any {u : Nat} (w : World) (h : BM w ρ mk M T past next) (h1 : next.length = u + 1) (hu : next[u]? = some S) (hn : past.length < 6) (hS : TxO S) : Calls Tryz.prog 17 #[pt mk] w (MdP w ρ (.returned (I 0)) (fun w' ρ' => BM w' ρ' mk M S (past ++ [T]) (next.take u))) := by
  obtain ⟨vp, vn, h⟩ := h
  exact bmRedo_w w h h1 hu hn hS

end
end Go.Proofs.Qxb6500326aGreat
