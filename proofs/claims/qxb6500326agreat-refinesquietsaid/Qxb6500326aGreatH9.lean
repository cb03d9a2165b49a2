import Derived.Test.Qxb6500326aGreatH8
namespace Go.Proofs.Qxb6500326aGreat
set_option maxRecDepth 100000
set_option linter.unusedVariables false
set_option linter.unusedSimpArgs false
open Go.RowKit Go.PlainAid

section
variable {w w' : World} {R : RA} {A : XA} {T T' : Tx} {H : Nat → Tx} {u r : Nat}
theorem recT_size {X Y : Tx} (hX : TxO X) (hY : TxO Y) (side c : Nat) : (recT X Y side c).size ≤ 40 := by
  unfold recT
  split
  · split
    · exact hX.size c
    · exact hY.size c
  · decide
theorem lay_back {X Y : Tx} (hX : TxO X) (hY : TxO Y) {po : Nat → ByteArray} {S : BitVec 32} {s : Nat} (hS : S = recS X Y) (hp : ∀ c, c < 24 → po (placeP s c 0) = recT X Y 0 c) : layTo S (fun c => po (placeP s c 0)) Y 24 = X := funext fun c => by
  rw [← rec_over (A := X) (B := Y) (fun c hc => by rw [hX.out c hc, hY.out c hc]) c]
  unfold layTo
  subst hS
  cases hb : (recS X Y).getLsbD c
  · rw [if_neg (by simp), if_neg (by simp)]
  · have hc := recS_lt hb
    rw [if_pos ⟨hc, rfl⟩, if_pos rfl]; exact hp c hc
theorem lay_forth {X Y : Tx} (hX : TxO X) (hY : TxO Y) {po : Nat → ByteArray} {S : BitVec 32} {s : Nat} (hS : S = recS X Y) (hp : ∀ c, c < 24 → po (placeP s c 1) = recT X Y 1 c) : layTo S (fun c => po (placeP s c 1)) X 24 = Y := funext fun c => by
  rw [← rec_back (A := X) (B := Y) (fun c hc => by rw [hX.out c hc, hY.out c hc]) c]
  unfold layTo
  subst hS
  cases hb : (recS X Y).getLsbD c
  · rw [if_neg (by simp), if_neg (by simp)]
  · have hc := recS_lt hb
    rw [if_pos ⟨hc, rfl⟩, if_pos rfl]; exact hp c hc
set_option maxHeartbeats 1000000 in
theorem bkUndo_none (w : World) (h : BK w R A T H 0 r) : Calls Tryz.prog 94 #[pt R.bk] w fun e w' => e = .returned (I 11) ∧ w = w' := by
  obtain ⟨c0, c4, c5, hl⟩ := h.cell
  clear h
  go_enter Tryz.func94, Tryz.ntmps94
  go_wp2_with fail
  go_ret
  exact ⟨rfl, rfl⟩
set_option maxHeartbeats 1000000 in
theorem bkRedo_none (w : World) (h : BK w R A T H u 0) : Calls Tryz.prog 95 #[pt R.bk] w fun e w' => e = .returned (I 11) ∧ w = w' := by
  obtain ⟨c0, c4, c5, hl⟩ := h.cell
  clear h
  go_enter Tryz.func95, Tryz.ntmps95
  go_wp2_with fail
  go_ret
  exact ⟨rfl, rfl⟩
set_option maxHeartbeats 4000000 in
theorem bkUndo_any (w : World) (h : BK w R A T H (u + 1) r) : Calls Tryz.prog 94 #[pt R.bk] w fun e w' => e = .returned (I 0) ∧ BK w' R A (H u) H u (r + 1) ∧ Fr (SBk R A) w w' := by
  obtain ⟨base, tu, po, wt, hg, hr⟩ := h.rg
  have hn6 := h.n6
  have hlive := hr.live u (by omega)
  have hX := h.sm u (by omega)
  have hY := h.sm (u + 1) (by omega)
  have hG2 := Bx.mk (bk_redos (bk_undos hg u) (r + 1))
  have hs6 := slot_lt base u
  have hSl := Bx.mk (slot_any u _ hG2.out hr.b (by omega))
  have hf1 : Bx (Fr (SR R) w ((w.setCell ⟨R.bk, 4, none⟩ (I u)).setCell ⟨R.bk, 5, none⟩ (I ((r + 1 : Nat) : Int)))) := ⟨fr_cell (fr_cell (Fr.refl _ _) (.inl rfl)) (.inl rfl)⟩
  have hXB := h.ed.fr hf1.out (fun k hk e => h.ap k e hk)
  have hLy := Bx.mk (layR_0 (slotP base u) _ hG2.out hXB h.xe h.ap hs6 (fun c hc => by rw [hlive.po c hc 0 (by omega)]; exact recT_size hX hY 0 c))
  have hfin : Bx (layTo (tu (slotP base u)) (fun c => po (placeP (slotP base u) c 0)) T 24 = H u) := ⟨by rw [← h.cur]; exact lay_back hX hY hlive.tu (fun c hc => hlive.po c hc 0 (by omega))⟩
  obtain ⟨c0, c1, c2, c3, c4, c5, c6, c7, hl, hz⟩ := hg.c8
  have z4 := hz 4
  have z5 := hz 5
  rw [hfin.out] at hLy
  clear hfin hlive hXB hz
  generalize hs : slotP base u = s at hSl hLy hs6
  replace hs := Bx.mk hs
  have hsI : (s : Int) < 6 := by omega
  have huI : (u : Int) < 6 := by omega
  have hrI : (r : Int) < 6 := by omega
  have hu0 : (((u + 1 : Nat) : Int) == 0) = false := by simp; omega
  have hR' := Bx.mk hr.back
  replace h := Bx.mk h
  clear hX hY hg hr
  go_enter Tryz.func94, Tryz.ntmps94
  go_wp2_with (first
    | (go_at_call 86; refine hSl.out.mono ?_; clear hSl; rintro e _ ⟨rfl, rfl⟩)
    | (go_at_call 117; refine hLy.out.mono ?_; clear hLy; rintro e w2 ⟨rfl, h1, h2, h3⟩; replace h1 := Bx.mk h1; replace h2 := Bx.mk h2; replace h3 := Bx.mk h3))
  go_ret
  refine ⟨rfl, ⟨h.out.xe, h2.out, ⟨base, tu, po, wt, h1.out, hR'.out⟩, rfl, fun k hk => h.out.sm k (by omega), h.out.ap⟩, (hf1.out.mono (fun k hk => .inl hk)).trans (h3.out.mono (fun k hk => .inr hk))⟩
set_option maxHeartbeats 4000000 in
theorem bkRedo_any (w : World) (h : BK w R A T H u (r + 1)) : Calls Tryz.prog 95 #[pt R.bk] w fun e w' => e = .returned (I 0) ∧ BK w' R A (H (u + 1)) H (u + 1) r ∧ Fr (SBk R A) w w' := by
  obtain ⟨base, tu, po, wt, hg, hr⟩ := h.rg
  have hn6 := h.n6
  have hlive := hr.live u (by omega)
  have hX := h.sm u (by omega)
  have hY := h.sm (u + 1) (by omega)
  have hs6 := slot_lt base u
  have hSl := Bx.mk (slot_any u _ hg hr.b (by omega))
  have hLy := Bx.mk (layR_1 (slotP base u) _ hg h.ed h.xe h.ap hs6 (fun c hc => by rw [hlive.po c hc 1 (by omega)]; exact recT_size hX hY 1 c))
  have hfin : Bx (layTo (tu (slotP base u)) (fun c => po (placeP (slotP base u) c 1)) T 24 = H (u + 1)) := ⟨by rw [← h.cur]; exact lay_forth hX hY hlive.tu (fun c hc => hlive.po c hc 1 (by omega))⟩
  obtain ⟨c0, c1, c2, c3, c4, c5, c6, c7, hl, hz⟩ := hg.c8
  have z4 := hz 4
  have z5 := hz 5
  rw [hfin.out] at hLy
  clear hfin hlive hz
  generalize hs : slotP base u = s at hSl hLy hs6
  replace hs := Bx.mk hs
  have hsI : (s : Int) < 6 := by omega
  have huI : (u : Int) < 6 := by omega
  have hrI : (r : Int) < 6 := by omega
  have hr0 : (((r + 1 : Nat) : Int) == 0) = false := by simp; omega
  have hR' := Bx.mk hr.forth
  replace h := Bx.mk h
  clear hX hY hg hr
  go_enter Tryz.func95, Tryz.ntmps95
  go_wp2_with (first
    | (go_at_call 86; refine hSl.out.mono ?_; clear hSl; rintro e _ ⟨rfl, rfl⟩)
    | (go_at_call 117; refine hLy.out.mono ?_; clear hLy; rintro e w2 ⟨rfl, h1, h2, h3⟩; replace h1 := Bx.mk h1; replace h2 := Bx.mk h2; replace h3 := Bx.mk h3; clear c0 c1 c2 c3 c4 c5 c6 c7 hl z4 z5; obtain ⟨c0, c1, c2, c3, c4, c5, c6, c7, hl, hz⟩ := h1.out.c8; have z4 := hz 4; have z5 := hz 5; clear hz
       have hG2 := Bx.mk (bk_redos (bk_undos h1.out (u + 1)) r)
       have hf1 : Bx (Fr (SR R) w2 ((w2.setCell ⟨R.bk, 4, none⟩ (I ((u + 1 : Nat) : Int))).setCell ⟨R.bk, 5, none⟩ (I r))) := ⟨fr_cell (fr_cell (Fr.refl _ _) (.inl rfl)) (.inl rfl)⟩
       have hXB := Bx.mk (h2.out.fr hf1.out (fun k hk e => h.out.ap k e hk))))
  go_ret
  refine ⟨rfl, ⟨h.out.xe, hXB.out, ⟨base, tu, po, wt, hG2.out, hR'.out⟩, rfl, fun k hk => h.out.sm k (by omega), h.out.ap⟩, (h3.out.mono (fun k hk => .inr hk)).trans (hf1.out.mono (fun k hk => .inl hk))⟩
end
end Go.Proofs.Qxb6500326aGreat
