import Derived.Test.Qxb6500326aGreatJ3
namespace Go.Proofs.Qxb6500326aGreat
set_option maxRecDepth 100000
set_option linter.unusedVariables false
set_option linter.unusedSimpArgs false
open Go.RowKit Go.PlainAid

/-- What a command leaves on the model. -/
def CmdM (w : World) (ρ : Nat → Nat) (mk : Nat) (M : YA) (T : Tx) (past next : List Tx) (n : Int) (T' : Tx) : Ending → World → Prop :=
  MdP w ρ (.returned (I n)) (fun w' ρ' => (n ≠ 0 ∧ BM w' ρ' mk M T past next) ∨ (n = 0 ∧ BM w' ρ' mk M T' (pushL past T) []))
section
variable {w w' : World} {ρ ρ' : Nat → Nat} {mk : Nat} {M : YA} {T T' : Tx} {vp vn v : Value} {past next L : List Tx} {c : Nat}
theorem MdP.step {w1 : World} {ρ1 : Nat → Nat} {e0 : Ending} {Q : World → (Nat → Nat) → Prop} {e : Ending} {w2 : World} (f : Fr (fun k => MC (ρ k)) w w1) (hx : Ext w ρ ρ1) (h : MdP w1 ρ1 e0 Q e w2) : MdP w ρ e0 Q e w2 := by
  obtain ⟨he, ⟨ρ2, hx2, hq⟩, hf⟩ := h
  exact ⟨he, ⟨ρ2, hx.trans hx2 f.size, hq⟩, Fr.col f hx hf⟩
/-- Behind the snapshot. -/
theorem snapped {w1 : World} {k : Nat} (h : BX w ρ mk M T past next vp vn) (f : Fr S0 w w1) (hk : w.heap.size ≤ k) (hr : Row w1 k 24 (fun j => .string (T j))) : BX w1 (ext ρ w.heap.size k 0) mk M T past next vp vn ∧ Sn w1 (ext ρ w.heap.size k 0) (sl k 24 24) T ∧ Ext w ρ (ext ρ w.heap.size k 0) :=
  ⟨h.fr f (fun _ _ e => e) (ext_Ext _ _ _ _), ⟨⟨k, rfl, ext_new hk, hr⟩⟩, ext_Ext _ _ _ _⟩
/-- Behind a command of the editor. -/
theorem BX.did {w1 w2 : World} {ρ1 : Nat → Nat} (h : BX w1 ρ mk M T past next vp vn) (f : Fr (Cq ρ 2) w1 w2) (hx : Ext w1 ρ ρ1) (hY : YB w2 ρ1 M T') (hT : TxO T') : BX w2 ρ1 mk M T' past next vp vn :=
  ⟨⟨f.row h.by'.ls (fun e => by have := h.by'.co; simp only [Cq] at e; omega), hY, (hx mk h.by'.ls.lt).trans h.by'.co, hT⟩, h.pt.fr f (fun k hk e => by simp only [Cq] at e; omega) hx, h.nt.fr f (fun k hk e => by simp only [Cq] at e; omega) hx, h.pl, h.nl⟩
theorem Sn.did {w1 w2 : World} {ρ1 : Nat → Nat} {u : Value} (h : Sn w1 ρ u T) (f : Fr (Cq ρ 2) w1 w2) (hx : Ext w1 ρ ρ1) : Sn w2 ρ1 u T := h.fr f (fun k hk e => by simp only [Cq] at e; omega) hx

set_option maxHeartbeats 8000000 in
theorem bmSet_w (c : Int) (s : ByteArray) (n : Int) (w : World) (h : BX w ρ mk M T past next vp vn) (hT : TxO T') (hne : n ≠ 0 → T' = T) (hs : s.size ≤ 40) (hE : ∀ w1 ρ1, YB w1 ρ1 M T → Calls Tryz.prog 37 #[pt M.me, I c, .string s] w1 (DidM w1 ρ1 (Cq ρ1 2) n (fun w' ρ' => YB w' ρ' M T'))) :
    Calls Tryz.prog 13 #[pt mk, I c, .string s] w (CmdM w ρ mk M T past next n T') := by
  obtain ⟨c0, c1, c2, hl, z1, z2⟩ := h.by'.cells
  have hA := Bx.mk (snap_any w c0 hl h.by'.ed)
  replace h := Bx.mk h
  replace hT := Bx.mk hT
  replace hne := Bx.mk hne
  replace hE := Bx.mk hE
  clear c0 c1 c2 hl z1 z2
  have hsd : decide ((40 : Int) < (s.size : Int)) = false := decide_eq_false (by omega)
  cases hn : (n == 0)
  all_goals go_enter Tryz.func13, Tryz.ntmps13
  all_goals go_wp2_with (first
    | (go_at_call 36; refine hA.out.mono ?_; clear hA; rintro e w1 ⟨k, rfl, hk, hk2, hr, hf⟩; obtain ⟨hb, hsn, hx1⟩ := snapped h.out hf hk hr; clear hr hk2; obtain ⟨c0, c1, c2, hl, z1, z2⟩ := hb.by'.cells; replace hE := Bx.mk (hE.out w1 _ hb.by'.ed); replace hb := Bx.mk hb; replace hsn := Bx.mk hsn; replace hx1 := Bx.mk hx1; replace hf := Bx.mk (Fr.up (S := fun k => MC (ρ k)) hf); replace hk := Bx.mk hk; generalize ext ρ w.heap.size k 0 = ρ1 at *)
    | (go_at_call 37; refine hE.out.mono ?_; clear hE c0 c1 c2 hl z1 z2; rintro e w2 ⟨rfl, ⟨ρ2, hx2, hq⟩, hf2⟩; replace hb := Bx.mk (hb.out.did hf2 hx2 hq hT.out); replace hsn := Bx.mk (hsn.out.did hf2 hx2); have hx3 := hx1.out.trans hx2 hf.out.size; replace hf := Bx.mk (Fr.col hf.out hx1.out (hf2.mono (fun k hk => .inl hk))); replace hx1 := Bx.mk hx3; clear hx2 hf2 hq hx3)
    | (go_at_call 38; refine (done_any _ hb.out hsn.out).mono ?_; rintro e w3 ⟨rfl, hd, hfd⟩; replace hd := Bx.mk hd; replace hfd := Bx.mk hfd))
  all_goals go_ret
  · have hn0 : n ≠ 0 := by simpa using hn
    have := hb.out
    rw [hne.out hn0] at this
    exact ⟨rfl, ⟨ρ2, hx1.out, .inl ⟨hn0, _, _, this⟩⟩, hf.out⟩
  · have hn0 : n = 0 := by simpa using hn
    obtain ⟨ρ3, hx3, hq3⟩ := hd.out
    exact ⟨rfl, ⟨ρ3, hx1.out.trans hx3 hf.out.size, .inr ⟨hn0, hq3⟩⟩, Fr.col hf.out hx1.out hfd.out⟩

set_option maxHeartbeats 8000000 in
theorem bmEdit_w (k at_ : Int) (n : Int) (w : World) (h : BX w ρ mk M T past next vp vn) (hT : TxO T') (hne : n ≠ 0 → T' = T) (hE : ∀ w1 ρ1, YB w1 ρ1 M T → Calls Tryz.prog 39 #[pt M.me, I k, I at_] w1 (DidM w1 ρ1 (Cq ρ1 2) n (fun w' ρ' => YB w' ρ' M T'))) :
    Calls Tryz.prog 14 #[pt mk, I k, I at_] w (CmdM w ρ mk M T past next n T') := by
  obtain ⟨c0, c1, c2, hl, z1, z2⟩ := h.by'.cells
  have hA := Bx.mk (snap_any w c0 hl h.by'.ed)
  replace h := Bx.mk h
  replace hT := Bx.mk hT
  replace hne := Bx.mk hne
  replace hE := Bx.mk hE
  clear c0 c1 c2 hl z1 z2
  cases hn : (n == 0)
  all_goals go_enter Tryz.func14, Tryz.ntmps14
  all_goals go_wp2_with (first
    | (go_at_call 36; refine hA.out.mono ?_; clear hA; rintro e w1 ⟨k, rfl, hk, hk2, hr, hf⟩; obtain ⟨hb, hsn, hx1⟩ := snapped h.out hf hk hr; clear hr hk2; obtain ⟨c0, c1, c2, hl, z1, z2⟩ := hb.by'.cells; replace hE := Bx.mk (hE.out w1 _ hb.by'.ed); replace hb := Bx.mk hb; replace hsn := Bx.mk hsn; replace hx1 := Bx.mk hx1; replace hf := Bx.mk (Fr.up (S := fun k => MC (ρ k)) hf); replace hk := Bx.mk hk; generalize ext ρ w.heap.size k 0 = ρ1 at *)
    | (go_at_call 39; refine hE.out.mono ?_; clear hE c0 c1 c2 hl z1 z2; rintro e w2 ⟨rfl, ⟨ρ2, hx2, hq⟩, hf2⟩; replace hb := Bx.mk (hb.out.did hf2 hx2 hq hT.out); replace hsn := Bx.mk (hsn.out.did hf2 hx2); have hx3 := hx1.out.trans hx2 hf.out.size; replace hf := Bx.mk (Fr.col hf.out hx1.out (hf2.mono (fun k hk => .inl hk))); replace hx1 := Bx.mk hx3; clear hx2 hf2 hq hx3)
    | (go_at_call 38; refine (done_any _ hb.out hsn.out).mono ?_; rintro e w3 ⟨rfl, hd, hfd⟩; replace hd := Bx.mk hd; replace hfd := Bx.mk hfd))
  all_goals go_ret
  · have hn0 : n ≠ 0 := by simpa using hn
    have := hb.out
    rw [hne.out hn0] at this
    exact ⟨rfl, ⟨ρ2, hx1.out, .inl ⟨hn0, _, _, this⟩⟩, hf.out⟩
  · have hn0 : n = 0 := by simpa using hn
    obtain ⟨ρ3, hx3, hq3⟩ := hd.out
    exact ⟨rfl, ⟨ρ3, hx1.out.trans hx3 hf.out.size, .inr ⟨hn0, hq3⟩⟩, Fr.col hf.out hx1.out hfd.out⟩

set_option maxHeartbeats 8000000 in
theorem bmCopy_w (src dst : Int) (n : Int) (w : World) (h : BX w ρ mk M T past next vp vn) (hT : TxO T') (hne : n ≠ 0 → T' = T) (hE : ∀ w1 ρ1, YB w1 ρ1 M T → Calls Tryz.prog 40 #[pt M.me, I src, I dst] w1 (DidM w1 ρ1 (Cq ρ1 2) n (fun w' ρ' => YB w' ρ' M T'))) :
    Calls Tryz.prog 15 #[pt mk, I src, I dst] w (CmdM w ρ mk M T past next n T') := by
  obtain ⟨c0, c1, c2, hl, z1, z2⟩ := h.by'.cells
  have hA := Bx.mk (snap_any w c0 hl h.by'.ed)
  replace h := Bx.mk h
  replace hT := Bx.mk hT
  replace hne := Bx.mk hne
  replace hE := Bx.mk hE
  clear c0 c1 c2 hl z1 z2
  cases hn : (n == 0)
  all_goals go_enter Tryz.func15, Tryz.ntmps15
  all_goals go_wp2_with (first
    | (go_at_call 36; refine hA.out.mono ?_; clear hA; rintro e w1 ⟨k, rfl, hk, hk2, hr, hf⟩; obtain ⟨hb, hsn, hx1⟩ := snapped h.out hf hk hr; clear hr hk2; obtain ⟨c0, c1, c2, hl, z1, z2⟩ := hb.by'.cells; replace hE := Bx.mk (hE.out w1 _ hb.by'.ed); replace hb := Bx.mk hb; replace hsn := Bx.mk hsn; replace hx1 := Bx.mk hx1; replace hf := Bx.mk (Fr.up (S := fun k => MC (ρ k)) hf); replace hk := Bx.mk hk; generalize ext ρ w.heap.size k 0 = ρ1 at *)
    | (go_at_call 40; refine hE.out.mono ?_; clear hE c0 c1 c2 hl z1 z2; rintro e w2 ⟨rfl, ⟨ρ2, hx2, hq⟩, hf2⟩; replace hb := Bx.mk (hb.out.did hf2 hx2 hq hT.out); replace hsn := Bx.mk (hsn.out.did hf2 hx2); have hx3 := hx1.out.trans hx2 hf.out.size; replace hf := Bx.mk (Fr.col hf.out hx1.out (hf2.mono (fun k hk => .inl hk))); replace hx1 := Bx.mk hx3; clear hx2 hf2 hq hx3)
    | (go_at_call 38; refine (done_any _ hb.out hsn.out).mono ?_; rintro e w3 ⟨rfl, hd, hfd⟩; replace hd := Bx.mk hd; replace hfd := Bx.mk hfd))
  all_goals go_ret
  · have hn0 : n ≠ 0 := by simpa using hn
    have := hb.out
    rw [hne.out hn0] at this
    exact ⟨rfl, ⟨ρ2, hx1.out, .inl ⟨hn0, _, _, this⟩⟩, hf.out⟩
  · have hn0 : n = 0 := by simpa using hn
    obtain ⟨ρ3, hx3, hq3⟩ := hd.out
    exact ⟨rfl, ⟨ρ3, hx1.out.trans hx3 hf.out.size, .inr ⟨hn0, hq3⟩⟩, Fr.col hf.out hx1.out hfd.out⟩

set_option maxHeartbeats 2000000 in
theorem bmSet_long (c : Int) (s : ByteArray) (w : World) (hs : 40 < s.size) : Calls Tryz.prog 13 #[pt mk, I c, .string s] w fun e w' => e = .returned (I 1) ∧ w = w' := by
  have hd : decide ((40 : Int) < (s.size : Int)) = true := decide_eq_true (by omega)
  go_enter Tryz.func13, Tryz.ntmps13
  go_wp2_with fail
  go_ret
  exact ⟨rfl, rfl⟩
theorem bmSet_any (c : Int) (s : ByteArray) (w : World) (h : BM w ρ mk M T past next) : Calls Tryz.prog 13 #[pt mk, I c, .string s] w (CmdM w ρ mk M T past next (setP c s) (setT c s T)) := by
  rcases Nat.lt_or_ge 40 s.size with hs | hs
  · refine (bmSet_long c s w hs).mono ?_
    rintro e _ ⟨rfl, rfl⟩
    have e1 : setP c s = 1 := by unfold setP; rw [if_pos hs]
    rw [e1]
    exact ⟨rfl, ⟨ρ, Ext.refl _ _, .inl ⟨by decide, h⟩⟩, Fr.refl _ _⟩
  · obtain ⟨vp, vn, h⟩ := h
    exact bmSet_w c s _ w h (h.by'.tx.set c s) (fun hne => by unfold setT; rw [if_neg hne]) hs (fun w1 ρ1 h1 => yb_set h1 c s)
theorem bmEdit_any (k at_ : Int) (w : World) (h : BM w ρ mk M T past next) : Calls Tryz.prog 14 #[pt mk, I k, I at_] w (CmdM w ρ mk M T past next (edP k at_) (edX k at_ T)) := by
  obtain ⟨vp, vn, h⟩ := h
  exact bmEdit_w k at_ _ w h (h.by'.tx.ed k at_) (fun hne => by unfold edP at hne; unfold edX; split at hne; · exact absurd rfl hne
                                                                · rename_i hk; rw [if_neg hk]) (fun w1 ρ1 h1 => yb_edit h1 k at_)
theorem bmCopy_any (src dst : Int) (w : World) (h : BM w ρ mk M T past next) : Calls Tryz.prog 15 #[pt mk, I src, I dst] w (CmdM w ρ mk M T past next (cpP T src dst) (cpX src dst T)) := by
  obtain ⟨vp, vn, h⟩ := h
  exact bmCopy_w src dst _ w h (h.by'.tx.cp src dst) (fun hne => by unfold cpX; rw [if_neg hne]) (fun w1 ρ1 h1 => yb_copy h1 src dst)
set_option maxHeartbeats 2000000 in
theorem bmRaw_any (c : Int) (w : World) (h : BM w ρ mk M T past next) : Calls Tryz.prog 45 #[pt mk, I c] w fun e w' => e = .returned (.string (rawP T c)) ∧ w = w' := by
  obtain ⟨vp, vn, h⟩ := h
  obtain ⟨c0, c1, c2, hl, z1, z2⟩ := h.by'.cells
  have h1 := Bx.mk (yb_raw h.by'.ed c)
  generalize rawP T c = y at *
  clear h
  go_enter Tryz.func45, Tryz.ntmps45
  go_wp2_with (first
    | (go_at_call 42; refine h1.out.mono ?_; clear h1; rintro e _ ⟨rfl, rfl⟩))
  go_ret
  exact ⟨rfl, rfl⟩
set_option maxHeartbeats 2000000 in
theorem bmValue_w (c : Int) (y : Vl) (w : World) (h : BM w ρ mk M T past next) (hV : ∀ w', Fr S0 w w' → Calls Tryz.prog 98 #[pt M.me, I c] w' (VR w' y)) : Calls Tryz.prog 64 #[pt mk, I c] w (VR w y) := by
  obtain ⟨vp, vn, h⟩ := h
  have h1 := Bx.mk (hV _ (fr_zero w 92))
  have hfr := Bx.mk (fr_zero w 92)
  have hz := Bx.mk (v_zero w 92 rfl)
  obtain ⟨c0, c1, c2, hl, z1, z2⟩ := h.by'.cells
  clear h hV
  go_enter Tryz.func64, Tryz.ntmps64
  go_wp2_with (first
    | (go_at_call 98; refine h1.out.mono ?_; clear h1; rintro e w1 ⟨rfl, hf⟩; have hz1 := Bx.mk (hf.row0 hz.out); obtain ⟨c0, c1, c2, y0, y1, y2⟩ := hz1.out.v3))
  exact ret_vs (x := y) (p := 4) rfl rfl rfl hz1.out (hfr.out.trans hf) (Nat.le_refl _) rfl
theorem bmValue_any (w : World) (h : BM w ρ mk M T past next) : ∃ E, Sheet T E ∧ ∀ (c : Int) w', Fr S0 w w' → Calls Tryz.prog 64 #[pt mk, I c] w' (VR w' (valP E c)) := by
  obtain ⟨vp, vn, hb⟩ := id h
  obtain ⟨E, hS, hV⟩ := yb_val hb.by'.ed
  exact ⟨E, hS, fun c w' f => bmValue_w c _ w' (h.fr0 f) (fun w2 f2 => hV c w2 (f.trans f2))⟩
set_option maxHeartbeats 2000000 in
theorem bmUndos_any (w : World) (h : BM w ρ mk M T past next) : Calls Tryz.prog 65 #[pt mk] w fun e w' => e = .returned (I past.length) ∧ w = w' := by
  obtain ⟨vp, vn, h⟩ := h
  obtain ⟨ao, cap, rfl⟩ := h.pt.shape rfl
  obtain ⟨c0, c1, c2, hl, z1, z2⟩ := h.by'.cells
  clear h
  generalize past.length = q at *
  go_enter Tryz.func65, Tryz.ntmps65
  go_wp2_with fail
  go_ret
  exact ⟨rfl, rfl⟩
set_option maxHeartbeats 2000000 in
theorem bmRedos_any (w : World) (h : BM w ρ mk M T past next) : Calls Tryz.prog 66 #[pt mk] w fun e w' => e = .returned (I next.length) ∧ w = w' := by
  obtain ⟨vp, vn, h⟩ := h
  obtain ⟨ao, cap, rfl⟩ := h.nt.shape rfl
  obtain ⟨c0, c1, c2, hl, z1, z2⟩ := h.by'.cells
  clear h
  generalize next.length = q at *
  go_enter Tryz.func66, Tryz.ntmps66
  go_wp2_with fail
  go_ret
  exact ⟨rfl, rfl⟩
end
end Go.Proofs.Qxb6500326aGreat
