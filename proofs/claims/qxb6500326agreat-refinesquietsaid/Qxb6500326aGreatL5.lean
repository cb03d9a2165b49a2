import Derived.Test.Qxb6500326aGreatL4
namespace Go.Proofs.Qxb6500326aGreat
set_option maxRecDepth 100000
set_option linter.unusedVariables false
set_option linter.unusedSimpArgs false
open Go.RowKit Go.PlainAid
theorem lst_byte {s : ByteArray} : ∀ x ∈ lst s, 0 ≤ x ∧ x ≤ 255 := by
  intro x hx
  unfold lst at hx
  rw [List.mem_map] at hx
  obtain ⟨u, -, rfl⟩ := hx
  have := u.toNat_lt
  omega
theorem svt_save {t : ByteArray} {S : Tx} (h : SvT t 0 (-1) S) : bs (savFrom S 0) = t := by
  have h2 : Sv (lst t) (-1) S := h
  have := h2.save lst_byte (by omega)
  rw [show ((-1 : Int) + 1).toNat = 0 from rfl] at this
  rw [this, bs_lst]
theorem piece_byte {T : Tx} (hT : TxO T) {c : Nat} (hc : c < 24) : (∀ x ∈ pieceP T c, 0 ≤ x ∧ x ≤ 255) ∧ (pieceP T c).length ≤ 44 := by
  have hs := hT.size c
  by_cases h0 : (T c).size = 0
  · rw [piece_none h0]; simp
  · rw [piece_some h0, d2_int, d2_int]
    refine ⟨fun x hx => ?_, ?_⟩
    · simp only [List.mem_append, List.mem_cons, List.not_mem_nil, or_false] at hx
      rcases hx with (e | e) | (e | e) | e
      · omega
      · omega
      · omega
      · omega
      · exact lst_byte x e
    · simp only [List.length_append, List.length_cons, List.length_nil, lst_len']; omega
theorem savF_byte {T : Tx} (hT : TxO T) : ∀ (k c : Nat), c + k ≤ 24 → (∀ x ∈ savF T k c, 0 ≤ x ∧ x ≤ 255) ∧ (savF T k c).length ≤ k * 44
  | 0, c, _ => ⟨by simp [savF], by simp [savF]⟩
  | k + 1, c, h => by
    obtain ⟨a1, a2⟩ := piece_byte hT (c := c) (by omega)
    obtain ⟨b1, b2⟩ := savF_byte hT k (c + 1) (by omega)
    unfold savF
    refine ⟨fun x hx => ?_, ?_⟩
    · rcases List.mem_append.1 hx with e | e
      · exact a1 x e
      · exact b1 x e
    · rw [List.length_append]; omega
theorem saved_svt {T : Tx} (hT : TxO T) : SvT (bs (savFrom T 0)) 0 (-1) T ∧ (bs (savFrom T 0)).size ≤ 1056 := by
  obtain ⟨h1, h2⟩ := savF_byte hT 24 0 (by omega)
  have h3 := save_all hT.size hT.out
  refine ⟨?_, ?_⟩
  · unfold SvT
    rw [lst_bs (L := savFrom T 0) h1]
    exact h3
  · rw [bs_len]; exact h2
section
variable {w w' w1 : World} {ρ ρ' ρ1 : Nat → Nat} {D : Ad} {T T' S : Tx} {past next past' next' : List Tx} {d : Dk} {va vp vn : Value}
set_option maxHeartbeats 4000000 in
theorem loaded_err {n : Int} (t : ByteArray) (w : World) (h : WS w ρ D T past next d) (hn : n ≠ 0) (hr : Calls Tryz.prog 96 #[pt D.R.bk, .string t] w fun e w' => e = .returned (I n) ∧ w = w') (hm : Calls Tryz.prog 19 #[pt D.mb, .string t] w fun e w' => e = .returned (I n) ∧ Fr S0 w w') :
    Calls Tryz.prog 62 #[pt D.R.bk, pt D.mb, pt D.dk, .string t, .bool false] w (RunP w ρ D d n) := by
  replace hr := Bx.mk hr
  replace hm := Bx.mk hm
  replace h := Bx.mk h
  have hnd : (n == 0) = false := by simp; exact hn
  clear hn
  go_enter Tryz.func62, Tryz.ntmps62
  go_wp2_with (first
    | (go_at_call 96; refine hr.out.mono ?_; clear hr; rintro e _ ⟨rfl, rfl⟩)
    | (go_at_call 19; refine hm.out.mono ?_; clear hm; rintro e w2 ⟨rfl, hf2⟩; replace hf2 := Bx.mk hf2))
  go_ret2
  exact ⟨rfl, ⟨ρ, Ext.refl _ _, _, _, _, h.out.fr0 hf2.out⟩, hf2.out.up⟩
theorem load_real {t : ByteArray} (h : BKH w ρ D T past next) (hs : t.size ≤ 1056) (hS : SvT t 0 (-1) S) : Calls Tryz.prog 96 #[pt D.R.bk, .string t] w fun e w' => e = .returned (I 0) ∧ BKH w' ρ D S [] [] ∧ Fr (fun k => ρ k = 1) w w' := by
  obtain ⟨⟨H, u, r, h1, h2⟩, h3⟩ := h
  refine (bkLoad_yes t w h1 hs hS).mono ?_
  rintro e w' ⟨rfl, hb, hf⟩
  exact ⟨rfl, ⟨⟨_, 0, 0, hb, hist0 _⟩, h3⟩, hf.mono h3⟩

set_option maxHeartbeats 16000000 in
theorem loaded_ok (t : ByteArray) (w : World) (h : WS w ρ D T past next d) (hs : t.size ≤ 1056) (hS : SvT t 0 (-1) S) : Calls Tryz.prog 62 #[pt D.R.bk, pt D.mb, pt D.dk, .string t, .bool false] w (RunP w ρ D d 0) := by
  have hr := Bx.mk (load_real h.bk hs hS)
  have hm : Bx (∀ w1 ρ1, BM w1 ρ1 D.mb D.M T past next → Calls Tryz.prog 19 #[pt D.mb, .string t] w1 (MdP w1 ρ1 (.returned (I 0)) (fun w' ρ' => BM w' ρ' D.mb D.M S [] []))) := ⟨fun w1 ρ1 hb => bmLoad_yes t S w1 hb hs hS⟩
  have hv : Bx (∀ w1 ρ1, BM w1 ρ1 D.mb D.M S [] [] → Calls Tryz.prog 18 #[pt D.mb] w1 fun e w' => e = .returned (.string t) ∧ Fr S0 w1 w') := ⟨fun w1 ρ1 hb => by
    have := bmSave_any w1 hb
    rw [svt_save hS] at this
    exact this⟩
  obtain ⟨va, vp, vn, hd⟩ := h.ds
  have hX0 : Bx (Ext w ρ ρ) := ⟨Ext.refl _ _⟩
  replace hd := Bx.mk hd
  have hbm := Bx.mk h.bm
  clear h hS
  go_enter Tryz.func62, Tryz.ntmps62
  go_wp2_with (first
    | (go_at_call 96; refine hr.out.mono ?_; clear hr; rintro e w1 ⟨rfl, hbk, hf1⟩; replace hd := Bx.mk (hd.out.fr hf1 (fun k hk e => by omega) (Ext.refl _ _)); replace hbm := hbm.out.fr hf1 (fun k hk e => by unfold MC at hk; omega) (Ext.refl _ _); replace hm := Bx.mk (hm.out w1 ρ hbm); clear hbm; replace hbk := Bx.mk hbk; have hf := Bx.mk (fr1 hf1); clear hf1)
    | (go_at_call 19; refine hm.out.mono ?_; clear hm; rintro e w2 ⟨rfl, ⟨ρ2, hx2, hbm⟩, hf2⟩; replace hd := Bx.mk (hd.out.fr hf2 (fun k hk e => by unfold MC at e; omega) hx2); replace hbk := Bx.mk (hbk.out.fr hf2 (fun k hk e => by unfold MC at e; omega) hx2); have hx3 := hX0.out.trans hx2 hf.out.size; replace hf := Bx.mk (Fr.col (P := fun n => n ≠ 0) hf.out (Ext.refl _ _) (hf2.mono (fun k hk => by unfold MC at hk; omega))); replace hX0 := Bx.mk hx3; clear hx3 hx2 hf2; obtain ⟨c0, c1, c2, c3, c4, c5, hl, hz⟩ := hd.out.cells; have z4 := hz 4; have z5 := hz 5; clear hz; have hco := hd.out.co; replace hd := Bx.mk ((hd.out.setP (lt_nil _ ρ2 5)).setN (lt_nil _ ρ2 6)); replace hbk := Bx.mk ((hbk.out.dk hco 4 (.slice none 0 0)).dk hco 5 (.slice none 0 0)); replace hbm := (hbm.dk hco 4 (.slice none 0 0)).dk hco 5 (.slice none 0 0); replace hf := Bx.mk (fr_dkS (fr_dkS hf.out hX0.out hco 4 (.slice none 0 0)) hX0.out hco 5 (.slice none 0 0)); clear hco; replace hv := Bx.mk (hv.out _ _ hbm); replace hbm := Bx.mk hbm)
    | (go_at_call 18; refine hv.out.mono ?_; clear hv; rintro e w4 ⟨rfl, hf4⟩; clear c0 c1 c2 c3 c4 c5 hl z4 z5; have hws : WS w4 ρ2 D S [] [] d := WS.fr0 ⟨hbk.out, hbm.out, _, _, _, hd.out⟩ hf4; replace hd := Bx.mk (hd.out.fr hf4 (fun _ _ e => e) (Ext.refl _ _)); replace hf := Bx.mk (hf.out.trans hf4.up); clear hbk hbm hf4; replace hws := Bx.mk hws))
  go_ret2
  exact ⟨rfl, ⟨ρ2, hX0.out, S, [], [], hws.out⟩, hf.out⟩

set_option maxHeartbeats 16000000 in
theorem loaded_again (t : ByteArray) (w : World) (h : WS w ρ D T past next d) (hs : t.size ≤ 1056) (hS : SvT t 0 (-1) S) (hat : S = d.at_) : Calls Tryz.prog 62 #[pt D.R.bk, pt D.mb, pt D.dk, .string t, .bool true] w (RunP w ρ D d 0) := by
  have hr := Bx.mk (load_real h.bk hs hS)
  have hm : Bx (∀ w1 ρ1, BM w1 ρ1 D.mb D.M T past next → Calls Tryz.prog 19 #[pt D.mb, .string t] w1 (MdP w1 ρ1 (.returned (I 0)) (fun w' ρ' => BM w' ρ' D.mb D.M S [] []))) := ⟨fun w1 ρ1 hb => bmLoad_yes t S w1 hb hs hS⟩
  have hv : Bx (∀ w1 ρ1, BM w1 ρ1 D.mb D.M S [] [] → Calls Tryz.prog 18 #[pt D.mb] w1 fun e w' => e = .returned (.string t) ∧ Fr S0 w1 w') := ⟨fun w1 ρ1 hb => by
    have := bmSave_any w1 hb
    rw [svt_save hS] at this
    exact this⟩
  obtain ⟨va, vp, vn, hd⟩ := h.ds
  have hX0 : Bx (Ext w ρ ρ) := ⟨Ext.refl _ _⟩
  replace hd := Bx.mk hd
  have hbm := Bx.mk h.bm
  have hT20 : Bx (∀ w3 ρ3, BM w3 ρ3 D.mb D.M S [] [] → Calls Tryz.prog 20 #[pt D.mb] w3 fun e w' => ∃ k, e = .returned (sl k 24 24) ∧ w3.heap.size ≤ k ∧ k < w'.heap.size ∧ Row w' k 24 (fun j => .string (S j)) ∧ Fr S0 w3 w') := ⟨fun w3 ρ3 hb => texts20_any w3 hb⟩
  replace hat := Bx.mk hat
  clear h hS
  go_enter Tryz.func62, Tryz.ntmps62
  go_wp2_with (first
    | (go_at_call 96; refine hr.out.mono ?_; clear hr; rintro e w1 ⟨rfl, hbk, hf1⟩; replace hd := Bx.mk (hd.out.fr hf1 (fun k hk e => by omega) (Ext.refl _ _)); replace hbm := hbm.out.fr hf1 (fun k hk e => by unfold MC at hk; omega) (Ext.refl _ _); replace hm := Bx.mk (hm.out w1 ρ hbm); clear hbm; replace hbk := Bx.mk hbk; have hf := Bx.mk (fr1 hf1); clear hf1)
    | (go_at_call 19; refine hm.out.mono ?_; clear hm; rintro e w2 ⟨rfl, ⟨ρ2, hx2, hbm⟩, hf2⟩; replace hd := Bx.mk (hd.out.fr hf2 (fun k hk e => by unfold MC at e; omega) hx2); replace hbk := Bx.mk (hbk.out.fr hf2 (fun k hk e => by unfold MC at e; omega) hx2); have hx3 := hX0.out.trans hx2 hf.out.size; replace hf := Bx.mk (Fr.col (P := fun n => n ≠ 0) hf.out (Ext.refl _ _) (hf2.mono (fun k hk => by unfold MC at hk; omega))); replace hX0 := Bx.mk hx3; clear hx3 hx2 hf2; obtain ⟨c0, c1, c2, c3, c4, c5, hl, hz⟩ := hd.out.cells; have z4 := hz 4; have z5 := hz 5; clear hz; have hco := hd.out.co; replace hd := Bx.mk ((hd.out.setP (lt_nil _ ρ2 5)).setN (lt_nil _ ρ2 6)); replace hbk := Bx.mk ((hbk.out.dk hco 4 (.slice none 0 0)).dk hco 5 (.slice none 0 0)); replace hbm := (hbm.dk hco 4 (.slice none 0 0)).dk hco 5 (.slice none 0 0); replace hf := Bx.mk (fr_dkS (fr_dkS hf.out hX0.out hco 4 (.slice none 0 0)) hX0.out hco 5 (.slice none 0 0)); clear hco; replace hv := Bx.mk (hv.out _ _ hbm); replace hbm := Bx.mk hbm)
    | (go_at_call 18; refine hv.out.mono ?_; clear hv; rintro e w4 ⟨rfl, hf4⟩; clear c0 c1 c2 c3 c4 c5 hl z4 z5; have hws : WS w4 ρ2 D S [] [] d := WS.fr0 ⟨hbk.out, hbm.out, _, _, _, hd.out⟩ hf4; replace hd := Bx.mk (hd.out.fr hf4 (fun _ _ e => e) (Ext.refl _ _)); replace hf := Bx.mk (hf.out.trans hf4.up); clear hbk hbm hf4; replace hT20 := Bx.mk (hT20.out _ _ hws.bm); replace hws := Bx.mk hws)
    | (go_at_call 20; refine hT20.out.mono ?_; clear hT20; rintro e w5 ⟨k5, rfl, -, -, hr5, hf5⟩; replace hr5 := Bx.mk hr5; replace hd := Bx.mk (hd.out.fr hf5 (fun _ _ e => e) (Ext.refl _ _)); replace hws := Bx.mk (hws.out.fr0 hf5); replace hf := Bx.mk (hf.out.trans hf5.up); clear hf5))
  go_loopw [16] (fun c wr => ∃ k : Nat, k ≤ 24 ∧ c = I (k : Int) ∧ w5 = wr) (fun c _ => 24 - (intOf c).toNat)
  case atStart => exact ⟨0, by omega, rfl, rfl⟩
  case round =>
    obtain ⟨k, hk, rfl, rfl⟩ := hrel
    obtain ⟨c0, c1, c2, c3, c4, c5, hl, hz⟩ := hd.out.cells
    clear hz
    cases hlt : decide ((k : Int) < 24)
    · go_wp2_with fail
      go_ret2
      exact ⟨rfl, ⟨ρ2, hX0.out, S, [], [], hws.out⟩, hf.out⟩
    · have hk24 : k < 24 := by simp at hlt; omega
      have hkI : (k : Int) < 24 := by omega
      have m0 := hr5.out.cell k hk24
      have l0 := hr5.out.lt
      rcases hd.out.gh with ⟨rfl, he⟩ | hsn
      · have hq : ((S k).toList == []) = true := es_beq (by rw [hat.out, he])
        clear he
        generalize S k = y at m0 hq
        go_wp2_with fail
        go_roundw
        case rel => exact ⟨k + 1, by omega, by go_num, trivial⟩
        case measure => simp [intOf]; omega
      · obtain ⟨ka, rfl, -, hra⟩ := hsn.ex
        have m1 := hra.cell k hk24
        have l1 := hra.lt
        rw [← hat.out] at m1
        clear hra hsn
        generalize S k = y at m0 m1
        go_wp2_with fail
        go_roundw
        case rel => exact ⟨k + 1, by omega, by go_num, trivial⟩
        case measure => simp [intOf]; omega

/-- Load, both sides. -/
theorem loaded_any (t : ByteArray) (w : World) (h : WS w ρ D T past next d) : ∃ n, Calls Tryz.prog 62 #[pt D.R.bk, pt D.mb, pt D.dk, .string t, .bool false] w (RunP w ρ D d n) := by
  rcases Nat.lt_or_ge 1056 t.size with hs | hs
  · exact ⟨1, loaded_err t w h (by decide) (bkLoad_long t w hs) ((bmLoad_long t w hs).mono (fun e w' ⟨h1, h2⟩ => ⟨h1, h2 ▸ Fr.refl _ _⟩))⟩
  · by_cases hS : ∃ S, SvT t 0 (-1) S
    · obtain ⟨S, hS⟩ := hS
      exact ⟨0, loaded_ok t w h hs hS⟩
    · exact ⟨12, loaded_err t w h (by decide) (bkLoad_no t w hs hS) (bmLoad_no t w hs hS)⟩
theorem loadedAgain_any (w : World) (h : WS w ρ D T past next d) : Calls Tryz.prog 62 #[pt D.R.bk, pt D.mb, pt D.dk, .string d.saved, .bool true] w (RunP w ρ D d 0) := by
  obtain ⟨va, vp, vn, hd⟩ := h.ds
  obtain ⟨h1, h2⟩ := saved_svt hd.tx
  rw [← hd.sv] at h1 h2
  exact loaded_again d.saved w h h2 h1 rfl
end
end Go.Proofs.Qxb6500326aGreat
