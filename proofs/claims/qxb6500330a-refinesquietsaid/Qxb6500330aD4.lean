import Derived.Test.Qxb6500330aD3
import Derived.Test.Qxb6500330aX3
import Derived.Test.Qxb6500330aW5
namespace Go.Proofs.Qxb6500330a
set_option linter.unusedVariables false
set_option linter.unusedSimpArgs false
open Go.RowKit
attribute [local go_sem] bv_and bv_or bv_andNot bv_and_all bv_andNot_all bv_all_andNot bv_eq_all bv_ne_all bv_pred bv_pred' bv_eq_zero bv_ne_zero bv_eq bv_ne bv_bit

set_option maxHeartbeats 400000 in
theorem count_any (s : BitVec 32) (w : World) :
    Calls Try.prog 39 #[U s] w fun e w' => e = .returned (I (pcTo s 24 : Nat)) ∧ w = w' := by
  go_enter Try.func39, Try.ntmps39
  go_wp2
  go_loop [3, 4] (fun n c => ∃ k : Nat, k ≤ 24 ∧ c = .int .i64 k ∧ n = I (pcTo s k : Nat)) (fun _ c => 24 - (intOf c).toNat)
  case atStart => exact ⟨0, by omega, rfl, rfl⟩
  case round =>
    obtain ⟨k, hk, rfl, rfl⟩ := hrel
    have hp := pcTo_le s k
    by_cases hlk : k < 24
    · have hsucc : Bx (pcTo s (k + 1) = pcTo s k + if s.getLsbD k then 1 else 0) := ⟨rfl⟩
      cases hb : s.getLsbD k
      · go_wp2
        go_round
        case rel => exact ⟨k + 1, by omega, by go_num, by rw [hsucc.out, hb]; simp⟩
        case measure => simp [intOf]; omega
      · go_wp2
        go_round
        case rel => exact ⟨k + 1, by omega, by go_num, by rw [hsucc.out, hb]; simp⟩
        case measure => simp [intOf]; omega
    · have hk24 : k = 24 := by omega
      subst hk24
      go_wp2
      go_ret
      exact ⟨rfl, rfl⟩
theorem uN_ofNat (n : Nat) (h : n ≤ 4294967295) : uN (BitVec.ofNat 32 n) = (n : Int) := by
  unfold uN
  rw [BitVec.toNat_ofNat, Nat.mod_eq_of_lt (by omega)]
set_option maxHeartbeats 400000 in
theorem mask_any (b : Int) (w : World) (hb : -9223372036854775808 ≤ b ∧ b ≤ 9223372036854775807) :
    Calls Try.prog 22 #[.int .i64 b] w fun e w' => ∃ s : BitVec 32, e = .returned (U s) ∧ w = w' := by
  by_cases h0 : b < 0
  · go_enter Try.func22, Try.ntmps22
    go_wp2
    go_ret
    exact ⟨4294967295#32, rfl, rfl⟩
  · have hd : decide (b < 0) = false := by simpa using h0
    obtain ⟨n, rfl⟩ := Int.eq_ofNat_of_zero_le (show 0 ≤ b by omega)
    by_cases h1 : (4294967295 : Int) < (n : Int)
    · go_enter Try.func22, Try.ntmps22
      go_wp2
      go_ret
      first | exact ⟨4294967295#32, rfl, rfl⟩ | exact ⟨⟨4294967295#32, rfl⟩, rfl⟩
    · have hd1 : decide ((4294967295 : Int) < (n : Int)) = false := by simpa using h1
      have hle : n ≤ 4294967295 := by omega
      go_enter Try.func22, Try.ntmps22
      go_wp2
      go_ret
      have e : U (BitVec.ofNat 32 n) = .int .u32 (n : Nat) := by rw [U, uN_ofNat n hle]
      first | exact ⟨BitVec.ofNat 32 n, by rw [e]; rfl, rfl⟩ | exact ⟨⟨BitVec.ofNat 32 n, by rw [e]; rfl⟩, rfl⟩
/-- How many of the first k cells have another level. -/
def turnTo (l l' : Nat → Int) : Nat → Nat
  | 0 => 0
  | k + 1 => turnTo l l' k + if l' k != l k then 1 else 0
theorem turnTo_le {l l' : Nat → Int} {h : BitVec 32} (hh : ∀ k, k < 24 → h.getLsbD k = false → l k = l' k) (k : Nat) (hk : k ≤ 24) : turnTo l l' k ≤ pcTo h k := by
  induction k with
  | zero => exact Nat.le_refl _
  | succ k ih =>
    have := ih (by omega)
    show turnTo l l' k + (if l' k != l k then 1 else 0) ≤ pcTo h k + if h.getLsbD k then 1 else 0
    cases hb : h.getLsbD k
    · rw [hh k (by omega) hb]; simp; omega
    · split <;> simp <;> omega
theorem turnTo_bd (l l' : Nat → Int) (k : Nat) : turnTo l l' k ≤ k := by
  induction k with
  | zero => exact Nat.le_refl _
  | succ k ih =>
    show turnTo l l' k + (if l' k != l k then 1 else 0) ≤ k + 1
    split <;> omega
set_option maxRecDepth 100000 in
set_option maxHeartbeats 2000000 in
theorem sameSet_ok {w0 : World} (B : Nat) (R : Nat → BitVec 32) (M : Nat) (c : Nat) (s : BitVec 32) (w : World) (h : Law w0 w B R M) (hc : c < 24) (hs : s &&& Out = 0#32) :
    Calls Try.prog 23 #[pt B, pt (B + 5 + 1), pt (B + 7), .int .i64 c, U s] w fun e w' => e = .returned (.bool true) ∧ Law w0 w' B (upd R c s) M := by
  obtain ⟨x, lid, fl, n, olds, hx, hi, hd, hn, hr, -⟩ := h.x
  have hm := h.m
  have hlt := hm.lt
  have hdlt := Row.lt hd
  have HF := h.fr
  have HI := Bx.mk hi
  have HS := Bx.mk hs
  have hR' := Bx.mk (upd_in (c := c) hi.hR hs)
  clear hi h hs
  go_enter Try.func23, Try.ntmps23
  go_wp2_with (first
    | (go_at_call 32; refine (levels_any _ _ _ hm).mono ?_; rintro e w1 ⟨rfl, hrow1, hf1⟩)
    | (go_at_call 34; refine (allReads_any _ _ _ (hm.fr0 hf1)).mono ?_; rintro e w2 ⟨rfl, hrow2, hf2⟩)
    | (go_at_call 35; refine (xSet_ok _ _ _ _ _ _ ((hx.fr0 hf1).fr0 hf2) HI.out hc HS.out).mono ?_; rintro e w3 ⟨rfl, hf3, x3, hx3, hi3, ht3⟩)
    | (go_at_call 36; refine (mSet_ok _ R _ _ _ (((hm.fr0 hf1).fr0 hf2).fr hf3 (by omega) (by omega)) hc HS.out).mono ?_; rintro e w4 ⟨rfl, hm4, hf4⟩)
    | fail)
  have hz1 := hrow1.lt
  have hz2 := hrow2.lt
  have hsz1 := hf1.size
  have hsz2 := hf2.size
  have hsz3 := hf3.size
  have hsz4 := hf4.size
  have r1 : Row w4 w.heap.size 24 (fun i => I (lev R i)) := hf4.row (hf3.row (hf2.row0 hrow1) (by omega)) (by omega)
  have r2 : Row w4 w1.heap.size 24 (fun i => U (R i)) := hf4.row (hf3.row hrow2 (by omega)) (by omega)
  have hx4 : XG w4 B x3 := hx3.fr hf4 (fun k hk => by omega)
  have hd4 : DK w4 (B + 7) lid fl n olds := hf4.row (hf3.row ((hf1.trans hf2).row0 hd) (by omega)) (by omega)
  have hr4 : Ring w4 (B + 8) w.heap.size n olds := ((hr.fr (hf1.trans hf2) (by simp)).fr hf3 (fun k hk => by omega)).fr hf4 (fun k hk => by omega)
  have HI3 := Bx.mk hi3
  have HT3 := Bx.mk ht3
  have HF4 : Fr (SB B) w0 w4 := ((HF.trans (hf1.trans hf2).up).trans (hf3.mono (fun k hk => by have h1 := hk.1; have h2 := hk.2; show B ≤ k ∧ k < B + 8; omega))).trans (hf4.mono (fun k hk => by show B ≤ k ∧ k < B + 8; omega))
  clear HF hf1 hf2 hf3 hf4 hrow1 hrow2 hx hx3 hd hr hm hi3 ht3
  generalize w1.heap.size = bh at *
  generalize hbw : w.heap.size = bw at *
  have g0 := hd4.lid
  have g1 := hd4.fl
  have z0 := Row.frozen hd4 0
  have z1 := Row.frozen hd4 1
  have hd5 := (hd4.setLid 0).setFl 0
  have hf5 : Fr (fun k => k = B + 7) w4 ((w4.setCell ⟨B + 7, 0, none⟩ (I 0)).setCell ⟨B + 7, 1, none⟩ (I 0)) := ((Fr.refl (fun k => k = B + 7) w4).setCell (p := ⟨B + 7, 0, none⟩) (.inl rfl) _).setCell (p := ⟨B + 7, 1, none⟩) (.inl rfl) _
  have hm5 := hm4.fr hf5 (by omega) (by omega)
  have HL := Bx.mk (hungLaw (upd R c s) hR'.out (bit c))
  go_wp2_with (first
    | (go_at_call 37; refine (stored_ok _ _ _ _ _ _ _ hm4 r2 hc HS.out rfl).mono ?_; rintro e w' ⟨rfl, rfl⟩)
    | (go_at_call 17; refine (bit_any _ _ hc).mono ?_; rintro e w' ⟨rfl, rfl⟩)
    | (go_at_call 25; refine (hung_any _ _ _ _ hm5 HL.out).mono ?_; rintro e w6 ⟨rfl, hm6, hf6⟩)
    | (go_at_call 38; refine (mHang_any _ _ _ _ hm6).mono ?_; rintro e w7 ⟨rfl, hm7, hf7⟩; have g7 := DK.lid (hf7.row (hf6.row hd5 (by omega)) (by omega)); have z7 := Row.frozen (hf7.row (hf6.row hd5 (by omega)) (by omega)) 0)
    | (go_at_call 39; refine (count_any _ _).mono ?_; rintro e w' ⟨rfl, rfl⟩)
    | fail)
  have hd7 : DK w7 (B + 7) 0 0 n olds := hf7.row (hf6.row hd5 (by omega)) (by omega)
  have hd8 := hd7.setLid (pcTo (hang (upd R c s) (bit c)) 24 : Nat)
  have hf8 : Fr (fun k => k = B + 7) w7 (w7.setCell ⟨B + 7, 0, none⟩ (I (pcTo (hang (upd R c s) (bit c)) 24 : Nat))) := (Fr.refl (fun k => k = B + 7) w7).setCell (p := ⟨B + 7, 0, none⟩) (.inl rfl) _
  have hm8 := hm7.fr hf8 (by omega) (by omega)
  have hx8 : XG (w7.setCell ⟨B + 7, 0, none⟩ (I (pcTo (hang (upd R c s) (bit c)) 24 : Nat))) B x3 := (((hx4.fr hf5 (fun k hk => by omega)).fr hf6 (fun k hk => by omega)).fr hf7 (fun k hk => by omega)).fr hf8 (fun k hk => by omega)
  have r8 : Row (w7.setCell ⟨B + 7, 0, none⟩ (I (pcTo (hang (upd R c s) (bit c)) 24 : Nat))) bw 24 (fun i => I (lev R i)) := hf8.row (hf7.row (hf6.row (hf5.row r1 (by omega)) (by omega)) (by omega)) (by omega)
  have hr8 : Ring (w7.setCell ⟨B + 7, 0, none⟩ (I (pcTo (hang (upd R c s) (bit c)) 24 : Nat))) (B + 8) bw n olds := (((hr4.fr hf5 (fun k hk => by omega)).fr hf6 (fun k hk => by omega)).fr hf7 (fun k hk => by omega)).fr hf8 (fun k hk => by omega)
  have hsz5 := hf5.size
  have hsz6 := hf6.size
  have hsz7 := hf7.size
  have hsz8 := hf8.size
  have HF8 := (((HF4.trans (hf5.mono (fun k hk => by show B ≤ k ∧ k < B + 8; omega))).trans (hf6.mono (fun k hk => by show B ≤ k ∧ k < B + 8; omega))).trans (hf7.mono (fun k hk => by show B ≤ k ∧ k < B + 8; omega))).trans (hf8.mono (fun k hk => by show B ≤ k ∧ k < B + 8; omega))
  clear HF4 hm4 hm5 hm6 hm7 hf5 hf6 hf7 hf8 hd4 hd5 hd7 hx4 r1 r2 hr4 g0 g1 z0 z1 g7 z7
  generalize w7.setCell ⟨B + 7, 0, none⟩ (I (pcTo (hang (upd R c s) (bit c)) 24 : Nat)) = w8 at *
  refine (levels_any _ _ _ hm8).mono ?_
  rintro e w9 ⟨rfl, hrow9, hf9⟩
  have hm9 := hm8.fr0 hf9
  have hx9 := hx8.fr0 hf9
  have r9 := hf9.row0 r8
  have hr9 := hr8.fr hf9 (by simp)
  have hd9 : DK w9 (B + 7) (pcTo (hang (upd R c s) (bit c)) 24 : Nat) 0 n olds := hf9.row0 hd8
  have hsz9 := hf9.size
  have hz9 := hrow9.lt
  have HF9 : Fr (SB B) w0 w9 := HF8.trans hf9.up
  clear HF8 hm8 hx8 r8 hr8 hd8 hf9
  generalize hbn : w8.heap.size = bn at *
  go_wp2
  go_loopw [18] (fun k' wr => ∃ k : Nat, k ≤ 24 ∧ k' = .int .i64 k ∧ DK wr (B + 7) (pcTo (hang (upd R c s) (bit c)) 24 : Nat) (turnTo (lev R) (lev (upd R c s)) k : Nat) n olds ∧ Fr (fun k => k = B + 7) w9 wr) (fun k' _ => 24 - (intOf k').toNat)
  case atStart => exact ⟨0, by omega, rfl, hd9, Fr.refl _ _⟩
  case round =>
    obtain ⟨k, hk, rfl, hdk, hfk⟩ := hrel
    have hmk := hm9.fr hfk (by omega) (by omega)
    by_cases hlk : k < 24
    · have gw := (hfk.row r9 (by omega)).cell k hlk
      have gn := (hfk.row hrow9 (by omega)).cell k hlk
      have g1 := hdk.fl
      have z1 := Row.frozen hdk 1
      have htb := turnTo_bd (lev R) (lev (upd R c s)) k
      have hsucc : Bx (turnTo (lev R) (lev (upd R c s)) (k + 1) = turnTo (lev R) (lev (upd R c s)) k + if lev (upd R c s) k != lev R k then 1 else 0) := ⟨rfl⟩
      have HDK := Bx.mk hdk
      clear hdk hmk
      cases hb : (lev (upd R c s) k != lev R k)
      · have e1 : Bx (turnTo (lev R) (lev (upd R c s)) (k + 1) = turnTo (lev R) (lev (upd R c s)) k) := ⟨by rw [hsucc.out, hb]; rfl⟩
        have hki : (k : Int) < 24 := by omega
        go_wp2_with fail
        go_quiet (fail)
        go_wp2
        go_roundw
        case rel => exact ⟨k + 1, by omega, by go_num, by rw [e1.out]; exact HDK.out, hfk.drewN _⟩
        case measure => simp [intOf]; omega
      · have e1 : Bx (((turnTo (lev R) (lev (upd R c s)) (k + 1) : Nat) : Int) = (turnTo (lev R) (lev (upd R c s)) k : Nat) + 1) := ⟨by rw [hsucc.out, hb]; simp⟩
        have hki : (k : Int) < 24 := by omega
        have HD2 := Bx.mk (HDK.out.setFl ((turnTo (lev R) (lev (upd R c s)) k : Nat) + 1))
        go_wp2_with fail
        go_quiet (fail)
        go_wp2
        go_roundw
        case rel => exact ⟨k + 1, by omega, by go_num, by rw [e1.out]; exact HD2.out, by first | exact (hfk.setCell (.inl rfl) _).drewN _ | exact (hfk.drewN _).setCell (.inl rfl) _⟩
        case measure => simp [intOf]; omega
    · have hk24 : k = 24 := by omega
      subst hk24
      have hle := turnTo_le (l := lev R) (l' := lev (upd R c s)) (fun k hk hb => lev_kept (R := R) (s := s) hc hk hb) 24 (Nat.le_refl _)
      have hpl := pcTo_le (hang (upd R c s) (bit c)) 24
      have hszk := hfk.size
      go_wp2
      go_ret
      refine ⟨rfl, HF9.trans (hfk.mono (fun k hk => by show B ≤ k ∧ k < B + 8; omega)), hmk, x3, _, _, n, olds, hx9.fr hfk (fun k hk => by omega), HI3.out, hdk, hn, (hr9.fr hfk (fun k hk => by omega)).up (by omega), by omega, ?_, ?_, ?_⟩
      · rw [HT3.out]; omega
      · rw [HT3.out]; exact Int.le_refl _
      · rw [HT3.out]; omega
set_option maxRecDepth 100000 in
set_option maxHeartbeats 2000000 in
theorem sameSet_bad {w0 : World} (B : Nat) (R : Nat → BitVec 32) (M : Nat) (c : Int) (s : BitVec 32) (w : World) (h : Law w0 w B R M) (hg : ¬ good c s) :
    Calls Try.prog 23 #[pt B, pt (B + 5 + 1), pt (B + 7), .int .i64 c, U s] w fun e w' => e = .returned (.bool true) ∧ Law w0 w' B R M := by
  obtain ⟨x, lid, fl, n, olds, hx, hi, hd, hn, hr, -⟩ := h.x
  have hm := h.m
  have hlt := hm.lt
  have hdlt := Row.lt hd
  have HF := h.fr
  have HI := Bx.mk hi
  have HG := Bx.mk hg
  clear hi h hg
  go_enter Try.func23, Try.ntmps23
  go_wp2_with (first
    | (go_at_call 32; refine (levels_any _ _ _ hm).mono ?_; rintro e w1 ⟨rfl, hrow1, hf1⟩)
    | (go_at_call 34; refine (allReads_any _ _ _ (hm.fr0 hf1)).mono ?_; rintro e w2 ⟨rfl, hrow2, hf2⟩)
    | (go_at_call 35; refine (xSet_bad _ _ _ _ _ ((hx.fr0 hf1).fr0 hf2) HG.out).mono ?_; rintro e w3 ⟨rfl, hf3, hx3⟩)
    | (go_at_call 36; refine (mSet_bad _ R _ _ _ (((hm.fr0 hf1).fr0 hf2).fr hf3 (by omega) (by omega)) HG.out).mono ?_; rintro e w4 ⟨rfl, hm4, hf4⟩)
    | fail)
  have hz1 := hrow1.lt
  have hz2 := hrow2.lt
  have hsz1 := hf1.size
  have hsz2 := hf2.size
  have hsz3 := hf3.size
  have hsz4 := hf4.size
  have r2 : Row w4 w1.heap.size 24 (fun i => U (R i)) := hf4.row (hf3.row hrow2 (by omega)) (by omega)
  have hx4 := hx3.fr hf4 (fun k hk => by omega)
  have hd4 : DK w4 (B + 7) lid fl n olds := hf4.row (hf3.row ((hf1.trans hf2).row0 hd) (by omega)) (by omega)
  have hr4 : Ring w4 (B + 8) w.heap.size n olds := ((hr.fr (hf1.trans hf2) (by simp)).fr hf3 (fun k hk => by omega)).fr hf4 (fun k hk => by omega)
  have HF4 : Fr (SB B) w0 w4 := ((HF.trans (hf1.trans hf2).up).trans (hf3.mono (fun k hk => by have h1 := hk.1; have h2 := hk.2; show B ≤ k ∧ k < B + 8; omega))).trans (hf4.mono (fun k hk => by show B ≤ k ∧ k < B + 8; omega))
  clear HF hf1 hf2 hf3 hf4 hrow1 hrow2 hx hx3 hd hr hm
  generalize w1.heap.size = bh at *
  have g0 := hd4.lid
  have g1 := hd4.fl
  have z0 := Row.frozen hd4 0
  have z1 := Row.frozen hd4 1
  have hd5 := (hd4.setLid 0).setFl 0
  have hf5 : Fr (fun k => k = B + 7) w4 ((w4.setCell ⟨B + 7, 0, none⟩ (I 0)).setCell ⟨B + 7, 1, none⟩ (I 0)) := ((Fr.refl (fun k => k = B + 7) w4).setCell (p := ⟨B + 7, 0, none⟩) (.inl rfl) _).setCell (p := ⟨B + 7, 1, none⟩) (.inl rfl) _
  have hm5 := hm4.fr hf5 (by omega) (by omega)
  go_wp2_with (go_at_call 37; refine (stored_bad _ _ _ _ _ _ hm4 r2 HG.out).mono ?_; rintro e w' ⟨rfl, rfl⟩)
  go_ret
  have hsz5 := hf5.size
  exact ⟨rfl, HF4.trans (hf5.mono (fun k hk => by show B ≤ k ∧ k < B + 8; omega)), hm5, _, 0, 0, n, olds, hx4.fr hf5 (fun k hk => by omega), ⟨HI.out.reads, HI.out.hR, HI.out.hT, HI.out.hrb, HI.out.level, HI.out.cyc⟩, hd5, hn, (hr4.fr hf5 (fun k hk => by omega)).up (by simp only [World.size_setCell]; omega), by omega, by simp, by simp, by simp⟩
end Go.Proofs.Qxb6500330a
