import Derived.Test.Qxb6500326aGreatGX2
import Derived.Test.Qxb6500326aGreatGInv
namespace Go.Proofs.Qxb6500326aGreat.Gr
set_option maxRecDepth 100000
set_option linter.unusedVariables false
set_option linter.unusedSimpArgs false
open Go.RowKit
attribute [local go_sem] bv_and bv_or bv_andNot bv_and_all bv_andNot_all bv_all_andNot bv_eq_all bv_ne_all bv_pred bv_pred' bv_eq_zero bv_ne_zero bv_eq bv_ne bv_bit

def turn1 (rb : Nat → BitVec 32) (c : Nat) (z : BitVec 32) (k d : Nat) : BitVec 32 := if d < k ∧ z.getLsbD d = true then rb d &&& ~~~bit c else rb d
theorem turn1_step {rb : Nat → BitVec 32} {c : Nat} {z : BitVec 32} {k d : Nat} (hkd : k ≤ d) (hd : z.getLsbD d = true) (hs : ∀ j, k ≤ j → j < d → z.getLsbD j = false) (i : Nat) :
    upd (turn1 rb c z k) d (rb d &&& ~~~bit c) i = turn1 rb c z (d + 1) i := by
  unfold upd turn1
  by_cases e : i = d
  · subst e; simp [hd]
  · rw [if_neg e]
    by_cases h1 : i < k
    · have h2 : i < d + 1 := by omega
      simp only [h1, h2]
    · by_cases h2 : i < d
      · have := hs i (by omega) h2
        simp [h1, this]
      · have h3 : ¬ i < d + 1 := by omega
        simp [h1, h3]
theorem turn1_at {rb : Nat → BitVec 32} {c : Nat} {z : BitVec 32} {k d : Nat} (hkd : k ≤ d) : turn1 rb c z k d = rb d := by unfold turn1; rw [if_neg (by omega)]
def turn2 (rb : Nat → BitVec 32) (c : Nat) (z : BitVec 32) (k d : Nat) : BitVec 32 := if d < k ∧ z.getLsbD d = true then rb d ||| bit c else rb d
theorem turn2_step {rb : Nat → BitVec 32} {c : Nat} {z : BitVec 32} {k d : Nat} (hkd : k ≤ d) (hd : z.getLsbD d = true) (hs : ∀ j, k ≤ j → j < d → z.getLsbD j = false) (i : Nat) :
    upd (turn2 rb c z k) d (rb d ||| bit c) i = turn2 rb c z (d + 1) i := by
  unfold upd turn2
  by_cases e : i = d
  · subst e; simp [hd]
  · rw [if_neg e]
    by_cases h1 : i < k
    · have h2 : i < d + 1 := by omega
      simp only [h1, h2]
    · by_cases h2 : i < d
      · have := hs i (by omega) h2
        simp [h1, this]
      · have h3 : ¬ i < d + 1 := by omega
        simp [h1, h3]
theorem turn2_at {rb : Nat → BitVec 32} {c : Nat} {z : BitVec 32} {k d : Nat} (hkd : k ≤ d) : turn2 rb c z k d = rb d := by unfold turn2; rw [if_neg (by omega)]
theorem turn_full {rb : Nat → BitVec 32} {c k k2 : Nat} {old s : BitVec 32} (h1 : ∀ j, k ≤ j → (old &&& ~~~s).getLsbD j = false) (h2 : ∀ j, k2 ≤ j → (s &&& ~~~old).getLsbD j = false) (d : Nat) :
    turn2 (turn1 rb c (old &&& ~~~s) k) c (s &&& ~~~old) k2 d = turned rb c old s d := by
  have e1 : turn1 rb c (old &&& ~~~s) k d = if (old &&& ~~~s).getLsbD d then rb d &&& ~~~bit c else rb d := by
    unfold turn1
    by_cases h : d < k
    · simp [h]
    · rw [h1 d (by omega)]; simp
  unfold turn2 turned
  rw [e1]
  by_cases h : d < k2
  · simp [h]
  · rw [h2 d (by omega)]; simp
theorem XG.readByEq {w : World} {b : Nat} {x : XS} {f g : Nat → BitVec 32} (h : XG w b { x with readBy := f }) (e : ∀ i, i < 24 → f i = g i) : XG w b { x with readBy := g } :=
  ⟨h.obj, h.r, h.rb.congr (fun i hi => by show U (f i) = U (g i); rw [e i hi]), h.lv, h.nd⟩
def XR (x : XS) (rb : Nat → BitVec 32) : XS := { x with touched := 0, readBy := rb }
set_option maxRecDepth 100000 in
set_option maxHeartbeats 4000000 in
theorem xSet_ok (b : Nat) (x : XS) (R : Nat → BitVec 32) (c : Nat) (s : BitVec 32) (w : World) (hx : XG w b x) (hi : XI x R) (hc : c < 24) (hs : s &&& Out = 0#32) :
    Calls Tryz.prog 123 #[pt b, .int .i64 c, U s] w fun e w' => e = .returned (I 0) ∧ Fr (SX b) w w' ∧
      ∃ x', XG w' b x' ∧ XI x' (upd R c s) ∧ x'.touched = (pcTo (hang (upd R c s) (bit c)) 24 : Int) := by
  have h3 : (s &&& 4278190080#32 != 0#32) = false := by simp [hs]
  have hreads := hi.reads
  have HI := hide hi
  have HS := hide hs
  have HX := hide hx
  have g5 := hx.c5
  have f5 := hx.obj.frozen 5
  have g0 := hx.c0
  have grc : w.cell? ⟨b + 1, c, none⟩ = some (U (R c)) := by rw [← hreads]; exact hx.r.cell c hc
  clear hi hs hx hreads
  go_enter Tryz.func123, Tryz.ntmps123
  go_wp2_with (go_at_call 154; refine (one_any _ _ hc).mono ?_; rintro e w' ⟨rfl, rfl⟩)
  have hx0 : XG (w.setCell ⟨b, 5, none⟩ (I 0)) b (XR x (turn1 x.readBy c (R c &&& ~~~s) 0)) := by
    have e : turn1 x.readBy c (R c &&& ~~~s) 0 = x.readBy := by funext i; simp [turn1]
    rw [e]
    exact HX.out.setTouched 0
  have hf0 : Fr (SX b) w (w.setCell ⟨b, 5, none⟩ (I 0)) := (Fr.refl (SX b) w).setX (p := ⟨b, 5, none⟩) (by simp) (by simp) _
  go_loopw [8, 9] (fun st _ wr => ∃ k : Nat, k ≤ 24 ∧ st = U (above (R c &&& ~~~s) k) ∧ XG wr b (XR x (turn1 x.readBy c (R c &&& ~~~s) k)) ∧ Fr (SX b) w wr) (fun st _ _ => pc (bvOf st))
  case atStart => exact ⟨0, by omega, by rw [above_zero], hx0, hf0⟩
  case round =>
    clear hx0 hf0 g5 f5 g0 grc
    obtain ⟨k, hk, rfl, hx, hf⟩ := hrel
    by_cases hz : above (R c &&& ~~~s) k = 0#32
    · have hz1 : (above (R c &&& ~~~s) k != 0#32) = false := by simpa using hz
      have hend := hide (fun j hj => above_end hz j hj)
      have g0 := hx.c0
      have grc : wr.cell? ⟨b + 1, c, none⟩ = some (U (R c)) := by rw [← HI.out.reads]; exact hx.r.cell c hc
      clear hz
      go_wp2
      have hx0 : XG wr b (XR x (turn2 (turn1 x.readBy c (R c &&& ~~~s) k) c (s &&& ~~~R c) 0)) := by
        have e : turn2 (turn1 x.readBy c (R c &&& ~~~s) k) c (s &&& ~~~R c) 0 = turn1 x.readBy c (R c &&& ~~~s) k := by funext i; simp [turn2]
        rw [e]
        exact hx
      go_loopw [10, 11] (fun st _ wr => ∃ k2 : Nat, k2 ≤ 24 ∧ st = U (above (s &&& ~~~R c) k2) ∧ XG wr b (XR x (turn2 (turn1 x.readBy c (R c &&& ~~~s) k) c (s &&& ~~~R c) k2)) ∧ Fr (SX b) w wr) (fun st _ _ => pc (bvOf st))
      case atStart => exact ⟨0, by omega, by rw [above_zero], hx0, hf⟩
      case round =>
        clear hx0 hx hf g0 grc
        obtain ⟨k2, hk2, rfl, hx, hf⟩ := hrel
        by_cases hz : above (s &&& ~~~R c) k2 = 0#32
        · have hz2 : (above (s &&& ~~~R c) k2 != 0#32) = false := by simpa using hz
          have hend2 := hide (fun j hj => above_end hz j hj)
          have g0 := hx.c0
          have grc : wr.cell? ⟨b + 1, c, none⟩ = some (U (R c)) := by rw [← HI.out.reads]; exact hx.r.cell c hc
          have frc := hx.r.frozen c
          have hx2 : XG (wr.setCell ⟨b + 1, c, none⟩ (U s)) b { x with touched := 0, readBy := turned x.readBy c (R c) s, reads := upd R c s } := by
            have := (XG.readByEq (x := XR x x.readBy) hx (fun i _ => turn_full hend.out hend2.out i)).setReads c s
            have e : (XR x x.readBy).reads = R := HI.out.reads
            rw [e] at this
            exact this
          clear hz hx
          go_wp2_with (go_at_call 156; refine (mend_any b _ c (hang (upd R c s) (bit c)) _ hx2 hc rfl (mend_hang HI.out hc HS.out) (mctx HI.out hc HS.out)).mono ?_; rintro e w1 ⟨rfl, hf1, nd, hx1⟩)
          go_ret
          refine ⟨rfl, (hf.setX (p := ⟨b + 1, c, none⟩) (by simp) (by simp) _).trans hf1, _, hx1, ⟨rfl, ?_, ?_, ?_, fun _ _ => rfl, rfl⟩, rfl⟩
          · exact (mctx HI.out hc HS.out).hR
          · exact (mctx HI.out hc HS.out).hT
          · exact (mctx HI.out hc HS.out).hrb
        · have hz2 : (above (s &&& ~~~R c) k2 != 0#32) = true := by simpa using hz
          obtain ⟨e1, e2, e3, e4, e5⟩ := above_lo hz
          have hlo : lo (above (s &&& ~~~R c) k2) < 24 := by
            rw [mem_andNot, Bool.and_eq_true] at e3
            exact in_All.1 HS.out _ e3.1
          have HE3 := hide e3
          have HE4 := hide e4
          have HE5 := hide e5
          have HMM := hide (above_dec hz)
          have hp := one_le_uN hz
          have g1 := hx.c1
          have gb : wr.cell? ⟨b + 2, lo (above (s &&& ~~~R c) k2), none⟩ = some (U (turn1 x.readBy c (R c &&& ~~~s) k (lo (above (s &&& ~~~R c) k2)))) := by
            have := hx.rb.cell _ hlo
            rw [show (XR x (turn2 (turn1 x.readBy c (R c &&& ~~~s) k) c (s &&& ~~~R c) k2)).readBy = turn2 (turn1 x.readBy c (R c &&& ~~~s) k) c (s &&& ~~~R c) k2 from rfl, turn2_at e1] at this
            exact this
          have fb := hx.rb.frozen (lo (above (s &&& ~~~R c) k2))
          have hli0 : (0 : Int) ≤ (lo (above (s &&& ~~~R c) k2) : Nat) := by omega
          have hli1 : ((lo (above (s &&& ~~~R c) k2) : Nat) : Int) < 24 := by omega
          clear e3 e4 e5
          go_wp2_with (go_at_call 155; refine (first_any _ _ (by assumption)).mono ?_; rintro e w' ⟨rfl, rfl⟩)
          go_region
          all_goals go_wp2
          all_goals go_roundw
          case rel =>
            refine ⟨lo (above (s &&& ~~~R c) k2) + 1, by omega, by rw [HE5.out], ?_, ?_⟩
            · exact (XG.readByEq (x := XR x x.readBy) (hx.setReadBy _ _) (fun i _ => turn2_step e1 HE3.out HE4.out i)).drew
            · exact (hf.setX (by simp) (by simp) _).drew
          case measure => simp only [bvOf_U, HE5.out]; exact HMM.out
    · have hz1 : (above (R c &&& ~~~s) k != 0#32) = true := by simpa using hz
      obtain ⟨e1, e2, e3, e4, e5⟩ := above_lo hz
      have hlo : lo (above (R c &&& ~~~s) k) < 24 := by
        rw [mem_andNot, Bool.and_eq_true] at e3
        exact HI.out.hR c hc _ e3.1
      have HE3 := hide e3
      have HE4 := hide e4
      have HE5 := hide e5
      have HMM := hide (above_dec hz)
      have hp := one_le_uN hz
      have g1 := hx.c1
      have gb : wr.cell? ⟨b + 2, lo (above (R c &&& ~~~s) k), none⟩ = some (U (x.readBy (lo (above (R c &&& ~~~s) k)))) := by
        have := hx.rb.cell _ hlo
        rw [show (XR x (turn1 x.readBy c (R c &&& ~~~s) k)).readBy = turn1 x.readBy c (R c &&& ~~~s) k from rfl, turn1_at e1] at this
        exact this
      have fb := hx.rb.frozen (lo (above (R c &&& ~~~s) k))
      have hli0 : (0 : Int) ≤ (lo (above (R c &&& ~~~s) k) : Nat) := by omega
      have hli1 : ((lo (above (R c &&& ~~~s) k) : Nat) : Int) < 24 := by omega
      clear e3 e4 e5
      go_wp2_with (go_at_call 155; refine (first_any _ _ (by assumption)).mono ?_; rintro e w' ⟨rfl, rfl⟩)
      go_region
      all_goals go_wp2
      all_goals go_roundw
      case rel =>
        refine ⟨lo (above (R c &&& ~~~s) k) + 1, by omega, by rw [HE5.out], ?_, ?_⟩
        · exact (XG.readByEq (x := XR x x.readBy) (hx.setReadBy _ _) (fun i _ => turn1_step e1 HE3.out HE4.out i)).drew
        · exact (hf.setX (by simp) (by simp) _).drew
      case measure => simp only [bvOf_U, HE5.out]; exact HMM.out
set_option maxHeartbeats 400000 in
theorem xSet_bad (b : Nat) (x : XS) (c : Int) (s : BitVec 32) (w : World) (hx : XG w b x) (hg : ¬ good c s) :
    Calls Tryz.prog 123 #[pt b, .int .i64 c, U s] w fun e w' => e = .returned (I 9) ∧ Fr (SX b) w w' ∧ XG w' b { x with touched := 0 } := by
  have g5 := hx.c5
  have f5 := hx.obj.frozen 5
  have hx1 := hx.setTouched 0
  have hf1 : Fr (SX b) w (w.setCell ⟨b, 5, none⟩ (I 0)) := (Fr.refl (SX b) w).setX (p := ⟨b, 5, none⟩) (by simp) (by simp) _
  clear hx
  by_cases h0 : c < 0
  · go_enter Tryz.func123, Tryz.ntmps123
    go_wp2
    go_ret
    exact ⟨rfl, hf1, hx1⟩
  · have hd : decide (c < 0) = false := by simpa using h0
    by_cases h1 : 24 ≤ c
    · go_enter Tryz.func123, Tryz.ntmps123
      go_wp2
      go_ret
      exact ⟨rfl, hf1, hx1⟩
    · have hd1 : decide (24 ≤ c) = false := by simpa using h1
      have h3 : (s &&& 4278190080#32 != 0#32) = true := by
        rw [bne_iff_ne]
        intro h
        exact hg ⟨by omega, by omega, h⟩
      clear hg
      go_enter Tryz.func123, Tryz.ntmps123
      go_wp2
      go_ret
      exact ⟨rfl, hf1, hx1⟩
end Go.Proofs.Qxb6500326aGreat.Gr
