import Derived.Test.Qxb6500326aGreatGX1
import Derived.Test.Qxb6500326aGreatGMend
import Derived.Deep.RegionHeld3
namespace Go.Proofs.Qxb6500326aGreat.Gr
set_option maxRecDepth 100000
set_option linter.unusedVariables false
set_option linter.unusedSimpArgs false
open Go.RowKit
attribute [local go_sem] bv_and bv_or bv_andNot bv_and_all bv_andNot_all bv_all_andNot bv_eq_all bv_ne_all bv_pred bv_pred' bv_eq_zero bv_ne_zero bv_eq bv_ne bv_bit

theorem pcTo_succ_mem {x : BitVec 32} {k : Nat} (h : x.getLsbD k = true) : pcTo x (k + 1) = pcTo x k + 1 := by
  show pcTo x k + (if x.getLsbD k then 1 else 0) = _
  rw [h]; rfl
theorem accTo_succ (p : Nat → Bool) (s : BitVec 32) (k : Nat) : accTo p s (k + 1) = if p k then accTo p s k ||| bit k else accTo p s k := rfl
def need1 (R : Nat → BitVec 32) (h : BitVec 32) (n0 : Nat → Int) (k d : Nat) : Int := if d < k ∧ h.getLsbD d = true then (cnt R h d : Int) else n0 d
theorem need1_step {R : Nat → BitVec 32} {h : BitVec 32} {n0 : Nat → Int} {k d : Nat} (hkd : k ≤ d) (hd : h.getLsbD d = true) (hs : ∀ j, k ≤ j → j < d → h.getLsbD j = false) (i : Nat) :
    upd (need1 R h n0 k) d (cnt R h d : Int) i = need1 R h n0 (d + 1) i := by
  unfold upd need1
  by_cases e : i = d
  · subst e; simp [hd]
  · rw [if_neg e]
    by_cases h1 : i < k
    · have h2 : i < d + 1 := by omega
      simp only [h1, h2]
    · by_cases h2 : i < d
      · have := hs i (by omega) h2
        simp [h1, this]
      · have h3 : ¬ i < d + 1 := by omega
        simp [h1, h3]
theorem XG.needEq {w : World} {b : Nat} {x : XS} {f g : Nat → Int} (h : XG w b { x with need := f }) (e : ∀ i, i < 24 → f i = g i) : XG w b { x with need := g } :=
  ⟨h.obj, h.r, h.rb, h.lv, h.nd.congr (fun i hi => by show I (f i) = I (g i); rw [e i hi])⟩
theorem XG.levelEq {w : World} {b : Nat} {x : XS} {f g : Nat → Int} (h : XG w b { x with level := f }) (e : ∀ i, i < 24 → f i = g i) : XG w b { x with level := g } :=
  ⟨h.obj, h.r, h.rb, h.lv.congr (fun i hi => by show I (f i) = I (g i); rw [e i hi]), h.nd⟩
theorem XG.drew {w : World} {b : Nat} {x : XS} (h : XG w b x) : XG w.drew b x := h.fr0 ((Fr.refl _ _).drew)
/-- mend's first loop: h, sick are known. -/
def XM (x : XS) (t : Int) (lv nd : Nat → Int) : XS := { x with touched := t, level := lv, need := nd }
def lev3 (left : BitVec 32) (lv : Nat → Int) (k d : Nat) : Int := if d < k ∧ left.getLsbD d = true then -1 else lv d
theorem lev3_step {left : BitVec 32} {lv : Nat → Int} {k d : Nat} (hkd : k ≤ d) (hd : left.getLsbD d = true) (hs : ∀ j, k ≤ j → j < d → left.getLsbD j = false) (i : Nat) :
    upd (lev3 left lv k) d (-1) i = lev3 left lv (d + 1) i := by
  unfold upd lev3
  by_cases e : i = d
  · subst e; simp [hd]
  · rw [if_neg e]
    by_cases h1 : i < k
    · have h2 : i < d + 1 := by omega
      simp only [h1, h2]
    · by_cases h2 : i < d
      · have := hs i (by omega) h2
        simp [h1, this]
      · have h3 : ¬ i < d + 1 := by omega
        simp [h1, h3]
def need4 (z : BitVec 32) (nd : Nat → Int) (k r : Nat) : Int := if r < k ∧ z.getLsbD r = true then nd r - 1 else nd r
theorem need4_step {z : BitVec 32} {nd : Nat → Int} {k d : Nat} (hkd : k ≤ d) (hd : z.getLsbD d = true) (hs : ∀ j, k ≤ j → j < d → z.getLsbD j = false) (i : Nat) :
    upd (need4 z nd k) d (nd d - 1) i = need4 z nd (d + 1) i := by
  unfold upd need4
  by_cases e : i = d
  · subst e; simp [hd]
  · rw [if_neg e]
    by_cases h1 : i < k
    · have h2 : i < d + 1 := by omega
      simp only [h1, h2]
    · by_cases h2 : i < d
      · have := hs i (by omega) h2
        simp [h1, this]
      · have h3 : ¬ i < d + 1 := by omega
        simp [h1, h3]
theorem need4_at {z : BitVec 32} {nd : Nat → Int} {k d : Nat} (hkd : k ≤ d) : need4 z nd k d = nd d := by
  unfold need4; rw [if_neg (by omega)]
set_option maxRecDepth 100000 in
set_option maxHeartbeats 4000000 in
theorem mend_any (b : Nat) (x : XS) (c : Nat) (h : BitVec 32) (w : World) (hx : XG w b x) (hc : c < 24) (ht0 : x.touched = 0)
    (hang : ∀ h', HInv x.readBy (bit c &&& All) h' 0#32 → h' = h) (ctx : MCtx x.reads x.readBy h (x.cyc &&& ~~~h) x.level) :
    Calls Tryz.prog 156 #[pt b, .int .i64 c] w fun e w' => e = .returned (.tuple #[]) ∧ Fr (SX b) w w' ∧
      ∃ nd, XG w' b { x with touched := (pcTo h 24 : Int), level := lev x.reads, need := nd, cyc := cyc x.reads } := by
  have HH := hide hang
  have HC := hide ctx
  have HX := hide hx
  have hc3 := hx.c3
  have hrb := hide ctx.hrb
  clear hang ctx hx
  go_enter Tryz.func156, Tryz.ntmps156
  go_wp2_with (first | (go_at_call 154; refine (one_any _ _ hc).mono ?_; rintro e w' ⟨rfl, rfl⟩) | (go_at_call 125; refine (xHang_any _ _ _ _ HX.out hrb.out).mono ?_; rintro e w' ⟨h', rfl, hh', rfl⟩; obtain rfl := HH.out _ hh'))
  clear hc3
  generalize hsick : x.cyc &&& ~~~h' = sick at *
  clear hsick
  -- the first loop
  go_loopw [7, 8, 9, 10, 11] (fun rp st _ _ _ wr => ∃ k : Nat, k ≤ 24 ∧ st = U (above h' k) ∧ rp = U (accTo (ripeP x.reads h' sick) 0#32 k) ∧ XG wr b (XM x (pcTo h' k) x.level (need1 x.reads h' x.need k)) ∧ Fr (SX b) w wr) (fun _ st _ _ _ _ => pc (bvOf st))
  case atStart => exact ⟨0, by omega, by rw [above_zero], rfl, by
      have := HX.out
      have e : XM x (pcTo h' 0) x.level (need1 x.reads h' x.need 0) = x := by
        unfold XM need1; cases x; simp at ht0; simp [pcTo, ht0]
      rw [e]; exact this, Fr.refl _ _⟩
  case round =>
    obtain ⟨k, hk, rfl, rfl, hx, hf⟩ := hrel
    by_cases hz : above h' k = 0#32
    · have hz1 : (above h' k != 0#32) = false := by simpa using hz
      have hend : ∀ j, k ≤ j → h'.getLsbD j = false := fun j hj => above_end hz j hj
      have hm0 : Mend2 x.reads h' sick x.level h' (accTo (ripeP x.reads h' sick) 0#32 k) x.level (need1 x.reads h' x.need k) := by
        have e : accTo (ripeP x.reads h' sick) 0#32 24 = accTo (ripeP x.reads h' sick) 0#32 k := accTo_skip hk (fun i h1 _ => by unfold ripeP; rw [hend i h1]; rfl)
        rw [← e]
        refine Mend2.begin HC.out (fun d hd hh => ?_)
        unfold need1
        rw [if_pos]
        refine ⟨?_, hh⟩
        rcases Nat.lt_or_ge d k with h1 | h1
        · exact h1
        · rw [hend d h1] at hh; cases hh
      have ht : Hid ((pcTo h' 24 : Int) = (pcTo h' k : Int)) := by show _ = _; rw [pcTo_skip hk (fun i h1 _ => hend i h1)]
      have HM0 := hide hm0
      clear hz hend hm0
      go_wp2
      go_loopw [7, 12, 13, 14, 15] (fun rp lf _ _ _ wr => ∃ (P L : BitVec 32) (lv nd : Nat → Int), rp = U P ∧ lf = U L ∧ XG wr b (XM x (pcTo h' k) lv nd) ∧ Mend2 x.reads h' sick x.level L P lv nd ∧ Fr (SX b) w wr) (fun _ lf _ _ _ _ => pc (bvOf lf))
      case atStart => exact ⟨_, _, _, _, rfl, rfl, hx, HM0.out, hf⟩
      case round =>
        clear HM0 hx hf
        obtain ⟨P, L, lv, nd, rfl, rfl, hx, hm, hf⟩ := hrel
        have HMD := hide hm
        clear hm
        by_cases hz : P = 0#32
        · subst hz
          go_wp2
          go_loopw [16, 17] (fun st _ wr => ∃ k3 : Nat, k3 ≤ 24 ∧ st = U (above L k3) ∧ XG wr b (XM x (pcTo h' k) (lev3 L lv k3) nd) ∧ Fr (SX b) w wr) (fun st _ _ => pc (bvOf st))
          case atStart => exact ⟨0, by omega, by rw [above_zero], by
              have e : lev3 L lv 0 = lv := by funext i; simp [lev3]
              rw [e]; exact hx, hf⟩
          case round =>
            clear hx hf
            obtain ⟨k3, hk3, rfl, hx, hf⟩ := hrel
            by_cases hz : above L k3 = 0#32
            · have hz3 : (above L k3 != 0#32) = false := by simpa using hz
              have hfin := HMD.out.final HC.out
              have hcy : sick ||| L = cyc x.reads := hfin.2
              have hle : ∀ i, i < 24 → lev3 L lv k3 i = lev x.reads i := by
                intro i hi
                rw [← hfin.1 i hi]
                unfold lev3
                by_cases h1 : i < k3
                · cases L.getLsbD i <;> simp [h1]
                · have := above_end hz i (by omega)
                  simp [this]
              have g3 := hx.c3
              have f3 := hx.obj.frozen 3
              have HLE := hide hle
              have HCY := hide hcy
              clear hz hfin hcy hle
              go_wp2
              go_end0
              refine ⟨rfl, hf.setX (by simp) (by simp) _, nd, ?_⟩
              have h2 := (XG.levelEq (x := XM x (pcTo h' k) lv nd) hx HLE.out).setCyc (cyc x.reads)
              rw [← HCY.out] at h2 ⊢
              rw [ht.out]
              exact h2
            · have hz3 : (above L k3 != 0#32) = true := by simpa using hz
              obtain ⟨e1, e2, e3, e4, e5⟩ := above_lo hz
              have hlo : lo (above L k3) < 24 := HC.out.cells _ (HMD.out.sub _ e3)
              have HE3 := hide e3
              have HE4 := hide e4
              have HE5 := hide e5
              have HM2 := hide (above_dec hz)
              have hp2 := one_le_uN hz
              have g2 := hx.c2
              have gl := hx.lv.cell _ hlo
              have fl := hx.lv.frozen (lo (above L k3))
              clear e3 e4 e5
              go_wp2_with (go_at_call 155; refine (first_any _ _ (by assumption)).mono ?_; rintro e w' ⟨rfl, rfl⟩)
              go_roundw
              case rel => exact ⟨lo (above L k3) + 1, by omega, by rw [HE5.out], XG.levelEq (x := XM x (pcTo h' k) lv nd) (hx.setLevel (lo (above L k3)) (-1)) (fun i _ => lev3_step e1 HE3.out HE4.out i), hf.setX (by simp) (by simp) _⟩
              case measure => simp only [bvOf_U, HE5.out]; exact HM2.out
        · have hz3 : (P != 0#32) = true := by simpa using hz
          have hlo := HMD.out.low HC.out hz
          have hp2 := one_le_uN hz
          have g0 := hx.c0
          have g2 := hx.c2
          have g1 := hx.c1
          have gr : wr.cell? ⟨b + 1, lo P, none⟩ = some (U (x.reads (lo P))) := hx.r.cell _ hlo
          have grb : wr.cell? ⟨b + 2, lo P, none⟩ = some (U (x.readBy (lo P))) := hx.rb.cell _ hlo
          have gl := hx.lv.cell _ hlo
          have fl := hx.lv.frozen (lo P)
          have htp := (HMD.out.top HC.out (lo_spec hz).2.1).1
          have HTP := hide htp
          clear htp
          have hbd := hide (HMD.out.bd HC.out)
          have hli0 : (0 : Int) ≤ (lo P : Nat) := by omega
          have hli1 : ((lo P : Nat) : Int) < 24 := by omega
          go_wp2_with (first | (go_at_call 155; refine (first_any _ _ (by assumption)).mono ?_; rintro e w' ⟨rfl, rfl⟩) | (go_at_call 154; refine (one_any _ _ hlo).mono ?_; rintro e w' ⟨rfl, rfl⟩))
          go_region_held3 (fun w' => w'.cell? ⟨b, 0, none⟩ = some (sl (b + 1) 24 24) ∧ w'.cell? ⟨b, 2, none⟩ = some (sl (b + 3) 24 24) ∧ w'.cell? ⟨b + 1, lo P, none⟩ = some (U (x.reads (lo P)))) (go_keep)
            (first | (go_at_call 183; refine (xTop_any b (XM x (pcTo h' k) lv nd) _ _ (by exact hx.drew) (HC.out.hR _ hlo) hbd.out).mono ?_; rintro e w' ⟨rfl, rfl⟩))
          go_wp2
          have hx2 : XG ((wr.setCell ⟨b + 3, lo P, none⟩ (I (topTo lv (x.reads (lo P)) 24))).drew) b (XM x (pcTo h' k) (upd lv (lo P) (lev x.reads (lo P))) nd) := by
            have := (hx.setLevel (lo P) (topTo lv (x.reads (lo P)) 24)).drew
            rw [HTP.out] at this ⊢
            exact this
          have hf2 : Fr (SX b) w ((wr.setCell ⟨b + 3, lo P, none⟩ (I (topTo lv (x.reads (lo P)) 24))).drew) := (hf.setX (by simp) (by simp) _).drew
          go_loopw [7, 14, 15] (fun rp st _ wr => ∃ k4 : Nat, k4 ≤ 24 ∧ st = U (above (x.readBy (lo P) &&& h') k4) ∧ rp = U (accTo (fun r => (x.readBy (lo P) &&& h').getLsbD r && (nd r - 1 == 0) && (x.reads r &&& sick == 0#32)) (P &&& (P - 1#32)) k4) ∧ XG wr b (XM x (pcTo h' k) (upd lv (lo P) (lev x.reads (lo P))) (need4 (x.readBy (lo P) &&& h') nd k4)) ∧ Fr (SX b) w wr) (fun _ st _ _ => pc (bvOf st))
          case atStart => exact ⟨0, by omega, by rw [above_zero], rfl, by
              have e : need4 (x.readBy (lo P) &&& h') nd 0 = nd := by funext i; simp [need4]
              rw [e]; exact hx2, hf2⟩
          case round =>
            have hpop := hide (fun nd' hn => HMD.out.pop HC.out hz (need' := nd') hn)
            have hzP := hide hz
            have hLlo := hide ((HMD.out.ripe _).1 (lo_spec hz).2.1).1
            clear hx2 hf2 hx hf g0 g1 g2 gr grb gl fl hz
            obtain ⟨k4, hk4, rfl, rfl, hx, hf⟩ := hrel
            by_cases hz : above (x.readBy (lo P) &&& h') k4 = 0#32
            · have hz4 : (above (x.readBy (lo P) &&& h') k4 != 0#32) = false := by simpa using hz
              have hend : ∀ j, k4 ≤ j → (x.readBy (lo P) &&& h').getLsbD j = false := fun j hj => above_end hz j hj
              have hM2 := hpop.out (need4 (x.readBy (lo P) &&& h') nd k4) (fun r hr => by
                unfold need4
                by_cases h1 : r < k4
                · cases (x.readBy (lo P) &&& h').getLsbD r <;> simp [h1]
                · rw [hend r (by omega)]; simp)
              rw [accTo_skip hk4 (fun i h1 _ => by rw [hend i h1]; rfl)] at hM2
              have HM2 := hide hM2
              have hdec : Hid (pc (L &&& ~~~bit (lo P)) < pc L) := by
                have hl := hLlo.out
                have e : L = (L &&& ~~~bit (lo P)) ||| bit (lo P) := set_ext (fun i _ => by
                  rw [mem_or, mem_andNot, mem_bit' (by omega)]
                  by_cases e : i = lo P
                  · rw [e, hl]; simp
                  · simp [e])
                have h1 : pcTo L 32 = pcTo (L &&& ~~~bit (lo P)) 32 + pcTo (bit (lo P)) 32 := by
                  rw [← pcTo_or]
                  · rw [← e]
                  · intro i hi
                    rw [mem_andNot, mem_bit' (by omega), Bool.and_eq_true] at hi
                    rw [mem_bit' (by omega)]
                    simpa using hi.2
                rw [pcTo_bit (by omega), if_pos (by omega)] at h1
                show pcTo _ 32 < pcTo _ 32
                omega
              clear hz hend hM2
              go_wp2
              go_roundw
              case rel => exact ⟨_, _, _, _, rfl, rfl, hx, HM2.out, hf⟩
              case measure => simp only [bvOf_U]; exact hdec.out
            · have hz4 : (above (x.readBy (lo P) &&& h') k4 != 0#32) = true := by simpa using hz
              obtain ⟨e1, e2, e3, e4, e5⟩ := above_lo hz
              have hH : h'.getLsbD (lo (above (x.readBy (lo P) &&& h') k4)) = true := by rw [mem_and, Bool.and_eq_true] at e3; exact e3.2
              have hlor : lo (above (x.readBy (lo P) &&& h') k4) < 24 := HC.out.cells _ hH
              have HE3 := hide e3
              have HE4 := hide e4
              have HE5 := hide e5
              have HMM := hide (above_dec hz)
              have hp4 := one_le_uN hz
              have hnb : 0 ≤ nd (lo (above (x.readBy (lo P) &&& h') k4)) ∧ nd (lo (above (x.readBy (lo P) &&& h') k4)) ≤ 32 := by
                rw [HMD.out.need _ hH]; have := cnt_le x.reads L (lo (above (x.readBy (lo P) &&& h') k4)); omega
              have g0 := hx.c0
              have g4 := hx.c4
              have gn : wr.cell? ⟨b + 4, lo (above (x.readBy (lo P) &&& h') k4), none⟩ = some (I (nd (lo (above (x.readBy (lo P) &&& h') k4)))) := by
                have := hx.nd.cell _ hlor
                rw [show (XM x (pcTo h' k) (upd lv (lo P) (lev x.reads (lo P))) (need4 (x.readBy (lo P) &&& h') nd k4)).need = need4 (x.readBy (lo P) &&& h') nd k4 from rfl, need4_at e1] at this
                exact this
              have fn := hx.nd.frozen (lo (above (x.readBy (lo P) &&& h') k4))
              have gr : wr.cell? ⟨b + 1, lo (above (x.readBy (lo P) &&& h') k4), none⟩ = some (U (x.reads (lo (above (x.readBy (lo P) &&& h') k4)))) := hx.r.cell _ hlor
              clear e3 e4 e5 hH
              have hxe : Hid (XG (wr.setCell ⟨b + 4, lo (above (x.readBy (lo P) &&& h') k4), none⟩ (I (nd (lo (above (x.readBy (lo P) &&& h') k4)) - 1))) b (XM x (pcTo h' k) (upd lv (lo P) (lev x.reads (lo P))) (need4 (x.readBy (lo P) &&& h') nd (lo (above (x.readBy (lo P) &&& h') k4) + 1)))) :=
                XG.needEq (x := XM x (pcTo h' k) (upd lv (lo P) (lev x.reads (lo P))) nd) (hx.setNeed _ _) (fun i _ => need4_step e1 HE3.out HE4.out i)
              generalize hpr : (fun r => (x.readBy (lo P) &&& h').getLsbD r && (nd r - 1 == 0) && (x.reads r &&& sick == 0#32)) = pr at *
              have hst : Hid (∀ p0 : Bool, pr (lo (above (x.readBy (lo P) &&& h') k4)) = p0 → accTo pr (P &&& (P - 1#32)) (lo (above (x.readBy (lo P) &&& h') k4) + 1) = if p0 then accTo pr (P &&& (P - 1#32)) k4 ||| bit (lo (above (x.readBy (lo P) &&& h') k4)) else accTo pr (P &&& (P - 1#32)) k4) := by
                intro p0 hp0
                rw [accTo_succ, hp0, accTo_skip e1 (fun i h1 h2 => by rw [← hpr]; simp only; rw [HE4.out i h1 h2]; rfl)]
              have HPR : Hid (∀ r, pr r = ((x.readBy (lo P) &&& h').getLsbD r && (nd r - 1 == 0) && (x.reads r &&& sick == 0#32))) := fun r => by rw [← hpr]
              clear hpr hpop
              cases hn0 : (nd (lo (above (x.readBy (lo P) &&& h') k4)) - 1 == 0)
              · have hrp : Hid (pr (lo (above (x.readBy (lo P) &&& h') k4)) = false) := by show pr _ = false; rw [HPR.out, hn0]; simp
                go_wp2_with (go_at_call 155; refine (first_any _ _ (by assumption)).mono ?_; rintro e w' ⟨rfl, rfl⟩)
                go_roundw
                case rel => exact ⟨lo (above (x.readBy (lo P) &&& h') k4) + 1, by omega, by rw [HE5.out], by rw [hst.out _ hrp.out]; rfl, hxe.out, hf.setX (by simp) (by simp) _⟩
                case measure => simp only [bvOf_U, HE5.out]; exact HMM.out
              · cases hs0 : (x.reads (lo (above (x.readBy (lo P) &&& h') k4)) &&& sick == 0#32)
                · have hrp : Hid (pr (lo (above (x.readBy (lo P) &&& h') k4)) = false) := by show pr _ = false; rw [HPR.out, hs0]; simp
                  go_wp2_with (go_at_call 155; refine (first_any _ _ (by assumption)).mono ?_; rintro e w' ⟨rfl, rfl⟩)
                  go_roundw
                  case rel => exact ⟨lo (above (x.readBy (lo P) &&& h') k4) + 1, by omega, by rw [HE5.out], by rw [hst.out _ hrp.out]; rfl, hxe.out, hf.setX (by simp) (by simp) _⟩
                  case measure => simp only [bvOf_U, HE5.out]; exact HMM.out
                · have hrp : Hid (pr (lo (above (x.readBy (lo P) &&& h') k4)) = true) := by show pr _ = true; rw [HPR.out, hn0, hs0, HE3.out]; rfl
                  go_wp2_with (first | (go_at_call 155; refine (first_any _ _ (by assumption)).mono ?_; rintro e w' ⟨rfl, rfl⟩) | (go_at_call 154; refine (one_any _ _ hlor).mono ?_; rintro e w' ⟨rfl, rfl⟩))
                  go_roundw
                  case rel => exact ⟨lo (above (x.readBy (lo P) &&& h') k4) + 1, by omega, by rw [HE5.out], by rw [hst.out _ hrp.out]; rfl, hxe.out, hf.setX (by simp) (by simp) _⟩
                  case measure => simp only [bvOf_U, HE5.out]; exact HMM.out
    · have hz1 : (above h' k != 0#32) = true := by simpa using hz
      obtain ⟨ha1, ha2, ha3, ha4, ha5⟩ := above_lo hz
      have hlo : lo (above h' k) < 24 := HC.out.cells _ ha3
      have HM := hide (above_dec hz)
      have H3 := hide ha3
      have H4 := hide ha4
      have H5 := hide ha5
      have hp := one_le_uN hz
      clear ha3 ha4 ha5
      have g0 := hx.c0
      have g4 := hx.c4
      have g5 : wr.cell? ⟨b, 5, none⟩ = some (I (pcTo h' k)) := hx.c5
      have f5 := hx.obj.frozen 5
      have gr : wr.cell? ⟨b + 1, lo (above h' k), none⟩ = some (U (x.reads (lo (above h' k)))) := hx.r.cell _ hlo
      have gn := hx.nd.cell _ hlo
      have fn := hx.nd.frozen (lo (above h' k))
      have hpk := pcTo_le h' k
      go_wp2_with (go_at_call 155; refine (first_any _ _ (by assumption)).mono ?_; rintro e w' ⟨rfl, rfl⟩)
      have hcl := cnt_le x.reads h' (lo (above h' k))
      go_loop [10, 11] (fun n r => ∃ j : Nat, j ≤ 32 ∧ r = U (above (x.reads (lo (above h' k)) &&& h') j) ∧ n = I (pcTo (x.reads (lo (above h' k)) &&& h') j)) (fun _ r => pc (bvOf r))
      case atStart => exact ⟨0, by omega, by rw [above_zero], rfl⟩
      case round =>
        obtain ⟨j, hj, rfl, rfl⟩ := hrel
        by_cases hz2 : above (x.reads (lo (above h' k)) &&& h') j = 0#32
        · have hz3 : (above (x.reads (lo (above h' k)) &&& h') j != 0#32) = false := by simpa using hz2
          have hcn : cnt x.reads h' (lo (above h' k)) = pcTo (x.reads (lo (above h' k)) &&& h') j := pcTo_skip hj (fun i h1 _ => above_end hz2 i h1)
          have HN := hide hcn
          rw [hcn] at hcl
          clear hz2 hcn
          have hxe : Hid (∀ wq, XG wq b (XM x (pcTo h' k) x.level (need1 x.reads h' x.need k)) → XG ((wq.setCell ⟨b, 5, none⟩ (I (pcTo h' k + 1))).setCell ⟨b + 4, lo (above h' k), none⟩ (I (pcTo (x.reads (lo (above h' k)) &&& h') j))) b (XM x (pcTo h' (lo (above h' k) + 1)) x.level (need1 x.reads h' x.need (lo (above h' k) + 1)))) := by
            intro wq hq
            have e1 : ((pcTo h' (lo (above h' k) + 1) : Nat) : Int) = (pcTo h' k : Int) + 1 := by rw [pcTo_succ_mem H3.out, pcTo_skip ha1 H4.out]; simp
            have := (hq.setTouched (pcTo h' k + 1)).setNeed (lo (above h' k)) (pcTo (x.reads (lo (above h' k)) &&& h') j)
            refine XG.needEq (x := XM x (pcTo h' (lo (above h' k) + 1)) x.level (fun _ => 0)) (f := upd (need1 x.reads h' x.need k) (lo (above h' k)) (cnt x.reads h' (lo (above h' k)) : Int)) ?_ (fun i _ => need1_step ha1 H3.out H4.out i)
            rw [HN.out]
            unfold XM
            rw [e1]
            exact this
          have hst : Hid (∀ p0 : Bool, ripeP x.reads h' sick (lo (above h' k)) = p0 → accTo (ripeP x.reads h' sick) 0#32 (lo (above h' k) + 1) = if p0 then accTo (ripeP x.reads h' sick) 0#32 k ||| bit (lo (above h' k)) else accTo (ripeP x.reads h' sick) 0#32 k) := by
            intro p0 hp0
            rw [accTo_succ, hp0, accTo_skip ha1 (fun i h1 h2 => by unfold ripeP; rw [H4.out i h1 h2]; rfl)]
          cases hn0 : ((pcTo (x.reads (lo (above h' k)) &&& h') j : Int) == 0)
          · have hrp : Hid (ripeP x.reads h' sick (lo (above h' k)) = false) := by show ripeP _ _ _ _ = false; unfold ripeP; rw [HN.out, hn0]; simp
            go_wp2
            go_roundw
            case rel => exact ⟨lo (above h' k) + 1, by omega, by rw [H5.out], by rw [hst.out _ hrp.out]; rfl, hxe.out _ hx, (hf.setX (by simp) (by simp) _).setX (by simp) (by simp) _⟩
            case measure => simp only [bvOf_U, H5.out]; exact HM.out
          · cases hs0 : (x.reads (lo (above h' k)) &&& sick == 0#32)
            · have hrp : Hid (ripeP x.reads h' sick (lo (above h' k)) = false) := by show ripeP _ _ _ _ = false; unfold ripeP; rw [hs0]; simp
              go_wp2
              go_roundw
              case rel => exact ⟨lo (above h' k) + 1, by omega, by rw [H5.out], by rw [hst.out _ hrp.out]; rfl, hxe.out _ hx, (hf.setX (by simp) (by simp) _).setX (by simp) (by simp) _⟩
              case measure => simp only [bvOf_U, H5.out]; exact HM.out
            · have hrp : Hid (ripeP x.reads h' sick (lo (above h' k)) = true) := by show ripeP _ _ _ _ = true; unfold ripeP; rw [HN.out, hn0, hs0, H3.out]; rfl
              go_wp2_with (go_at_call 154; refine (one_any _ _ hlo).mono ?_; rintro e w' ⟨rfl, rfl⟩)
              go_roundw
              case rel => exact ⟨lo (above h' k) + 1, by omega, by rw [H5.out], by rw [hst.out _ hrp.out]; rfl, hxe.out _ hx, (hf.setX (by simp) (by simp) _).setX (by simp) (by simp) _⟩
              case measure => simp only [bvOf_U, H5.out]; exact HM.out
        · have hz3 : (above (x.reads (lo (above h' k)) &&& h') j != 0#32) = true := by simpa using hz2
          obtain ⟨e1, e2, e3, e4, e5⟩ := above_lo hz2
          have HE5 := hide e5
          have HM2 := hide (above_dec hz2)
          have hpc : Hid (pcTo (x.reads (lo (above h' k)) &&& h') (lo (above (x.reads (lo (above h' k)) &&& h') j) + 1) = pcTo (x.reads (lo (above h' k)) &&& h') j + 1) := by
            show _ = _
            rw [pcTo_succ_mem e3, pcTo_skip e1 e4]
          have hp2 := one_le_uN hz2
          have hpl := pcTo_le (x.reads (lo (above h' k)) &&& h') j
          clear e3 e4 e5
          go_wp2
          go_round
          case rel => exact ⟨lo (above (x.reads (lo (above h' k)) &&& h') j) + 1, by omega, by rw [HE5.out], by rw [hpc.out]; go_num⟩
          case measure => simp only [bvOf_U, HE5.out]; exact HM2.out
end Go.Proofs.Qxb6500326aGreat.Gr
