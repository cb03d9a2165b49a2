import Derived.Test.Qxb6500330aX1
import Derived.Test.Qxb6500330aInv
namespace Go.Proofs.Qxb6500330a
set_option linter.unusedVariables false
set_option linter.unusedSimpArgs false
open Go.RowKit
attribute [local go_sem] bv_and bv_or bv_andNot bv_and_all bv_andNot_all bv_all_andNot bv_eq_all bv_ne_all bv_pred bv_pred' bv_eq_zero bv_ne_zero bv_eq bv_ne bv_bit

def x0 : XS := { reads := fun _ => 0#32, readBy := fun _ => 0#32, level := fun _ => 0, need := fun _ => 0, cyc := 0#32, touched := 0 }
theorem x0_inv : XI x0 (fun _ => 0#32) :=
  ⟨rfl, fun _ _ d hd => by simp at hd, fun _ _ _ _ => by simp [x0], fun _ _ d hd => by simp [x0] at hd, fun c hc => by rw [lev_none hc]; rfl, by rw [cyc_none]; rfl⟩
set_option maxHeartbeats 400000 in
theorem xNew_any (w : World) :
    Calls Try.prog 9 #[] w fun e w' => e = .returned (pt w.heap.size) ∧ XG w' w.heap.size x0 ∧ Fr S0 w w' ∧ w'.heap.size = w.heap.size + 5 := by
  have hmk := mk44
  have hmk2 := mk35
  go_enter Try.func9, Try.ntmps9
  go_wp2
  go_ret
  refine ⟨rfl, ?_, ((((Fr.refl _ _).alloc _).alloc _).alloc _).alloc _ |>.alloc _, by simp⟩
  generalize ho : Obj.cells #[sl (w.heap.size + 1) 24 24, sl (w.heap.size + 1 + 1) 24 24, sl (w.heap.size + 1 + 1 + 1) 24 24, .int .u32 0, sl (w.heap.size + 1 + 1 + 1 + 1) 24 24, .int .i64 0] 47 = ob
  have r0 : Row (w.alloc ob) w.heap.size 6 (xcells w.heap.size 0#32 0) := by
    rw [← ho]
    refine Row.new _ _ _ _ _ rfl (fun i hi => ?_)
    match i, hi with
    | 0, _ => rfl
    | 1, _ => rfl
    | 2, _ => rfl
    | 3, _ => rfl
    | 4, _ => rfl
    | 5, _ => rfl
  have r1 : Row ((w.alloc ob).alloc (.cells (zU 24) 45)) (w.heap.size + 1) 24 (fun _ => U 0#32) := by simpa using Row.zU (w.alloc ob) 24 45
  have r2 : Row (((w.alloc ob).alloc (.cells (zU 24) 45)).alloc (.cells (zU 24) 45)) (w.heap.size + 2) 24 (fun _ => U 0#32) := by simpa using Row.zU ((w.alloc ob).alloc (.cells (zU 24) 45)) 24 45
  have r3 : Row ((((w.alloc ob).alloc (.cells (zU 24) 45)).alloc (.cells (zU 24) 45)).alloc (.cells (zI 24) 3)) (w.heap.size + 3) 24 (fun _ => I 0) := by simpa using Row.zI (((w.alloc ob).alloc (.cells (zU 24) 45)).alloc (.cells (zU 24) 45)) 24 3
  have r4 : Row (((((w.alloc ob).alloc (.cells (zU 24) 45)).alloc (.cells (zU 24) 45)).alloc (.cells (zI 24) 3)).alloc (.cells (zI 24) 3)) (w.heap.size + 4) 24 (fun _ => I 0) := by simpa using Row.zI ((((w.alloc ob).alloc (.cells (zU 24) 45)).alloc (.cells (zU 24) 45)).alloc (.cells (zI 24) 3)) 24 3
  exact ⟨(((r0.alloc _).alloc _).alloc _).alloc _, ((r1.alloc _).alloc _).alloc _, (r2.alloc _).alloc _, r3.alloc _, r4⟩
theorem ripens_sound (R : Nat → BitVec 32) {q k : Nat} (hk : k < 24) : ripens R (lvs R q).1 (lvs R q).2 k = (!(lvs R q).2.getLsbD k && (R k &&& ~~~(lvs R q).2 == 0#32)) := by
  unfold ripens
  congr 1
  have := (lvs_inv R q k hk).1
  cases h : (lvs R q).2.getLsbD k
  · have h2 : ¬ 0 ≤ (lvs R q).1 k := fun h2 => by rw [this.2 h2] at h; cases h
    simp; omega
  · have := this.1 h
    simp; omega
theorem ripens_lev (R : Nat → BitVec 32) {q k : Nat} (hq : q < 24) (hk : k < 24) (h : ripens R (lvs R q).1 (lvs R q).2 k = true) : lev R k = (q : Int) := by
  have h1 : (lvs R (q + 1)).1 k = (q : Int) := by rw [lvs_fst, h]; rfl
  have := lvs_stay R (show q + 1 ≤ 24 by omega) hk (by rw [h1]; omega)
  unfold lev
  rw [this, h1]
theorem cyc_sound (R : Nat → BitVec 32) : cyc R = 16777215#32 &&& ~~~(lvs R 24).2 := by
  refine set_ext (fun i _ => ?_)
  rw [mem_cyc, mem_andNot, mem_All]
  by_cases h : i < 24
  · have := sound_iff R h
    cases hs : (lvs R 24).2.getLsbD i
    · have : ¬ 0 ≤ lev R i := fun h2 => by rw [this.2 h2] at hs; cases hs
      simp [h]; omega
    · have := this.1 hs
      simp [h]; omega
  · simp [h]
set_option maxRecDepth 100000 in
set_option maxHeartbeats 2000000 in
theorem xCheck_any (b : Nat) (x : XS) (R : Nat → BitVec 32) (w : World) (hx : XG w b x) (hi : XI x R) (ht : 0 ≤ x.touched ∧ x.touched ≤ 24) :
    Calls Try.prog 20 #[pt b] w fun e w' => e = .returned (.bool true) ∧ Fr S0 w w' := by
  have HX := Bx.mk hx
  have HI := Bx.mk hi
  have hcy := hi.cyc
  have hrd := hi.reads
  have g0 := hx.c0
  have g1 := hx.c1
  have g2 := hx.c2
  have g3 : w.cell? ⟨b, 3, none⟩ = some (U (cyc R)) := by rw [← hcy]; exact hx.c3
  have g4 := hx.c4
  have g5 := hx.c5
  have hb1 : decide (x.touched < 0) = false := by simp; omega
  have hb2 : decide (24 < x.touched) = false := by simp; omega
  have hco : (cyc R &&& 4278190080#32 != 0#32) = false := by
    rw [bne_eq_false_iff_eq, in_All]
    intro i h
    rw [mem_cyc, Bool.and_eq_true] at h
    simpa using h.1
  clear hx hi ht hcy hrd
  go_enter Try.func20, Try.ntmps20
  go_wp2
  go_loopw [3, 4] (fun c _ wr => ∃ k : Nat, k ≤ 24 ∧ c = .int .i64 k ∧ Fr S0 w wr) (fun c _ _ => 24 - (intOf c).toNat)
  case atStart => exact ⟨0, by omega, rfl, Fr.refl _ _⟩
  case round =>
    clear g0 g1 g2 g3 g4 g5
    obtain ⟨k, hk, rfl, hf⟩ := hrel
    have hxr := HX.out.fr0 hf
    by_cases hlk : k < 24
    · have hkd : decide ((k : Int) < 24) = true := by simp; omega
      have g0 := hxr.c0
      have g1 := hxr.c1
      have gr : wr.cell? ⟨b + 1, k, none⟩ = some (U (R k)) := by rw [← HI.out.reads]; exact hxr.r.cell k hlk
      have gb := hxr.rb.cell k hlk
      have ho1 : (R k &&& 4278190080#32 != 0#32) = false := by rw [bne_eq_false_iff_eq, in_All]; exact HI.out.hR k hlk
      have ho2 : (x.readBy k &&& 4278190080#32 != 0#32) = false := by rw [bne_eq_false_iff_eq, in_All]; exact HI.out.hrb k hlk
      clear hxr
      go_wp2
      go_loopw [4] (fun d wr => ∃ j : Nat, j ≤ 24 ∧ d = .int .i64 j ∧ Fr S0 w wr) (fun d _ => 24 - (intOf d).toNat)
      case atStart => exact ⟨0, by omega, rfl, hf⟩
      case round =>
        clear g0 g1 gr gb hf
        obtain ⟨j, hj, rfl, hf⟩ := hrel
        have hxr := HX.out.fr0 hf
        by_cases hlj : j < 24
        · have g0 := hxr.c0
          have g1 := hxr.c1
          have gr : wr.cell? ⟨b + 1, k, none⟩ = some (U (R k)) := by rw [← HI.out.reads]; exact hxr.r.cell k hlk
          have gb := hxr.rb.cell j hlj
          have hT : (x.readBy j).getLsbD k = (R k).getLsbD j := HI.out.hT k j hlk hlj
          have hk1 : (k : Int) < 24 := by omega
          have hj1 : (j : Int) < 24 := by omega
          clear hxr
          cases hbit : (R k).getLsbD j
          · rw [hbit] at hT
            go_wp2_with fail
            go_quiet (fail)
            go_wp2
            go_roundw
            case rel => exact ⟨j + 1, by omega, by go_num, hf.drewN _⟩
            case measure => simp [intOf]; omega
          · rw [hbit] at hT
            go_wp2_with fail
            go_quiet (fail)
            go_wp2
            go_roundw
            case rel => exact ⟨j + 1, by omega, by go_num, hf.drewN _⟩
            case measure => simp [intOf]; omega
        · clear hxr
          go_wp2
          go_roundw
          case rel => exact ⟨k + 1, by omega, by go_num, hf⟩
          case measure => simp [intOf]; omega
    · have g0 := hxr.c0
      have g2 := hxr.c2
      have g3 : wr.cell? ⟨b, 3, none⟩ = some (U (cyc R)) := by rw [← HI.out.cyc]; exact hxr.c3
      have gr : ∀ c, c < 24 → wr.cell? ⟨b + 1, c, none⟩ = some (U (R c)) := fun c hc => by rw [← HI.out.reads]; exact hxr.r.cell c hc
      have gl : ∀ c, c < 24 → wr.cell? ⟨b + 3, c, none⟩ = some (I (lev R c)) := fun c hc => by rw [← HI.out.level c hc]; exact hxr.lv.cell c hc
      have GR := Bx.mk gr
      have GL := Bx.mk gl
      clear hxr gr gl
      go_wp2
      go_loop [5, 6, 7, 8] (fun sn c _ _ => ∃ q : Nat, q ≤ 24 ∧ c = .int .i64 q ∧ sn = U (lvs R q).2) (fun _ c _ _ => 24 - (intOf c).toNat)
      case atStart => exact ⟨0, by omega, rfl, rfl⟩
      case round =>
        obtain ⟨q, hq, rfl, rfl⟩ := hrel
        by_cases hlq : q < 24
        · have hqd : decide ((q : Int) < 24) = true := by simp; omega
          go_wp2
          go_loop [7, 8] (fun nw c => ∃ k : Nat, k ≤ 24 ∧ c = .int .i64 k ∧ nw = U (accTo (ripens R (lvs R q).1 (lvs R q).2) (lvs R q).2 k)) (fun _ c => 24 - (intOf c).toNat)
          case atStart => exact ⟨0, by omega, rfl, rfl⟩
          case round =>
            obtain ⟨c, hc, rfl, rfl⟩ := hrel
            by_cases hlc : c < 24
            · have grc := GR.out c hlc
              have glc := GL.out c hlc
              have HRS := Bx.mk (ripens_sound R (q := q) hlc)
              have HRL := Bx.mk (ripens_lev R (q := q) hlq hlc)
              have hacc : Bx (∀ p0 : Bool, ripens R (lvs R q).1 (lvs R q).2 c = p0 → accTo (ripens R (lvs R q).1 (lvs R q).2) (lvs R q).2 (c + 1) = if p0 then accTo (ripens R (lvs R q).1 (lvs R q).2) (lvs R q).2 c ||| bit c else accTo (ripens R (lvs R q).1 (lvs R q).2) (lvs R q).2 c) := ⟨fun p0 hp0 => by rw [← hp0]; rfl⟩
              cases h1 : (lvs R q).2.getLsbD c
              · cases h2 : (R c &&& ~~~(lvs R q).2 == 0#32)
                · have hr : Bx (ripens R (lvs R q).1 (lvs R q).2 c = false) := ⟨by rw [HRS.out, h2]; simp⟩
                  go_wp2
                  go_round
                  case rel => exact ⟨c + 1, by omega, by go_num, by rw [hacc.out _ hr.out]; rfl⟩
                  case measure => simp [intOf]; omega
                · have hr : Bx (ripens R (lvs R q).1 (lvs R q).2 c = true) := ⟨by rw [HRS.out, h1, h2]; rfl⟩
                  have hl := HRL.out hr.out
                  rw [hl] at glc
                  clear hl
                  go_wp2_with (go_at_call 33; refine (one_any _ _ hlc).mono ?_; rintro e w' ⟨rfl, rfl⟩)
                  go_round
                  case rel => exact ⟨c + 1, by omega, by go_num, by rw [hacc.out _ hr.out]; rfl⟩
                  case measure => simp [intOf]; omega
              · have hr : Bx (ripens R (lvs R q).1 (lvs R q).2 c = false) := ⟨by rw [HRS.out, h1]; simp⟩
                go_wp2
                go_round
                case rel => exact ⟨c + 1, by omega, by go_num, by rw [hacc.out _ hr.out]; rfl⟩
                case measure => simp [intOf]; omega
            · have hc24 : c = 24 := by omega
              subst hc24
              go_wp2
              go_round
              case rel => exact ⟨q + 1, by omega, by go_num, rfl⟩
              case measure => simp [intOf]; omega
        · have hq24 : q = 24 := by omega
          subst hq24
          go_wp2
          go_loop [9] (fun c => ∃ k : Nat, k ≤ 24 ∧ c = .int .i64 k) (fun c => 24 - (intOf c).toNat)
          case atStart => exact ⟨0, by omega, rfl⟩
          case round =>
            obtain ⟨c, hc, rfl⟩ := hrel
            by_cases hlc : c < 24
            · have glc := GL.out c hlc
              cases h1 : (lvs R 24).2.getLsbD c
              · have hl : lev R c = -1 := by
                  have h2 := sound_iff R hlc
                  have h3 := lev_bd R hlc
                  have : ¬ 0 ≤ lev R c := fun h => by rw [h2.2 h] at h1; cases h1
                  omega
                rw [hl] at glc
                clear hl
                go_wp2
                go_round
                case rel => exact ⟨c + 1, by omega, by go_num⟩
                case measure => simp [intOf]; omega
              · go_wp2
                go_round
                case rel => exact ⟨c + 1, by omega, by go_num⟩
                case measure => simp [intOf]; omega
            · have hfin : (cyc R == 16777215#32 &&& ~~~(lvs R 24).2) = true := by rw [beq_iff_eq]; exact cyc_sound R
              go_wp2
              go_ret
              exact ⟨rfl, hf⟩
end Go.Proofs.Qxb6500330a
