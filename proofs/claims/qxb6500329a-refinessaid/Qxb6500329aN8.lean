import Derived.Test.Qxb6500329aN7
import Derived.Deep.CutRange
namespace Go.Proofs.Qxb6500329a
set_option linter.unusedVariables false
set_option linter.unusedSimpArgs false
open Go.RowKit Go.PlainAid
theorem row_const8 (w : World) (M : Array Value) (T : TypeId) (c : Value) (h : M.size = 8) (hc : ∀ i, i < 8 → M[i]? = some c) : Row (w.alloc (.cells M T)) w.heap.size 8 (fun _ => c) := Row.new _ _ _ _ _ h hc
theorem k8_row (w : World) {H : Nat} (e : w.heap.size = H) : Row (w.alloc (.cells K8 31)) H 8 (fun _ => .slice none 0 0) := by
  subst e; exact row_const8 w K8 31 _ rfl (by intro i hi; rcases i with _ | _ | _ | _ | _ | _ | _ | _ | i <;> first | rfl | omega)
theorem s8_row (w : World) {H : Nat} (e : w.heap.size = H) : Row (w.alloc (.cells S8 3)) H 8 (fun _ => I 0) := by
  subst e; exact row_const8 w S8 3 _ rfl (by intro i hi; rcases i with _ | _ | _ | _ | _ | _ | _ | _ | i <;> first | rfl | omega)
abbrev dk0 (K S : Nat) : Array Value := #[.string ⟨#[]⟩, .slice none 0 0, I (-1), I 0, I 0, sl K 8 8, sl S 8 8, I 0]
theorem dk0_row (w : World) (K S : Nat) {H : Nat} (e : w.heap.size = H) : Row (w.alloc (.cells (dk0 K S) 67)) H 8 (dkC ⟨#[]⟩ (.slice none 0 0) ⟨[], -1, 0, 0⟩ K S 0) := by
  subst e; exact Row.new _ _ _ _ _ rfl (by intro i hi; rcases i with _ | _ | _ | _ | _ | _ | _ | _ | i <;> first | rfl | omega)
theorem wi_start {w0 w3 W : World} {B : FB} {fb d K S : Nat} (hz : FZ w3 B) (hm : MF w3 fb) (h0 : Fr S0 w0 w3) (hW : Fr S0 w3 W) (hB : ∀ k, FmS B k → w0.heap.size ≤ k ∧ k < fb) (hfb : fb < w3.heap.size) (hfb0 : w0.heap.size ≤ fb) (hd : w3.heap.size ≤ d ∧ d < W.heap.size) (hK : w3.heap.size ≤ K ∧ K < W.heap.size) (hS : w3.heap.size ≤ S ∧ S < W.heap.size) (dK : d ≠ K) (dS : d ≠ S) (KS : K ≠ S)
    (rd : Row W d 8 (dkC ⟨#[]⟩ (.slice none 0 0) ⟨[], -1, 0, 0⟩ K S 0)) (rK : Row W K 8 (fun _ => .slice none 0 0)) (rS : Row W S 8 (fun _ => I 0)) : WI w0 W B fb d K S 0 := by
  have s0 := h0.size
  have s1 := hW.size
  have nb : ∀ k, fb ≤ k → ¬ FmS B k := fun k hk e => by have := (hB k e).2; omega
  have hids : Ids B fb d K S := ⟨nb d (by omega), nb K (by omega), nb S (by omega), nb fb (Nat.le_refl _), by omega, by omega, by omega, dK, dS, KS⟩
  refine ⟨⟨_, _, _, 0, ⟨ds_start hids rd rK rS _, hz.fr0 hW, hm.fr hW (fun c => c), ⟨hd.2, hK.2, hS.2, by omega, fun k hk => by have := (hB k hk).2; omega⟩, by decide, by decide, by decide⟩, by omega, fun x hx => by cases hx⟩, ?_, h0.trans hW⟩
  rintro x (e | e | e | e | e)
  · exact (hB x e).1
  · omega
  · omega
  · omega
  · omega
set_option maxRecDepth 100000 in
set_option maxHeartbeats 8000000 in
theorem walk_any (q : Bool) (ad : Option Addr) (len cap : Nat) (w : World) (hlen : len ≤ 140737488355328) (hs : Script w ad len) :
    Calls Try.prog 15 #[.slice ad len cap, .bool q] w fun e w' => ∃ v, e = .returned (.tuple #[.int .i64 (-1), v]) ∧ Fr S0 w w' := by
  have HS := Bx.mk hs
  have m64 := mk64
  have m65 := mk65
  clear hs
  go_enter Try.func15, Try.ntmps15
  go_wp2_with (first
    | (go_at_call 24; refine (ground_any _).mono ?_; rintro e w1 ⟨rfl, hf1⟩)
    | (go_at_call 25; refine (new_any _).mono ?_; rintro e w2 ⟨B, rfl, hz2, hf2, hb2⟩)
    | (go_at_call 9; refine (mnew_any _).mono ?_; rintro e w3 ⟨rfl, hm3, hf3, hz3⟩))
  have s1 := hf1.size
  have s2 : w1.heap.size + 1 ≤ w2.heap.size := by have := hf2.size; simpa using this
  have hfr3 : Fr S0 w w3 := ((hf1.alloc _).trans hf2).trans hf3
  have hb3 : ∀ k, FmS B k → w.heap.size ≤ k ∧ k < w2.heap.size := fun k hk => by have := hb2 k hk; simp at this; omega
  have hz3' : FZ w3 B := hz2.fr0 hf3
  have hfbn : w2.heap.size < w3.heap.size := by omega
  have hfb0 : w.heap.size ≤ w2.heap.size := by omega
  have hW1 : Bx (WI w ((((w3.alloc (.cells K8 31)).alloc (.cells S8 3)).alloc (.cells (dk0 w3.heap.size (w3.heap.size + 1)) 67)).drew) B w2.heap.size (w3.heap.size + 1 + 1) w3.heap.size (w3.heap.size + 1) 0) := Bx.mk (wi_start hz3' hm3 hfr3 ((((Fr.refl _ _).alloc _).alloc _).alloc _).drew hb3 hfbn hfb0 (by simp <;> omega) (by simp <;> omega) (by simp <;> omega) (by omega) (by omega) (by omega)
    (dk0_row _ w3.heap.size (w3.heap.size + 1) (by simp)).drew (((k8_row w3 rfl).alloc _).alloc _).drew ((s8_row _ (by simp)).alloc _).drew)
  have hW2 : Bx (WI w ((((w3.alloc (.cells S8 3)).alloc (.cells K8 31)).alloc (.cells (dk0 (w3.heap.size + 1) w3.heap.size) 67)).drew) B w2.heap.size (w3.heap.size + 1 + 1) (w3.heap.size + 1) w3.heap.size 0) := Bx.mk (wi_start hz3' hm3 hfr3 ((((Fr.refl _ _).alloc _).alloc _).alloc _).drew hb3 hfbn hfb0 (by simp <;> omega) (by simp <;> omega) (by simp <;> omega) (by omega) (by omega) (by omega)
    (dk0_row _ (w3.heap.size + 1) w3.heap.size (by simp)).drew ((k8_row _ (by simp)).alloc _).drew (((s8_row w3 rfl).alloc _).alloc _).drew)
  clear hz2 hb2 hm3 hf1 hf2 hf3 hz3 s1 s2 hfr3 hb3 hz3' hfbn hfb0
  generalize hfbE : w2.heap.size = fb at *
  clear hfbE
  go_region
  · go_upto_region 5 with fail
    refine world_cut (fun wz => WI w wz B fb (w3.heap.size + 1 + 1) w3.heap.size (w3.heap.size + 1) 0) hW1.out ?_
    clear hW1 hW2
    rintro wz hWI
    have hzf : Bx (FZ wz B) := Bx.mk (by obtain ⟨s, v, t, ct, h1, -, -⟩ := hWI.st; exact h1.fz)
    have hWB := Bx.mk hWI
    clear hWI
    cases q with
    | false =>
      go_wp2_with (first | (go_at_call 26; refine (check_any B _ hzf.out).mono ?_; clear hzf; rintro e w' ⟨rfl, rfl⟩))
      go_loopw [10] (fun ii wr => ∃ k : Nat, ii = I k ∧ k ≤ len ∧ WI w wr B fb (w3.heap.size + 1 + 1) w3.heap.size (w3.heap.size + 1) k) (fun ii _ => len - (intOf ii).toNat)
      case atStart => exact ⟨0, rfl, Nat.zero_le _, hWB.out⟩
      case round =>
        clear hWB
        obtain ⟨k, rfl, hk, hWI⟩ := hrel
        have hfw := Bx.mk hWI.fr
        have hWIB := Bx.mk hWI
        clear hWI
        by_cases hlk : k < len
        · have hlkd : decide ((k : Int) < (len : Int)) = true := by simp; omega
          by_cases hmk : k < 4398046511104
          · have hmkd : decide ((k : Int) < 4398046511104) = true := by simp; omega
            have hk3 : Bx (3 * k + 3 < 2 ^ 58) := Bx.mk (by omega)
            obtain ⟨b, off, kd, A, Bv, C, S1, T1, rfl, hb, hop⟩ := HS.out k hlk
            have hopB := Bx.mk hop
            clear hmk hop
            go_wp2_with (first
                  | (go_at_call 27; refine (mark_any _).mono ?_; rintro e wm ⟨rfl, hfm⟩; have hWm := hWIB.out.fr0 hfm; obtain ⟨⟨s, v, t, ct, hS, hc, hv⟩, hu, hfwm⟩ := hWm; obtain ⟨o0, o1, o2, o3, o4, o5, hbd⟩ := hopB.out.fr hfwm hb (fun c => c); have hply := Bx.mk (play_any B fb (w3.heap.size + 1 + 1) w3.heap.size (w3.heap.size + 1) s v t ct kd A Bv C S1 T1 false wm hS hbd.2); have hSB := Bx.mk hS; have hcB := Bx.mk hc; have hvB := Bx.mk hv; have huB := Bx.mk hu; have hfB := Bx.mk hfwm; clear hS hc hv hu hbd)
                  | (go_at_call 28; refine hply.out.mono ?_; clear hply; rintro e wp ⟨rfl, hrest⟩; have hWp := Bx.mk (WI.step hk3.out hSB.out hcB.out hvB.out huB.out hfB.out ⟨rfl, hrest⟩); have hzp := Bx.mk hrest.2.1; clear hrest)
                  | (go_at_call 26; refine (check_any B _ hzp.out).mono ?_; clear hzp; rintro e w' ⟨rfl, rfl⟩))
            go_roundw
            case rel => exact ⟨k + 1, by go_num, by omega, hWp.out⟩
            case measure => simp [intOf]; omega
          · have hmkd : decide ((k : Int) < 4398046511104) = false := by simp; omega
            have hge : decide ((len : Int) < 4398046511104) = false := by simp; omega
            clear hmk
            go_wp2_with fail
            go_ret2
            exact ⟨_, rfl, hfw.out⟩
        · have hlkd : decide ((k : Int) < (len : Int)) = false := by simp; omega
          by_cases hge : len < 4398046511104
          · have hged : decide ((len : Int) < 4398046511104) = true := by simp; omega
            clear hge
            go_wp2_with fail
            go_ret2
            exact ⟨_, rfl, hfw.out⟩
          · have hged : decide ((len : Int) < 4398046511104) = false := by simp; omega
            clear hge
            go_wp2_with fail
            go_ret2
            exact ⟨_, rfl, hfw.out⟩
    | true =>
      go_wp2_with fail
      go_loopw [10] (fun ii wr => ∃ k : Nat, ii = I k ∧ k ≤ len ∧ WI w wr B fb (w3.heap.size + 1 + 1) w3.heap.size (w3.heap.size + 1) k) (fun ii _ => len - (intOf ii).toNat)
      case atStart => exact ⟨0, rfl, Nat.zero_le _, hWB.out⟩
      case round =>
        clear hWB
        obtain ⟨k, rfl, hk, hWI⟩ := hrel
        have hfw := Bx.mk hWI.fr
        have hWIB := Bx.mk hWI
        clear hWI
        by_cases hlk : k < len
        · have hlkd : decide ((k : Int) < (len : Int)) = true := by simp; omega
          by_cases hmk : k < 4398046511104
          · have hmkd : decide ((k : Int) < 4398046511104) = true := by simp; omega
            have hk3 : Bx (3 * k + 3 < 2 ^ 58) := Bx.mk (by omega)
            obtain ⟨b, off, kd, A, Bv, C, S1, T1, rfl, hb, hop⟩ := HS.out k hlk
            have hopB := Bx.mk hop
            clear hmk hop
            go_wp2_with (first
                  | (go_at_call 27; refine (mark_any _).mono ?_; rintro e wm ⟨rfl, hfm⟩; have hWm := hWIB.out.fr0 hfm; obtain ⟨⟨s, v, t, ct, hS, hc, hv⟩, hu, hfwm⟩ := hWm; obtain ⟨o0, o1, o2, o3, o4, o5, hbd⟩ := hopB.out.fr hfwm hb (fun c => c); have hply := Bx.mk (play_any B fb (w3.heap.size + 1 + 1) w3.heap.size (w3.heap.size + 1) s v t ct kd A Bv C S1 T1 true wm hS hbd.2); have hSB := Bx.mk hS; have hcB := Bx.mk hc; have hvB := Bx.mk hv; have huB := Bx.mk hu; have hfB := Bx.mk hfwm; clear hS hc hv hu hbd)
                  | (go_at_call 28; refine hply.out.mono ?_; clear hply; rintro e wp ⟨rfl, hrest⟩; have hWp := Bx.mk (WI.step hk3.out hSB.out hcB.out hvB.out huB.out hfB.out ⟨rfl, hrest⟩); have hzp := Bx.mk hrest.2.1; clear hrest))
            go_roundw
            case rel => exact ⟨k + 1, by go_num, by omega, hWp.out⟩
            case measure => simp [intOf]; omega
          · have hmkd : decide ((k : Int) < 4398046511104) = false := by simp; omega
            have hge : decide ((len : Int) < 4398046511104) = false := by simp; omega
            clear hmk
            go_wp2_with fail
            go_ret2
            exact ⟨_, rfl, hfw.out⟩
        · have hlkd : decide ((k : Int) < (len : Int)) = false := by simp; omega
          by_cases hge : len < 4398046511104
          · have hged : decide ((len : Int) < 4398046511104) = true := by simp; omega
            clear hge
            go_wp2_with fail
            go_ret2
            exact ⟨_, rfl, hfw.out⟩
          · have hged : decide ((len : Int) < 4398046511104) = false := by simp; omega
            clear hge
            go_wp2_with fail
            go_ret2
            exact ⟨_, rfl, hfw.out⟩
  · go_upto_region 5 with fail
    refine world_cut (fun wz => WI w wz B fb (w3.heap.size + 1 + 1) (w3.heap.size + 1) w3.heap.size 0) hW2.out ?_
    clear hW1 hW2
    rintro wz hWI
    have hzf : Bx (FZ wz B) := Bx.mk (by obtain ⟨s, v, t, ct, h1, -, -⟩ := hWI.st; exact h1.fz)
    have hWB := Bx.mk hWI
    clear hWI
    cases q with
    | false =>
      go_wp2_with (first | (go_at_call 26; refine (check_any B _ hzf.out).mono ?_; clear hzf; rintro e w' ⟨rfl, rfl⟩))
      go_loopw [10] (fun ii wr => ∃ k : Nat, ii = I k ∧ k ≤ len ∧ WI w wr B fb (w3.heap.size + 1 + 1) (w3.heap.size + 1) w3.heap.size k) (fun ii _ => len - (intOf ii).toNat)
      case atStart => exact ⟨0, rfl, Nat.zero_le _, hWB.out⟩
      case round =>
        clear hWB
        obtain ⟨k, rfl, hk, hWI⟩ := hrel
        have hfw := Bx.mk hWI.fr
        have hWIB := Bx.mk hWI
        clear hWI
        by_cases hlk : k < len
        · have hlkd : decide ((k : Int) < (len : Int)) = true := by simp; omega
          by_cases hmk : k < 4398046511104
          · have hmkd : decide ((k : Int) < 4398046511104) = true := by simp; omega
            have hk3 : Bx (3 * k + 3 < 2 ^ 58) := Bx.mk (by omega)
            obtain ⟨b, off, kd, A, Bv, C, S1, T1, rfl, hb, hop⟩ := HS.out k hlk
            have hopB := Bx.mk hop
            clear hmk hop
            go_wp2_with (first
                  | (go_at_call 27; refine (mark_any _).mono ?_; rintro e wm ⟨rfl, hfm⟩; have hWm := hWIB.out.fr0 hfm; obtain ⟨⟨s, v, t, ct, hS, hc, hv⟩, hu, hfwm⟩ := hWm; obtain ⟨o0, o1, o2, o3, o4, o5, hbd⟩ := hopB.out.fr hfwm hb (fun c => c); have hply := Bx.mk (play_any B fb (w3.heap.size + 1 + 1) (w3.heap.size + 1) w3.heap.size s v t ct kd A Bv C S1 T1 false wm hS hbd.2); have hSB := Bx.mk hS; have hcB := Bx.mk hc; have hvB := Bx.mk hv; have huB := Bx.mk hu; have hfB := Bx.mk hfwm; clear hS hc hv hu hbd)
                  | (go_at_call 28; refine hply.out.mono ?_; clear hply; rintro e wp ⟨rfl, hrest⟩; have hWp := Bx.mk (WI.step hk3.out hSB.out hcB.out hvB.out huB.out hfB.out ⟨rfl, hrest⟩); have hzp := Bx.mk hrest.2.1; clear hrest)
                  | (go_at_call 26; refine (check_any B _ hzp.out).mono ?_; clear hzp; rintro e w' ⟨rfl, rfl⟩))
            go_roundw
            case rel => exact ⟨k + 1, by go_num, by omega, hWp.out⟩
            case measure => simp [intOf]; omega
          · have hmkd : decide ((k : Int) < 4398046511104) = false := by simp; omega
            have hge : decide ((len : Int) < 4398046511104) = false := by simp; omega
            clear hmk
            go_wp2_with fail
            go_ret2
            exact ⟨_, rfl, hfw.out⟩
        · have hlkd : decide ((k : Int) < (len : Int)) = false := by simp; omega
          by_cases hge : len < 4398046511104
          · have hged : decide ((len : Int) < 4398046511104) = true := by simp; omega
            clear hge
            go_wp2_with fail
            go_ret2
            exact ⟨_, rfl, hfw.out⟩
          · have hged : decide ((len : Int) < 4398046511104) = false := by simp; omega
            clear hge
            go_wp2_with fail
            go_ret2
            exact ⟨_, rfl, hfw.out⟩
    | true =>
      go_wp2_with fail
      go_loopw [10] (fun ii wr => ∃ k : Nat, ii = I k ∧ k ≤ len ∧ WI w wr B fb (w3.heap.size + 1 + 1) (w3.heap.size + 1) w3.heap.size k) (fun ii _ => len - (intOf ii).toNat)
      case atStart => exact ⟨0, rfl, Nat.zero_le _, hWB.out⟩
      case round =>
        clear hWB
        obtain ⟨k, rfl, hk, hWI⟩ := hrel
        have hfw := Bx.mk hWI.fr
        have hWIB := Bx.mk hWI
        clear hWI
        by_cases hlk : k < len
        · have hlkd : decide ((k : Int) < (len : Int)) = true := by simp; omega
          by_cases hmk : k < 4398046511104
          · have hmkd : decide ((k : Int) < 4398046511104) = true := by simp; omega
            have hk3 : Bx (3 * k + 3 < 2 ^ 58) := Bx.mk (by omega)
            obtain ⟨b, off, kd, A, Bv, C, S1, T1, rfl, hb, hop⟩ := HS.out k hlk
            have hopB := Bx.mk hop
            clear hmk hop
            go_wp2_with (first
                  | (go_at_call 27; refine (mark_any _).mono ?_; rintro e wm ⟨rfl, hfm⟩; have hWm := hWIB.out.fr0 hfm; obtain ⟨⟨s, v, t, ct, hS, hc, hv⟩, hu, hfwm⟩ := hWm; obtain ⟨o0, o1, o2, o3, o4, o5, hbd⟩ := hopB.out.fr hfwm hb (fun c => c); have hply := Bx.mk (play_any B fb (w3.heap.size + 1 + 1) (w3.heap.size + 1) w3.heap.size s v t ct kd A Bv C S1 T1 true wm hS hbd.2); have hSB := Bx.mk hS; have hcB := Bx.mk hc; have hvB := Bx.mk hv; have huB := Bx.mk hu; have hfB := Bx.mk hfwm; clear hS hc hv hu hbd)
                  | (go_at_call 28; refine hply.out.mono ?_; clear hply; rintro e wp ⟨rfl, hrest⟩; have hWp := Bx.mk (WI.step hk3.out hSB.out hcB.out hvB.out huB.out hfB.out ⟨rfl, hrest⟩); have hzp := Bx.mk hrest.2.1; clear hrest))
            go_roundw
            case rel => exact ⟨k + 1, by go_num, by omega, hWp.out⟩
            case measure => simp [intOf]; omega
          · have hmkd : decide ((k : Int) < 4398046511104) = false := by simp; omega
            have hge : decide ((len : Int) < 4398046511104) = false := by simp; omega
            clear hmk
            go_wp2_with fail
            go_ret2
            exact ⟨_, rfl, hfw.out⟩
        · have hlkd : decide ((k : Int) < (len : Int)) = false := by simp; omega
          by_cases hge : len < 4398046511104
          · have hged : decide ((len : Int) < 4398046511104) = true := by simp; omega
            clear hge
            go_wp2_with fail
            go_ret2
            exact ⟨_, rfl, hfw.out⟩
          · have hged : decide ((len : Int) < 4398046511104) = false := by simp; omega
            clear hge
            go_wp2_with fail
            go_ret2
            exact ⟨_, rfl, hfw.out⟩
end Go.Proofs.Qxb6500329a
