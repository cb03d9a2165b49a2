import Derived.Test.Qxb6500330aD5
namespace Go.Proofs.Qxb6500330a
set_option linter.unusedVariables false
set_option linter.unusedSimpArgs false
open Go.RowKit
attribute [local go_sem] bv_and bv_or bv_andNot bv_and_all bv_andNot_all bv_all_andNot bv_eq_all bv_ne_all bv_pred bv_pred' bv_eq_zero bv_ne_zero bv_eq bv_ne bv_bit

set_option maxHeartbeats 400000 in
theorem ground_any (w : World) : Calls Try.prog 8 #[] w fun e w' => e = .returned (.agg #[]) ∧ Fr S0 w w' ∧ w'.heap.size = w.heap.size + 1 := by
  go_enter Try.func8, Try.ntmps8
  go_wp2
  exact bodyPost_ret (v := .agg #[]) (by simp [results, Try.results8, go_sem]) rfl ⟨rfl, (Fr.refl _ _).alloc _, by simp⟩
/-- What the walk reads of the script: op number i. -/
structure OpAt (w : World) (b o : Nat) (kd A Bv C : Int) (S T : ByteArray) : Prop where
  c0 : w.cell? ⟨b, o, none⟩ = some (.int .i64 kd)
  c1 : w.cell? ⟨b, o + 1, none⟩ = some (.int .i64 A)
  c2 : w.cell? ⟨b, o + 2, none⟩ = some (.int .i64 Bv)
  c3 : w.cell? ⟨b, o + 3, none⟩ = some (.int .i64 C)
  c4 : w.cell? ⟨b, o + 4, none⟩ = some (.string S)
  c5 : w.cell? ⟨b, o + 5, none⟩ = some (.string T)
  bd : -9223372036854775808 ≤ Bv ∧ Bv ≤ 9223372036854775807
theorem OpAt.fr {Q : Nat → Prop} {w w' : World} {b o : Nat} {kd A Bv C : Int} {S T : ByteArray} (h : OpAt w b o kd A Bv C S T) (f : Fr Q w w') (hb : b < w.heap.size) (hq : ¬ Q b) : OpAt w' b o kd A Bv C S T :=
  ⟨(f.cell (a := ⟨b, o, none⟩) hb hq).trans h.c0, (f.cell (a := ⟨b, o + 1, none⟩) hb hq).trans h.c1, (f.cell (a := ⟨b, o + 2, none⟩) hb hq).trans h.c2, (f.cell (a := ⟨b, o + 3, none⟩) hb hq).trans h.c3, (f.cell (a := ⟨b, o + 4, none⟩) hb hq).trans h.c4, (f.cell (a := ⟨b, o + 5, none⟩) hb hq).trans h.c5, h.bd⟩
/-- The law's state at the start. -/
theorem law_start {w0 w : World} {B : Nat} (hf : Fr (SB B) w0 w) (hx : XG w B x0) (hm : MG w (B + 5) (fun _ => 0#32)) (hd : DK w (B + 7) 0 0 0 (fun _ => .slice none 0 0)) : Law w0 w B (fun _ => 0#32) 0 :=
  ⟨hf, hm, x0, 0, 0, 0, _, hx, x0_inv, hd, Nat.le_refl _, fun k h => absurd h (by omega), by omega, by simp [x0], by simp [x0], by simp [x0]⟩
theorem Fr.mono0 {B : Nat} {w w' : World} (h : Fr (SB B) w w') (hB : w.heap.size ≤ B) : Fr S0 w w' := ⟨h.os, h.tape, h.output, h.size, fun k hk _ => h.block k hk (fun hs => by have h1 := hs.1; omega)⟩
theorem Law.rebase {w0 w : World} {B : Nat} {R : Nat → BitVec 32} {M : Nat} (h : Law w0 w B R M) : Law w w B R M := ⟨Fr.refl _ _, h.m, h.x⟩
theorem Law.chain {w0 w w' : World} {B : Nat} {R : Nat → BitVec 32} {M : Nat} (h : Fr (SB B) w0 w) (h' : Law w w' B R M) : Law w0 w' B R M := ⟨h.trans h'.fr, h'.m, h'.x⟩
theorem Law.lt {w0 w : World} {B : Nat} {R : Nat → BitVec 32} {M : Nat} (h : Law w0 w B R M) : B + 7 < w.heap.size := by
  obtain ⟨x, lid, fl, n, olds, hx, hi, hd, -⟩ := h.x
  exact Row.lt hd
def dz : Array Value := #[.int .i64 0, .int .i64 0, .slice none 0 0, .slice none 0 0, .slice none 0 0, .slice none 0 0, .slice none 0 0, .slice none 0 0, .slice none 0 0, .slice none 0 0, .int .i64 0]
theorem dk_new (w : World) : DK (w.alloc (.cells dz 38)) w.heap.size 0 0 0 (fun _ => .slice none 0 0) :=
  Row.new _ _ _ _ _ rfl (fun i hi => by
    match i, hi with
    | 0, _ => rfl
    | 1, _ => rfl
    | 2, _ => rfl
    | 3, _ => rfl
    | 4, _ => rfl
    | 5, _ => rfl
    | 6, _ => rfl
    | 7, _ => rfl
    | 8, _ => rfl
    | 9, _ => rfl
    | 10, _ => rfl)
set_option maxRecDepth 100000 in
set_option maxHeartbeats 2000000 in
theorem walk_any (q : Bool) (ad : Option Addr) (len cap : Nat) (w : World) (hlen : len ≤ 140737488355328) (hs : ∀ i, i < len → ∃ b off kd A Bv C S T, ad = some ⟨b, off, none⟩ ∧ b < w.heap.size ∧ OpAt w b (off + i * 6) kd A Bv C S T) :
    Calls Try.prog 7 #[.slice ad len cap, .bool q] w fun e w' => ∃ v, e = .returned (.tuple #[.int .i64 (-1), v]) ∧ Fr S0 w w' := by
  have HS := Bx.mk hs
  clear hs
  go_enter Try.func7, Try.ntmps7
  go_wp2_with (first
    | (go_at_call 8; refine (ground_any _).mono ?_; rintro e w1 ⟨rfl, hf1, hz1⟩; replace hz1 := Bx.mk hz1)
    | (go_at_call 9; refine (xNew_any _).mono ?_; rintro e w2 ⟨rfl, hx2, hf2, hz2⟩; replace hz2 := Bx.mk hz2)
    | (go_at_call 10; refine (mNew_any _).mono ?_; rintro e w3 ⟨rfl, hm3, hf3, hz3⟩; replace hz3 := Bx.mk hz3)
    | fail)
  have e1 := hz1.out
  have e2 : w2.heap.size = w1.heap.size + 5 := hz2.out
  have e3 : w3.heap.size = w1.heap.size + 7 := by have := hz3.out; omega
  have hd4 := dk_new w3
  have hx4 : XG (w3.alloc (.cells dz 38)) w1.heap.size x0 := (hx2.fr0 hf3).fr0 ((Fr.refl _ _).alloc _)
  have hm4 : MG (w3.alloc (.cells dz 38)) w2.heap.size (fun _ => 0#32) := hm3.fr0 ((Fr.refl _ _).alloc _)
  have hf4 : Fr (SB w1.heap.size) w (w3.alloc (.cells dz 38)) := (((hf1.trans hf2).trans hf3).alloc _).up
  rw [e2] at hm4 ⊢
  rw [e3] at hd4 ⊢
  have hB : w.heap.size ≤ w1.heap.size := by omega
  clear hx2 hm3 hf1 hf2 hf3 hz1 hz2 hz3 e1 e2 e3
  generalize w1.heap.size = B at *
  have hL := law_start hf4 hx4 hm4 hd4
  clear hx4 hm4 hd4 hf4
  unfold dz at hL
  refine (keeps_law B _ 0 _ hL).mono ?_
  rintro e w4 ⟨rfl, hL4⟩
  clear hL
  cases q
  · -- the loud walk
    go_wp2_with (go_at_call 12; refine (seen_any _ _ _ _ hL4 (by omega)).mono ?_; rintro e w5 ⟨rfl, hL5⟩)
    go_loopw [9, 10] (fun i _ wr => ∃ k : Nat, k ≤ len ∧ i = .int .i64 k ∧ ∃ R, Law w wr B R (2 * k + 1)) (fun i _ _ => len - (intOf i).toNat)
    case atStart => exact ⟨0, by omega, rfl, _, hL5⟩
    case round =>
      clear hL4 hL5
      obtain ⟨k, hk, rfl, R, hL⟩ := hrel
      by_cases hlk : k < len
      · have hlkd : decide ((k : Int) < (len : Int)) = true := by simp; omega
        by_cases hmk : k < 4398046511104
        · have hmkd : decide ((k : Int) < 4398046511104) = true := by simp; omega
          clear hmk
          obtain ⟨b, off, kd, A, Bv, C, S, T, rfl, hb, hop⟩ := HS.out k hlk
          have hop2 := hop.fr hL.fr hb (by show ¬ (B ≤ b ∧ b < B + 8); omega)
          obtain ⟨o0, o1, o2, o3, o4, o5, hbd⟩ := hop2
          clear hop
          have hlt := hL.lt
          have hLa : Law wr (wr.alloc (.cells #[.int .i64 kd, .int .i64 A, .int .i64 Bv, .int .i64 C, .string S, .string T] 42)) B R (2 * k + 1) := hL.rebase.fr0 ((Fr.refl S0 wr).alloc _)
          have hLr := hLa.rebase
          have HF0 := Bx.mk (hL.fr.trans hLa.fr)
          have hcell : (wr.alloc (.cells #[.int .i64 kd, .int .i64 A, .int .i64 Bv, .int .i64 C, .string S, .string T] 42)).cell? ⟨wr.heap.size, 0, none⟩ = some (.int .i64 kd) := by simp
          have HC := Bx.mk hcell
          clear hLa hL hcell
          have hMk : 2 * k + 1 ≤ 1152921504606846976 := by omega
          have HP := Bx.mk (play_any B R (2 * k + 1) kd A Bv C S T _ hLr hMk hbd)
          have hnb : ¬ (B ≤ wr.heap.size ∧ wr.heap.size < B + 8) := by omega
          clear hMk hLr
          go_wp2_with fail
          refine HP.out.mono ?_
          rintro e w1 ⟨rfl, R1, h1⟩
          have hc1 := (h1.fr.cell (a := ⟨wr.heap.size, 0, none⟩) (by simp) hnb).trans HC.out
          have h1 := Law.chain HF0.out h1
          by_cases hk1 : kd = 1
          · have hk1b : (kd == 1) = true := by simp [hk1]
            clear hk1
            go_wp2_with (first | (go_at_call 11; refine (keeps_law _ _ _ _ h1).mono ?_; rintro e w2 ⟨rfl, h2⟩) | (go_at_call 12; refine (seen_any _ _ _ _ h2 (by omega)).mono ?_; rintro e w3 ⟨rfl, h3⟩))
            go_roundw
            case rel => exact ⟨k + 1, by omega, by go_num, _, h3.up (by omega)⟩
            case measure => simp [intOf]; omega
          · have hk1b : (kd == 1) = false := by simpa using hk1
            clear hk1
            go_wp2_with (first | (go_at_call 12; refine (seen_any _ _ _ _ h1 (by omega)).mono ?_; rintro e w3 ⟨rfl, h3⟩))
            go_roundw
            case rel => exact ⟨k + 1, by omega, by go_num, _, h3.up (by omega)⟩
            case measure => simp [intOf]; omega
        · have hmkd : decide ((k : Int) < 4398046511104) = false := by simp; omega
          have hge : decide ((len : Int) < 4398046511104) = false := by simp; omega
          clear hmk
          go_wp2
          go_ret2
          exact ⟨_, rfl, hL.fr.mono0 hB⟩
      · have hlkd : decide ((k : Int) < (len : Int)) = false := by simp; omega
        by_cases hge : len < 4398046511104
        · have hged : decide ((len : Int) < 4398046511104) = true := by simp; omega
          clear hge
          go_wp2
          go_ret2
          exact ⟨_, rfl, hL.fr.mono0 hB⟩
        · have hged : decide ((len : Int) < 4398046511104) = false := by simp; omega
          clear hge
          go_wp2
          go_ret2
          exact ⟨_, rfl, hL.fr.mono0 hB⟩
  · -- the quiet walk
    go_wp2
    go_loopw [9, 10] (fun i _ wr => ∃ k : Nat, k ≤ len ∧ i = .int .i64 k ∧ ∃ R, Law w wr B R (2 * k + 1)) (fun i _ _ => len - (intOf i).toNat)
    case atStart => exact ⟨0, by omega, rfl, _, hL4.up (by omega)⟩
    case round =>
      clear hL4
      obtain ⟨k, hk, rfl, R, hL⟩ := hrel
      by_cases hlk : k < len
      · have hlkd : decide ((k : Int) < (len : Int)) = true := by simp; omega
        by_cases hmk : k < 4398046511104
        · have hmkd : decide ((k : Int) < 4398046511104) = true := by simp; omega
          clear hmk
          obtain ⟨b, off, kd, A, Bv, C, S, T, rfl, hb, hop⟩ := HS.out k hlk
          have hop2 := hop.fr hL.fr hb (by show ¬ (B ≤ b ∧ b < B + 8); omega)
          obtain ⟨o0, o1, o2, o3, o4, o5, hbd⟩ := hop2
          clear hop
          have hlt := hL.lt
          have hLa : Law wr (wr.alloc (.cells #[.int .i64 kd, .int .i64 A, .int .i64 Bv, .int .i64 C, .string S, .string T] 42)) B R (2 * k + 1) := hL.rebase.fr0 ((Fr.refl S0 wr).alloc _)
          have hLr := hLa.rebase
          have HF0 := Bx.mk (hL.fr.trans hLa.fr)
          have hcell : (wr.alloc (.cells #[.int .i64 kd, .int .i64 A, .int .i64 Bv, .int .i64 C, .string S, .string T] 42)).cell? ⟨wr.heap.size, 0, none⟩ = some (.int .i64 kd) := by simp
          have HC := Bx.mk hcell
          clear hLa hL hcell
          have hMk : 2 * k + 1 ≤ 1152921504606846976 := by omega
          have HP := Bx.mk (play_any B R (2 * k + 1) kd A Bv C S T _ hLr hMk hbd)
          have hnb : ¬ (B ≤ wr.heap.size ∧ wr.heap.size < B + 8) := by omega
          clear hMk hLr
          go_wp2_with fail
          refine HP.out.mono ?_
          rintro e w1 ⟨rfl, R1, h1⟩
          have hc1 := (h1.fr.cell (a := ⟨wr.heap.size, 0, none⟩) (by simp) hnb).trans HC.out
          have h1 := Law.chain HF0.out h1
          by_cases hk1 : kd = 1
          · have hk1b : (kd == 1) = true := by simp [hk1]
            clear hk1
            go_wp2_with (first | (go_at_call 11; refine (keeps_law _ _ _ _ h1).mono ?_; rintro e w2 ⟨rfl, h2⟩))
            go_roundw
            case rel => exact ⟨k + 1, by omega, by go_num, _, h2.up (by omega)⟩
            case measure => simp [intOf]; omega
          · have hk1b : (kd == 1) = false := by simpa using hk1
            clear hk1
            go_wp2
            go_roundw
            case rel => exact ⟨k + 1, by omega, by go_num, _, h1.up (by omega)⟩
            case measure => simp [intOf]; omega
        · have hmkd : decide ((k : Int) < 4398046511104) = false := by simp; omega
          have hge : decide ((len : Int) < 4398046511104) = false := by simp; omega
          clear hmk
          go_wp2
          go_ret2
          exact ⟨_, rfl, hL.fr.mono0 hB⟩
      · have hlkd : decide ((k : Int) < (len : Int)) = false := by simp; omega
        by_cases hge : len < 4398046511104
        · have hged : decide ((len : Int) < 4398046511104) = true := by simp; omega
          clear hge
          go_wp2
          go_ret2
          exact ⟨_, rfl, hL.fr.mono0 hB⟩
        · have hged : decide ((len : Int) < 4398046511104) = false := by simp; omega
          clear hge
          go_wp2
          go_ret2
          exact ⟨_, rfl, hL.fr.mono0 hB⟩
/-- A script as the law reads it. -/
def Script (w : World) (ad : Option Addr) (len : Nat) : Prop := ∀ i, i < len → ∃ b off kd A Bv C S T, ad = some ⟨b, off, none⟩ ∧ b < w.heap.size ∧ OpAt w b (off + i * 6) kd A Bv C S T
set_option maxHeartbeats 400000 in
theorem refines_any (ad : Option Addr) (len cap : Nat) (w : World) (hlen : len ≤ 140737488355328) (hs : Script w ad len) :
    Calls Try.prog 3 #[.slice ad len cap] w fun e w' => e = .returned (.bool true) ∧ Fr S0 w w' := by
  have H5 : Calls Try.prog 5 #[.slice ad len cap] w fun e w' => e = .returned (.int .i64 (-1)) ∧ Fr S0 w w' := by
    have HW := Bx.mk (walk_any false ad len cap w hlen hs)
    clear hs
    go_enter Try.func5, Try.ntmps5
    go_wp2_with (go_at_call 7; refine HW.out.mono ?_; rintro e w1 ⟨v, rfl, hf⟩)
    go_ret
    exact ⟨rfl, hf⟩
  have HW := Bx.mk H5
  clear hs H5
  go_enter Try.func3, Try.ntmps3
  go_wp2_with (go_at_call 5; refine HW.out.mono ?_; rintro e w1 ⟨rfl, hf⟩)
  go_ret
  exact ⟨rfl, hf⟩
set_option maxHeartbeats 400000 in
theorem refinesQuiet_any (ad : Option Addr) (len cap : Nat) (w : World) (hlen : len ≤ 140737488355328) (hs : Script w ad len) :
    Calls Try.prog 4 #[.slice ad len cap] w fun e w' => e = .returned (.bool true) ∧ Fr S0 w w' := by
  have H5 : Calls Try.prog 6 #[.slice ad len cap] w fun e w' => e = .returned (.int .i64 (-1)) ∧ Fr S0 w w' := by
    have HW := Bx.mk (walk_any true ad len cap w hlen hs)
    clear hs
    go_enter Try.func6, Try.ntmps6
    go_wp2_with (go_at_call 7; refine HW.out.mono ?_; rintro e w1 ⟨v, rfl, hf⟩)
    go_ret
    exact ⟨rfl, hf⟩
  have HW := Bx.mk H5
  clear hs H5
  go_enter Try.func4, Try.ntmps4
  go_wp2_with (go_at_call 6; refine HW.out.mono ?_; rintro e w1 ⟨rfl, hf⟩)
  go_ret
  exact ⟨rfl, hf⟩
end Go.Proofs.Qxb6500330a
