import Derived.Test.Qxb6500330aD1
namespace Go.Proofs.Qxb6500330a
set_option linter.unusedVariables false
set_option linter.unusedSimpArgs false
open Go.RowKit
attribute [local go_sem] bv_and bv_or bv_andNot bv_and_all bv_andNot_all bv_all_andNot bv_eq_all bv_ne_all bv_pred bv_pred' bv_eq_zero bv_ne_zero bv_eq bv_ne bv_bit

set_option maxHeartbeats 400000 in
theorem sameInts_nil (oa ob : Option Addr) (ca cb : Nat) (w : World) :
    Calls Try.prog 48 #[.slice oa 0 ca, .slice ob 0 cb] w fun e w' => e = .returned (.bool true) ∧ Fr S0 w w' := by
  go_enter Try.func48, Try.ntmps48
  go_wp2
  go_loop [5] (fun j => j = .int .i64 0) (fun _ => 0)
  case atStart => exact rfl
  case round =>
    subst hrel
    go_wp2
    go_ret
    exact ⟨rfl, Fr.refl _ _⟩
set_option maxHeartbeats 400000 in
theorem sameInts_row (ga gb n ca cb : Nat) (f : Nat → Int) (w : World) (hn : n ≤ 1000) (ha : ga < w.heap.size) (hb : gb < w.heap.size) (h1 : ∀ i, i < n → w.cell? ⟨ga, i, none⟩ = some (I (f i))) (h2 : ∀ i, i < n → w.cell? ⟨gb, i, none⟩ = some (I (f i))) :
    Calls Try.prog 48 #[sl ga n ca, sl gb n cb] w fun e w' => e = .returned (.bool true) ∧ Fr S0 w w' := by
  have H1 := Bx.mk h1
  have H2 := Bx.mk h2
  clear h1 h2
  go_enter Try.func48, Try.ntmps48
  go_wp2
  go_loopw [5] (fun j wr => ∃ m : Nat, m ≤ n ∧ j = .int .i64 m ∧ Fr S0 w wr) (fun j _ => n - (intOf j).toNat)
  case atStart => exact ⟨0, by omega, rfl, Fr.refl _ _⟩
  case round =>
    obtain ⟨m, hm, rfl, hf⟩ := hrel
    by_cases hlm : m < n
    · have g1 : wr.cell? ⟨ga, m, none⟩ = some (I (f m)) := (hf.cell (a := ⟨ga, m, none⟩) ha (by simp)).trans (H1.out m hlm)
      have g2 : wr.cell? ⟨gb, m, none⟩ = some (I (f m)) := (hf.cell (a := ⟨gb, m, none⟩) hb (by simp)).trans (H2.out m hlm)
      have hi1 : (m : Int) < (n : Int) := by omega
      go_wp2_with fail
      go_quiet (fail)
      go_wp2
      go_roundw
      case rel => exact ⟨m + 1, by omega, by go_num, hf.drewN _⟩
      case measure => simp [intOf]; omega
    · go_wp2
      go_ret
      exact ⟨rfl, hf⟩
set_option maxRecDepth 100000 in
set_option maxHeartbeats 1000000 in
theorem keep_nil (d : Nat) (lid fl : Int) (n : Nat) (olds : Nat → Value) (w : World) (hd : DK w d lid fl n olds) (hn : n ≤ 1152921504606846976) :
    Calls Try.prog 49 #[pt d, .slice none 0 0] w fun e w' => e = .returned (.tuple #[]) ∧ DK w' d lid fl (n + 1) (upd olds (n % 8) (.slice none 0 0)) ∧ Fr (fun k => k = d) w w' := by
  have g := hd.n
  have fz := Row.frozen hd
  have f10 := fz 10
  have fo := fz (2 + n % 8)
  have hm8 : n % 8 < 8 := Nat.mod_lt _ (by omega)
  have go := hd.old (n % 8) hm8
  have hd2 := (hd.setOld (n % 8) hm8 (.slice none 0 0)).setN (n + 1)
  have hf2 : Fr (fun k => k = d) w ((w.setCell ⟨d, 2 + n % 8, none⟩ (.slice none 0 0)).setCell ⟨d, 10, none⟩ (I ((n + 1 : Nat) : Int))) := ((Fr.refl (fun k => k = d) w).setCell (p := ⟨d, 2 + n % 8, none⟩) (.inl rfl) _).setCell (p := ⟨d, 10, none⟩) (.inl rfl) _
  have ec : ((n + 1 : Nat) : Int) = (n : Int) + 1 := by omega
  rw [ec] at hd2 hf2
  have H2 := Bx.mk (And.intro hd2 hf2)
  clear ec
  have hne : ¬ (2 + n % 8 = 10) := by omega
  clear hd hd2 hf2 fz
  go_enter Try.func49, Try.ntmps49
  go_wp2
  go_loop [5] (fun j => j = .int .i64 0) (fun _ => 0)
  case atStart => exact rfl
  case round =>
    subst hrel
    go_wp2_with fail
    go_region
    all_goals go_wp2
    all_goals go_end0
    exact ⟨rfl, H2.out.1, H2.out.2.drew⟩
set_option maxRecDepth 100000 in
set_option maxHeartbeats 1000000 in
theorem keep_row (d g len : Nat) (lid fl : Int) (n : Nat) (olds : Nat → Value) (vs : Nat → Value) (w : World) (hd : DK w d lid fl n olds) (hn : n ≤ 1152921504606846976) (hg : Row w g len vs) (hdg : g ≠ d) (hlen : len ≤ 1000) :
    Calls Try.prog 49 #[pt d, sl g len len] w fun e w' => e = .returned (.tuple #[]) ∧ DK w' d lid fl (n + 1) (upd olds (n % 8) (sl g len len)) ∧ Row w' g len (fun _ => I (-1 - (n : Int))) ∧ Fr (fun k => k = d ∨ k = g) w w' := by
  go_enter Try.func49, Try.ntmps49
  go_wp2
  go_loopw [5] (fun j wr => ∃ m : Nat, m ≤ len ∧ j = .int .i64 m ∧ DK wr d lid fl n olds ∧ Row wr g len (fun i => if i < m then I (-1 - (n : Int)) else vs i) ∧ Fr (fun k => k = d ∨ k = g) w wr) (fun j _ => len - (intOf j).toNat)
  case atStart => exact ⟨0, by omega, rfl, hd, hg.congr (fun i _ => by simp), Fr.refl _ _⟩
  case round =>
    clear hd hg
    obtain ⟨m, hm, rfl, hd, hg, hf⟩ := hrel
    have gn := hd.n
    by_cases hlm : m < len
    · have gm := hg.cell m hlm
      have fm := hg.frozen m
      go_wp2
      go_roundw
      case rel =>
        refine ⟨m + 1, by omega, by go_num, Row.set_other hd (by simpa using hdg.symm) _, (hg.set m _).congr (fun i _ => ?_), hf.setCell (.inl (.inr rfl)) _⟩
        unfold upd
        by_cases e : i = m
        · subst e; simp
        · rw [if_neg e]
          simp only [show (i < m + 1) = (i < m) from by simp; omega]
      case measure => simp [intOf]; omega
    · have hg2 : Row wr g len (fun _ => I (-1 - (n : Int))) := hg.congr (fun i hi => by rw [if_pos (by omega)])
      have fz := Row.frozen hd
      have f10 := fz 10
      have fo := fz (2 + n % 8)
      have hm8 : n % 8 < 8 := Nat.mod_lt _ (by omega)
      have go := hd.old (n % 8) hm8
      have hd2 := (hd.setOld (n % 8) hm8 (sl g len len)).setN (n + 1)
      have hf2 : Fr (fun k => k = d ∨ k = g) w ((wr.setCell ⟨d, 2 + n % 8, none⟩ (sl g len len)).setCell ⟨d, 10, none⟩ (I ((n + 1 : Nat) : Int))) := (hf.setCell (p := ⟨d, 2 + n % 8, none⟩) (.inl (.inl rfl)) _).setCell (p := ⟨d, 10, none⟩) (.inl (.inl rfl)) _
      have hg3 : Row ((wr.setCell ⟨d, 2 + n % 8, none⟩ (sl g len len)).setCell ⟨d, 10, none⟩ (I ((n + 1 : Nat) : Int))) g len (fun _ => I (-1 - (n : Int))) := (hg2.set_other (by simpa using hdg) _).set_other (by simpa using hdg) _
      have ec : ((n + 1 : Nat) : Int) = (n : Int) + 1 := by omega
      rw [ec] at hd2 hf2 hg3
      have H2 := Bx.mk (And.intro hd2 (And.intro hg3 hf2))
      have hne : ¬ (2 + n % 8 = 10) := by omega
      clear ec hd hd2 hf2 fz hg hg2 hg3 hf
      go_wp2_with fail
      go_region
      all_goals go_wp2
      all_goals go_end0
      exact ⟨rfl, H2.out.1, H2.out.2.1, H2.out.2.2.drew⟩
set_option maxHeartbeats 400000 in
theorem thrift_any (b d : Nat) (x : XS) (lid fl : Int) (n : Nat) (olds : Nat → Value) (w : World) (hx : XG w b x) (hd : DK w d lid fl n olds) (h1 : fl ≤ x.touched) (h2 : x.touched ≤ lid) :
    Calls Try.prog 30 #[pt b, pt d] w fun e w' => e = .returned (.bool true) ∧ w = w' := by
  have g0 := hd.lid
  have g1 := hd.fl
  clear hd
  go_enter Try.func30, Try.ntmps30
  go_wp2_with (go_at_call 50; refine (xTouched_any _ _ _ hx).mono ?_; rintro e w' ⟨rfl, rfl⟩)
  go_ret
  exact ⟨rfl, rfl⟩
theorem neq_nil (w : World) : (binOp .neq 35 (.slice none 0 0) (.slice none 0 0)).run Try.prog w = .ok (.bool false) w := by
  have := run_neq_slice_nil_any (P := Try.prog) w 35 3 none 0 0 0 0 Try.underlying35
  simpa using this
end Go.Proofs.Qxb6500330a
