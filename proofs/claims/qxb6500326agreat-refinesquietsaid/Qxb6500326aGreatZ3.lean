import Derived.Test.Qxb6500326aGreatZ2
import Derived.Test.Qxb6500326aGreatV1
namespace Go.Proofs.Qxb6500326aGreat
set_option linter.unusedVariables false
set_option linter.unusedSimpArgs false
open Go.RowKit Go.PlainAid
theorem lst_true : lst ⟨#[84, 82, 85, 69]⟩ = wTrue := by rfl
theorem lst_false : lst ⟨#[70, 65, 76, 83, 69]⟩ = wFalse := by rfl
theorem lst_bad : lst ⟨#[35, 35]⟩ = [35, 35] := by rfl
/-- What leaf wants of its node. -/
structure LeafX (x : Nd) : Prop where
  num : x.kind = 1 → 0 ≤ x.n ∧ x.n ≤ 999999999
  r1 : x.kind = 3 ∨ x.kind = 4 → 0 ≤ x.r1.col ∧ x.r1.col ≤ 25 ∧ 0 ≤ x.r1.row ∧ x.r1.row ≤ 98
  r2 : x.kind = 4 → 0 ≤ x.r2.col ∧ x.r2.col ≤ 25 ∧ 0 ≤ x.r2.row ∧ x.r2.row ≤ 98
  kd : 1 ≤ x.kind ∧ x.kind ≤ 5
theorem refTxt_lenX {r : Ref} (h0 : 0 ≤ r.row) (h1 : r.row ≤ 98) : (refTxt r).length ≤ 5 := by
  have hlen : (dec (r.row + 1)).length ≤ 2 := by
    unfold dec
    rw [show (20 : Nat) = 18 + 1 + 1 from rfl, decF_succ]
    split
    · simp
    · rw [decF_succ, if_pos (by omega)]; simp
  unfold refTxt
  simp only [List.length_append, List.length_cons]
  split <;> split <;> simp <;> omega
abbrev ndB (x : Nd) : Obj := .cells #[I x.kind, I x.op, I x.a, I x.b, I x.n, I x.r1.col, I x.r1.row, .bool x.r1.absC, .bool x.r1.absR, I x.r2.col, I x.r2.row, .bool x.r2.absC, .bool x.r2.absR] 149
theorem nd_new (w : World) (x : Nd) : Row (w.alloc (ndB x)) w.heap.size 13 (ndC x) := Row.new _ _ _ _ _ rfl (by
  intro k hk
  have : k = 0 ∨ k = 1 ∨ k = 2 ∨ k = 3 ∨ k = 4 ∨ k = 5 ∨ k = 6 ∨ k = 7 ∨ k = 8 ∨ k = 9 ∨ k = 10 ∨ k = 11 ∨ k = 12 := by omega
  rcases this with e | e | e | e | e | e | e | e | e | e | e | e | e <;> subst e <;> rfl)
set_option maxRecDepth 100000 in
set_option maxHeartbeats 4000000 in
theorem leafX (B : FB) (N : Notes) (T : List Int) (x : Nd) (w : World) (h : FP w B N T) (hx : LeafX x) (hT : T.length + 20 ≤ 288) :
    Calls Tryz.prog 205 #[pt B.f, ndV x] w (Puts w B N (leafTxt x ++ T)) := by
  have hA := Bx.mk (h.alloc (ndB x))
  have hnb := Bx.mk (h.lts (Nat.le_refl w.heap.size))
  have hRw := Bx.mk (nd_new w x)
  have hkd := hx.kd
  have hk5 : x.kind = 1 ∨ x.kind = 2 ∨ x.kind = 3 ∨ x.kind = 4 ∨ x.kind = 5 := by omega
  clear h
  rcases hk5 with hk | hk | hk | hk | hk
  · obtain ⟨n0, n1⟩ := hx.num hk
    obtain ⟨v, hv⟩ : ∃ v : Nat, x.n = v := ⟨x.n.toNat, by omega⟩
    have hp : Bx (Calls Tryz.prog 224 #[pt B.f, I x.n] (w.alloc (ndB x)) (Puts (w.alloc (ndB x)) B N (dec x.n ++ T))) := Bx.mk (by rw [hv]; exact putNumX B N T v _ hA.out (by omega) (by omega))
    have hr : Bx (leafTxt x = dec x.n) := Bx.mk (by unfold leafTxt; rw [if_pos hk])
    have e1 : (x.kind == 1) = true := by simpa using hk
    clear hk hv hkd hx
    go_enter Tryz.func205, Tryz.ntmps205
    go_wp2_with (first | (go_at_call 224; refine hp.out.mono ?_; clear hp; rintro e w1 ⟨rfl, hP1, hf1⟩; have hP1 := Bx.mk hP1))
    go_end0
    rw [hr.out]
    exact ⟨rfl, hP1.out, ((Fr.refl _ _).alloc _).trans hf1⟩
  · have e1 : (x.kind == 1) = false := by simp [hk]
    have e2 : (x.kind == 2) = true := by simp [hk]
    by_cases hn : x.n = 1
    · have en : (x.n == 1) = true := by simpa using hn
      have hp : Bx (Calls Tryz.prog 225 #[pt B.f, .string ⟨#[84, 82, 85, 69]⟩] (w.alloc (ndB x)) (Puts (w.alloc (ndB x)) B N (wTrue ++ T))) := Bx.mk (by
        have := putsX B N T ⟨#[84, 82, 85, 69]⟩ _ hA.out (by rw [lst_true]; show 4 + T.length ≤ 288; omega) (by decide)
        rw [lst_true] at this; exact this)
      have hr : Bx (leafTxt x = wTrue) := Bx.mk (by unfold leafTxt; rw [if_neg (by omega), if_pos hk, if_pos hn])
      clear hk hn hkd hx
      go_enter Tryz.func205, Tryz.ntmps205
      go_wp2_with (first | (go_at_call 225; refine hp.out.mono ?_; clear hp; rintro e w1 ⟨rfl, hP1, hf1⟩; have hP1 := Bx.mk hP1))
      go_end0
      rw [hr.out]
      exact ⟨rfl, hP1.out, ((Fr.refl _ _).alloc _).trans hf1⟩
    · have en : (x.n == 1) = false := by simpa using hn
      have hp : Bx (Calls Tryz.prog 225 #[pt B.f, .string ⟨#[70, 65, 76, 83, 69]⟩] (w.alloc (ndB x)) (Puts (w.alloc (ndB x)) B N (wFalse ++ T))) := Bx.mk (by
        have := putsX B N T ⟨#[70, 65, 76, 83, 69]⟩ _ hA.out (by rw [lst_false]; show 5 + T.length ≤ 288; omega) (by decide)
        rw [lst_false] at this; exact this)
      have hr : Bx (leafTxt x = wFalse) := Bx.mk (by unfold leafTxt; rw [if_neg (by omega), if_pos hk, if_neg hn])
      clear hk hn hkd hx
      go_enter Tryz.func205, Tryz.ntmps205
      go_wp2_with (first | (go_at_call 225; refine hp.out.mono ?_; clear hp; rintro e w1 ⟨rfl, hP1, hf1⟩; have hP1 := Bx.mk hP1))
      go_end0
      rw [hr.out]
      exact ⟨rfl, hP1.out, ((Fr.refl _ _).alloc _).trans hf1⟩
  · have e1 : (x.kind == 1) = false := by simp [hk]
    have e2 : (x.kind == 2) = false := by simp [hk]
    have e3 : (x.kind == 3) = true := by simp [hk]
    obtain ⟨a1, a2, a3, a4⟩ := hx.r1 (.inl hk)
    have hp := Bx.mk (putRefX B N T x.r1 _ hA.out a1 a2 a3 a4 (by omega))
    have hr : Bx (leafTxt x = refTxt x.r1) := Bx.mk (by unfold leafTxt; rw [if_neg (by omega), if_neg (by omega), if_pos hk])
    clear hk hkd hx
    go_enter Tryz.func205, Tryz.ntmps205
    go_wp2_with (first | (go_at_call 226; refine hp.out.mono ?_; clear hp; rintro e w1 ⟨rfl, hP1, hf1⟩; have hP1 := Bx.mk hP1))
    go_end0
    rw [hr.out]
    exact ⟨rfl, hP1.out, ((Fr.refl _ _).alloc _).trans hf1⟩
  · have e1 : (x.kind == 1) = false := by simp [hk]
    have e2 : (x.kind == 2) = false := by simp [hk]
    have e3 : (x.kind == 3) = false := by simp [hk]
    have e4 : (x.kind == 4) = true := by simp [hk]
    obtain ⟨a1, a2, a3, a4⟩ := hx.r1 (.inr hk)
    obtain ⟨b1, b2, b3, b4⟩ := hx.r2 hk
    have l2 := refTxt_lenX b3 b4
    have hp := Bx.mk (putRefX B N T x.r2 _ hA.out b1 b2 b3 b4 (by omega))
    have hp2 := Bx.mk (fun wx hx => putX B N (refTxt x.r2 ++ T) 58 wx hx (by decide) (by simp; omega))
    have hp3 := Bx.mk (fun wx hx => putRefX B N (58 :: (refTxt x.r2 ++ T)) x.r1 wx hx a1 a2 a3 a4 (by simp; omega))
    have hr : Bx (leafTxt x ++ T = refTxt x.r1 ++ 58 :: (refTxt x.r2 ++ T)) := Bx.mk (by unfold leafTxt; rw [if_neg (by omega), if_neg (by omega), if_neg (by omega), if_pos hk]; simp)
    generalize refTxt x.r2 ++ T = U at *
    clear hk hkd hx l2
    rw [hr.out]
    go_enter Tryz.func205, Tryz.ntmps205
    go_wp2_with (first
      | (go_at_call 226; refine hp.out.mono ?_; clear hp; rintro e w1 ⟨rfl, hP1, hf1⟩; have hR1 := Bx.mk (hf1.row hRw.out hnb.out); have hP1 := Bx.mk hP1)
      | (go_at_call 203; refine (hp2.out _ hP1.out).mono ?_; clear hp2; rintro e w2 ⟨rfl, hP2, hf2⟩; have hR2 := Bx.mk (hf2.row hR1.out hnb.out); have hP2 := Bx.mk hP2; have q5 := hR2.out.cell 5 (by omega); have q6 := hR2.out.cell 6 (by omega); have q7 := hR2.out.cell 7 (by omega); have q8 := hR2.out.cell 8 (by omega); simp only [ndC] at q5 q6 q7 q8)
      | (go_at_call 226; refine (hp3.out _ hP2.out).mono ?_; clear hp3; rintro e w3 ⟨rfl, hP3, hf3⟩; have hP3 := Bx.mk hP3))
    go_end0
    exact ⟨rfl, hP3.out, ((((Fr.refl _ _).alloc _).trans hf1).trans hf2).trans hf3⟩
  · have e1 : (x.kind == 1) = false := by simp [hk]
    have e2 : (x.kind == 2) = false := by simp [hk]
    have e3 : (x.kind == 3) = false := by simp [hk]
    have e4 : (x.kind == 4) = false := by simp [hk]
    have hp : Bx (Calls Tryz.prog 225 #[pt B.f, .string ⟨#[35, 35]⟩] (w.alloc (ndB x)) (Puts (w.alloc (ndB x)) B N ([35, 35] ++ T))) := Bx.mk (by
      have := putsX B N T ⟨#[35, 35]⟩ _ hA.out (by rw [lst_bad]; show 2 + T.length ≤ 288; omega) (by decide)
      rw [lst_bad] at this; exact this)
    have hr : Bx (leafTxt x = [35, 35]) := Bx.mk (by unfold leafTxt; rw [if_neg (by omega), if_neg (by omega), if_neg (by omega), if_neg (by omega), if_pos hk])
    clear hk hkd hx
    go_enter Tryz.func205, Tryz.ntmps205
    go_wp2_with (first | (go_at_call 225; refine hp.out.mono ?_; clear hp; rintro e w1 ⟨rfl, hP1, hf1⟩; have hP1 := Bx.mk hP1))
    go_end0
    rw [hr.out]
    exact ⟨rfl, hP1.out, ((Fr.refl _ _).alloc _).trans hf1⟩
end Go.Proofs.Qxb6500326aGreat
