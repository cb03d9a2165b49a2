import Derived.Test.Qxb6500326aGreatX5
import Derived.Test.Qxb6500326aGreatQ5
import Derived.Test.Qxb6500326aGreatU3
namespace Go.Proofs.Qxb6500326aGreat
set_option linter.unusedVariables false
set_option linter.unusedSimpArgs false
open Go.RowKit Go.PlainAid
/-- The former while it prints: T stands at the buffer's end, N are its notes. -/
def FP (w : World) (B : FB) (N : Notes) (T : List Int) : Prop := ∃ F, FM w B F ∧ F.wp + T.length = 288 ∧ (∀ j x, T[j]? = some x → F.out (F.wp + j) = x) ∧ (∀ j, N j = (F.nup j, F.nbrk j)) ∧ F.nt = 0 ∧ F.nn = 0 ∧ F.nv = 0 ∧ F.no = 0
abbrev Puts (w : World) (B : FB) (N : Notes) (T : List Int) : Ending → World → Prop := fun e w' => e = .returned (.tuple #[]) ∧ FP w' B N T ∧ Fr (FmS B) w w'
theorem FP.fr0 {w w' : World} {B : FB} {N : Notes} {T : List Int} (h : FP w B N T) (f : Fr S0 w w') : FP w' B N T := by
  obtain ⟨F, h1, h2⟩ := h; exact ⟨F, h1.fr0 f, h2⟩
theorem FP.alloc {w : World} {B : FB} {N : Notes} {T : List Int} (h : FP w B N T) (o : Obj) : FP (w.alloc o) B N T := h.fr0 ((Fr.refl _ _).alloc o)
theorem FP.lts {w : World} {B : FB} {N : Notes} {T : List Int} (h : FP w B N T) {j : Nat} (hj : w.heap.size ≤ j) : ¬ FmS B j := by
  obtain ⟨F, hF, -⟩ := h
  obtain ⟨l1, l2, l3, l4, l5, l6, l7⟩ := hF.lts
  rintro (e | e | e | e | e | e | e) <;> omega
set_option maxRecDepth 100000 in
set_option maxHeartbeats 1000000 in
theorem putX (B : FB) (N : Notes) (T : List Int) (c : Int) (w : World) (h : FP w B N T) (hc : 0 ≤ c ∧ c ≤ 255) (hT : T.length < 288) :
    Calls Tryz.prog 203 #[pt B.f, Y c] w (Puts w B N (c :: T)) := by
  obtain ⟨F, hF, hl, ho, hN, n1, n2, n3, n4⟩ := h
  obtain ⟨q, hq⟩ : ∃ q, F.wp = q + 1 := ⟨F.wp - 1, by omega⟩
  have hq2 : (q : Int) < 288 := by omega
  have c16 := hF.row.cell 16 (by omega)
  have z16 := hF.row.frozen 16
  simp only [fmC] at c16
  rw [hq] at c16
  have h1 := hF.set (F' := { F with wp := q }) 16 (I q) (by intro i hi; rcases i with _ | _ | _ | _ | _ | _ | _ | _ | _ | _ | _ | _ | _ | _ | _ | _ | _ | i <;> first | rfl | omega) rfl rfl rfl rfl rfl rfl rfl
  have d15 := h1.row.cell 15 (by omega)
  have d16 := h1.row.cell 16 (by omega)
  have cu := h1.out.cell q (by omega)
  have zu := h1.out.frozen q
  simp only [fmC] at d15 d16
  have h2 := Bx.mk ((h1.setOut q c).drew)
  have hP : Bx (FP (((w.setCell ⟨B.f, 16, none⟩ (I q)).setCell ⟨B.u, q, none⟩ (Y c)).drew) B N (c :: T)) := Bx.mk ⟨_, h2.out, by show q + (T.length + 1) = 288; omega, by
    intro j x hx
    cases j with
    | zero => show upd F.out q c (q + 0) = x; rw [Nat.add_zero, upd_same]; simpa using hx
    | succ j =>
      show upd F.out q c (q + (j + 1)) = x
      rw [upd_other _ _ (by omega), ← ho j x (by simpa using hx), hq]
      congr 1; omega, hN, n1, n2, n3, n4⟩
  obtain ⟨hc1, hc2⟩ := hc
  have fu := hF.ok.fu
  clear hF h1 hl ho hN n1 n2 n3 n4 hq hT h2
  go_enter Tryz.func203, Tryz.ntmps203
  go_wp2_with fail
  go_region
  go_wp2
  go_end0
  exact ⟨rfl, hP.out, (((Fr.refl _ _).fm 16 _).fmU q _).drew⟩
set_option maxRecDepth 100000 in
set_option maxHeartbeats 1000000 in
theorem putsX (B : FB) (N : Notes) (T : List Int) (s : ByteArray) (w : World) (h : FP w B N T) (hT : (lst s).length + T.length ≤ 288) (hs : s.size ≤ 40) :
    Calls Tryz.prog 225 #[pt B.f, .string s] w (Puts w B N (lst s ++ T)) := by
  have hb := get_bt s
  have hll : (lst s).length = s.size := lst_len s
  have hB := Bx.mk h
  have hz : Bx (∀ k, k < s.size → (lst s).drop k = bt s k :: (lst s).drop (k + 1)) := Bx.mk (fun k hk => by
    have := bt_lst s k hk
    obtain ⟨h1, h2⟩ := List.getElem?_eq_some_iff.1 this
    rw [List.drop_eq_getElem_cons h1, h2])
  clear h
  go_enter Tryz.func225, Tryz.ntmps225
  go_wp2_with fail
  go_loopw [4] (fun ii wr => ∃ k : Nat, k ≤ s.size ∧ ii = I ((k : Int) - 1) ∧ FP wr B N ((lst s).drop k ++ T) ∧ Fr (FmS B) w wr) (fun ii _ => ((intOf ii) + 1).toNat)
  case atStart => exact ⟨s.size, Nat.le_refl _, rfl, by rw [← hll, List.drop_length]; exact hB.out, Fr.refl _ _⟩
  case round =>
    obtain ⟨k, hk, rfl, hP, hfr⟩ := hrel
    cases k with
    | zero =>
      have hd : decide ((0 : Int) ≤ ((0 : Nat) : Int) - 1) = false := by decide
      have hPB := Bx.mk hP
      clear hP
      go_wp2_with fail
      go_end0
      exact ⟨rfl, hPB.out, hfr⟩
    | succ k =>
      have hd : decide ((0 : Int) ≤ (k : Int)) = true := decide_eq_true (by omega)
      have hlt : k < s.size := by omega
      have hput := Bx.mk (putX B N ((lst s).drop (k + 1) ++ T) (bt s k) wr hP ⟨bt_nonneg s k, bt_le s k⟩ (by simp; omega))
      have hdr := Bx.mk (hz.out k hlt)
      have hkk : ((k + 1 : Nat) : Int) - 1 = (k : Int) := by omega
      rw [hkk]
      clear hP hkk
      go_wp2_with (first | (go_at_call 203; refine hput.out.mono ?_; clear hput; rintro e w1 ⟨rfl, hP1, hf1⟩; have hP1 := Bx.mk hP1))
      go_roundw
      case rel => exact ⟨k, by omega, by go_num, by rw [hdr.out]; exact hP1.out, hfr.trans hf1⟩
      case measure => simp [intOf]
end Go.Proofs.Qxb6500326aGreat
