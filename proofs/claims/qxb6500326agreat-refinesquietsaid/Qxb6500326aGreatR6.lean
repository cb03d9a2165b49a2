import Derived.Test.Qxb6500326aGreatR4
import Derived.Test.Qxb6500326aGreatR5
namespace Go.Proofs.Qxb6500326aGreat
set_option maxRecDepth 100000
set_option linter.unusedVariables false
set_option linter.unusedSimpArgs false
open Go.RowKit Go.PlainAid

theorem takeV (V : VB) (fb : Nat) (E : Evr) (n k : Nat) (t : Tl) (f : Int) (v : Vl) (r : Bool) (w : World) (h : EM w V fb E) (hd : E.deep = n + 1) (hn : n < 24) (hft : E.fol n = t) (hk : k ≤ 700) (htb : TB k t) (lv : Lw v) (hf1 : 1 ≤ f) (hf2 : tallies f = true) :
    Calls Tryz.prog 240 #[pt V.e, I f, vV v, .bool r] w (Lv w V fb (.tuple #[]) { E with fol := upd E.fol n (takeT f t v r) }) := by
  cases c1 : (t.bad.kind == 4)
  · cases c2 : (v.kind == 4)
    · cases c3 : (f == 6 || f == 7)
      · cases c4 : (v.kind == 0)
        · cases c5 : (v.kind == 1)
          · cases r
            · exact takeV_err V fb E n k t f v false w h hd hn hft hk htb lv hf1 hf2 c1 c2 (.inr ⟨c3, c4, c5, rfl⟩)
            · exact takeV_ret V fb E n k t f v true w h hd hn hft hk htb lv hf1 hf2 (by unfold takeT; rw [c1, c2, c3, c4, c5]; rfl) (.inr ⟨c1, c2, .inr (.inr ⟨c3, c4, c5, rfl⟩)⟩)
          · exact takeV_int V fb E n k t f v r w h hd hn hft hk htb lv hf1 hf2 c1 c2 c3 c4 c5
        · exact takeV_ret V fb E n k t f v r w h hd hn hft hk htb lv hf1 hf2 (by unfold takeT; rw [c1, c2, c3, c4]; rfl) (.inr ⟨c1, c2, .inr (.inl ⟨c3, c4⟩)⟩)
      · cases c4 : (v.kind == 3)
        · exact takeV_err V fb E n k t f v r w h hd hn hft hk htb lv hf1 hf2 c1 c2 (.inl ⟨c3, c4⟩)
        · cases c5 : ((v.n == 1) == (f == 7))
          · exact takeV_ret V fb E n k t f v r w h hd hn hft hk htb lv hf1 hf2 (by unfold takeT; rw [c1, c2, c3, c4, c5]; rfl) (.inr ⟨c1, c2, .inl ⟨c3, c4, c5⟩⟩)
          · exact takeV_acc V fb E n k t f v r w h hd hn hft hk htb lv hf1 hf2 c1 c2 c3 c4 c5
    · exact takeV_bad V fb E n k t f v r w h hd hn hft hk htb lv hf1 hf2 c1 c2
  · exact takeV_ret V fb E n k t f v r w h hd hn hft hk htb lv hf1 hf2 (by unfold takeT; rw [c1]; rfl) (.inl c1)
theorem TB.take {k : Nat} {t : Tl} (h : TB k t) (f : Int) {v : Vl} (hv : Lw v) (r : Bool) : TB (k + 1) (takeT f t v r) := by
  have h' : TB (k + 1) t := ⟨h.bad, by have := h.a1; omega, by have := h.a2; omega, h.c0, by have := h.c1; omega⟩
  obtain ⟨b0, b1, b2, b3, b4⟩ := h
  unfold takeT
  split
  · exact h'
  split
  · exact { h' with bad := hv }
  split
  · split
    · split
      · exact { h' with a1 := by show _ ≤ (1 : Int); omega, a2 := by show (1 : Int) ≤ _; omega }
      · exact h'
    · exact { h' with bad := lw_err5 }
  split
  · exact h'
  split
  · rename_i c5
    have hb : -999999999 ≤ v.n ∧ v.n ≤ 999999999 := by cases hv <;> simp at c5 <;> constructor <;> assumption
    obtain ⟨e1, e2⟩ := hb
    repeat' split
    all_goals refine ⟨b0, ?_, ?_, ?_, ?_⟩
    all_goals simp only []
    all_goals first | omega | (split <;> omega)
  split
  · exact h'
  · exact { h' with bad := lw_err5 }
attribute [local go_sem] bv_bit
set_option maxHeartbeats 4000000 in
theorem sweepV (V : VB) (fb : Nat) (E : Evr) (n k : Nat) (t : Tl) (f : Int) (set : BitVec 32) (eb ec : Nat) (env : Nat → Vl) (w : World) (h : EM w V fb E) (hd : E.deep = n + 1) (hn : n < 24) (hft : E.fol n = t) (hk : k ≤ 600) (htb : TB k t) (he : LwE env) (hG : Grid w eb 24 3 (fun c => vC (env c))) (heb : ¬ VS V eb) (hf1 : 1 ≤ f) (hf2 : tallies f = true) :
    Calls Tryz.prog 241 #[pt V.e, I f, U set, sl eb 24 ec] w (Lv w V fb (.tuple #[]) { E with fol := upd E.fol n (sweepT f set env 0 24 t) }) := by
  have hE := Bx.mk h
  have hG := Bx.mk hG
  have he := Bx.mk he
  have htb := Bx.mk htb
  have hft := Bx.mk hft
  have hd := Bx.mk hd
  have hf2 := Bx.mk hf2
  have heb := Bx.mk heb
  clear h
  go_enter Tryz.func241, Tryz.ntmps241
  go_wp2_with fail
  go_loopw [8] (fun c wr => ∃ (j : Nat) (s : Tl), j ≤ 24 ∧ c = I (j : Int) ∧ Bx (EM wr V fb { E with fol := upd E.fol n s }) ∧ Bx (Fr (VS V) w wr) ∧ Bx (TB (k + j) s) ∧ Bx (sweepT f set env j (24 - j) s = sweepT f set env 0 24 t)) (fun c _ => 24 - (intOf c).toNat)
  case atStart => exact ⟨0, t, by omega, rfl, ⟨by rw [upd_id hft.out]; exact hE.out⟩, ⟨Fr.refl _ _⟩, htb, ⟨rfl⟩⟩
  case round =>
    obtain ⟨j, s, hj, rfl, hA, hF, hT, hS⟩ := hrel
    cases hlt : decide ((j : Int) < 24)
    · have hj24 : Bx (j = 24) := ⟨by simp at hlt; omega⟩
      go_wp2
      go_end0
      exact ⟨rfl, by rw [← hS.out, hj24.out]; exact hA.out, hF.out⟩
    · have hj24 : j < 24 := by simp at hlt; omega
      cases hb : set.getLsbD j
      · go_wp2
        go_roundw
        case rel => exact ⟨j + 1, s, by omega, rfl, hA, hF, ⟨⟨hT.out.bad, by have := hT.out.a1; omega, by have := hT.out.a2; omega, hT.out.c0, by have := hT.out.c1; omega⟩⟩, ⟨by rw [← hS.out, show 24 - j = (24 - (j + 1)) + 1 from by omega]; simp [sweepT, hb]⟩⟩
        case measure => simp [intOf]; omega
      · have hG1 := hG.out.of hF.out heb.out
        have g0 := hG1.cell0 j hj24 (by omega)
        have g1 := hG1.cell j 1 hj24 (by omega)
        have g2 := hG1.cell j 2 hj24 (by omega)
        simp only [vC] at g0 g1 g2
        clear hG1
        have hC : Bx (Calls Tryz.prog 240 #[pt V.e, I f, vV (env j), .bool true] wr (Lv wr V fb (.tuple #[]) { E with fol := upd (upd E.fol n s) n (takeT f s (env j) true) })) := ⟨takeV V fb { E with fol := upd E.fol n s } n (k + j) s f (env j) true wr hA.out hd.out hn (upd_same _ _ _) (by omega) hT.out (he.out j hj24) hf1 hf2.out⟩
        have hT' := Bx.mk (hT.out.take f (he.out j hj24) true)
        have hS' : Bx (sweepT f set env (j + 1) (24 - (j + 1)) (takeT f s (env j) true) = sweepT f set env 0 24 t) := ⟨by rw [← hS.out, show 24 - j = (24 - (j + 1)) + 1 from by omega]; simp [sweepT, hb]⟩
        generalize takeT f s (env j) true = s' at hC hT' hS'
        rw [upd_upd] at hC
        clear hA hT hS
        go_wp2_with (first | (go_at_call 240; refine hC.out.mono ?_; clear hC; rintro e w1 ⟨rfl, hA, hF1⟩; have hA := Bx.mk hA; have hF := Bx.mk (hF.out.trans hF1)))
        go_roundw
        case rel => exact ⟨j + 1, s', by omega, rfl, hA, hF, hT', hS'⟩
        case measure => simp [intOf]; omega
end Go.Proofs.Qxb6500326aGreat
