import Derived.Test.Qxb6500326aGreatR3
import Derived.Deep.RegionWith
namespace Go.Proofs.Qxb6500326aGreat
set_option maxRecDepth 100000
set_option linter.unusedVariables false
set_option linter.unusedSimpArgs false
open Go.RowKit Go.PlainAid

set_option maxHeartbeats 8000000 in
theorem takeV_int (V : VB) (fb : Nat) (E : Evr) (n k : Nat) (t : Tl) (f : Int) (v : Vl) (r : Bool) (w : World) (h : EM w V fb E) (hd : E.deep = n + 1) (hn : n < 24) (hft : E.fol n = t) (hk : k ≤ 700) (htb : TB k t) (lv : Lw v) (hf1 : 1 ≤ f) (hf2 : tallies f = true) (h1 : (t.bad.kind == 4) = false) (h2 : (v.kind == 4) = false) (h3 : (f == 6 || f == 7) = false) (h4 : (v.kind == 0) = false) (h5 : (v.kind == 1) = true) :
    Calls Tryz.prog 240 #[pt V.e, I f, vV v, .bool r] w (Lv w V fb (.tuple #[]) { E with fol := upd E.fol n (takeT f t v r) }) := by
  have hv1 : -999999999 ≤ v.n ∧ v.n ≤ 999999999 := by cases lv <;> simp at h5 <;> simp only [] <;> omega
  obtain ⟨n1, n2⟩ := hv1
  have b1 := htb.a1
  have b2 := htb.a2
  have b3 := htb.c0
  have b4 := htb.c1
  have b5 : -700000000000000 ≤ t.acc := by omega
  have b6 : t.acc ≤ 700000000000000 := by omega
  have b7 : t.cnt ≤ 700 := by omega
  obtain ⟨-, -, -, -, -, -, -, c7, c8⟩ := h.ev9
  rw [hd] at c8
  obtain ⟨l1, l2, l3, l4, l5⟩ := h.lts
  obtain ⟨t0, t1, t2, t3, t4⟩ := h.fol5 hn hft
  obtain ⟨z0, z1, z2, z3, z4⟩ := h.fol5z n
  have hw1 : IntKind.i64.wrap (((n + 1 : Nat) : Int) - 1) = (n : Int) := by simp [IntKind.wrap, IntKind.bits, IntKind.signed]; omega
  have h3' : (f == 6) = false ∧ (f == 7) = false := by simpa using h3
  obtain ⟨o6, o7⟩ := h3'
  have h5' : (v.kind != 1) = false := by simp [bne, h5]
  have hT : Bx (takeT f t v r = if (f == 1) = true then ⟨t.bad, t.acc + v.n, t.cnt + 1⟩ else if (f == 2) = true then ⟨t.bad, if (t.cnt == 0 || decide (v.n < t.acc)) = true then v.n else t.acc, t.cnt + 1⟩ else if (f == 3) = true then ⟨t.bad, if (t.cnt == 0 || decide (t.acc < v.n)) = true then v.n else t.acc, t.cnt + 1⟩ else ⟨t.bad, t.acc, t.cnt + 1⟩) := ⟨by unfold takeT; rw [h1, h2, h3, h4, h5]; rfl⟩
  have hE0 : Bx (∀ wx, EM wx V fb E → EM (wx.setCell ⟨V.t, n * 5 + 4, none⟩ (I (t.cnt + 1))) V fb { E with fol := upd E.fol n ⟨t.bad, t.acc, t.cnt + 1⟩ }) := ⟨fun wx h => h.setFol n 4 (by omega) (I (t.cnt + 1)) ⟨t.bad, t.acc, t.cnt + 1⟩ (by intro j hj; rw [hft]; rcases j with _ | _ | _ | _ | _ | j <;> first | rfl | omega)⟩
  have hE1 : Bx (∀ wx a, EM wx V fb E → EM ((wx.setCell ⟨V.t, n * 5 + 3, none⟩ (I a)).setCell ⟨V.t, n * 5 + 4, none⟩ (I (t.cnt + 1))) V fb { E with fol := upd E.fol n ⟨t.bad, a, t.cnt + 1⟩ }) := ⟨fun wx a h => by
    have hE := (h.setFol n 3 (by omega) (I a) ⟨t.bad, a, t.cnt⟩ (by intro j hj; rw [hft]; rcases j with _ | _ | _ | _ | _ | j <;> first | rfl | omega)).setFol n 4 (by omega) (I (t.cnt + 1)) ⟨t.bad, a, t.cnt + 1⟩ (by intro j hj; simp only [upd_same]; rcases j with _ | _ | _ | _ | _ | j <;> first | rfl | omega)
    simp only [upd_upd] at hE
    exact hE⟩
  have hf0 : Bx (∀ wx, Fr (VS V) w wx → Fr (VS V) w (wx.setCell ⟨V.t, n * 5 + 4, none⟩ (I (t.cnt + 1)))) := ⟨fun wx f => f.trans (fr_set wx VS.t _ _)⟩
  have hf1' : Bx (∀ wx a, Fr (VS V) w wx → Fr (VS V) w ((wx.setCell ⟨V.t, n * 5 + 3, none⟩ (I a)).setCell ⟨V.t, n * 5 + 4, none⟩ (I (t.cnt + 1)))) := ⟨fun wx a f => (f.trans (fr_set wx VS.t _ _)).trans (fr_set _ VS.t _ _)⟩
  have hE := Bx.mk h
  clear h b1 b2 b4 h3 hd hft htb lv hf1 hf2 hk
  generalize takeT f t v r = t' at hT ⊢
  cases g1 : (f == 1)
  · cases g2 : (f == 2)
    · cases g3 : (f == 3)
      · obtain rfl : t' = ⟨t.bad, t.acc, t.cnt + 1⟩ := by rw [hT.out, g1, g2, g3]; rfl
        clear hT
        go_enter Tryz.func240, Tryz.ntmps240
        go_wp2
        go_end0
        exact ⟨rfl, (hE0.out _ hE.out).alloc _, (hf0.out _ (Fr.refl _ _)).alloc _⟩
      · cases q0 : (t.cnt == 0)
        · cases q1 : decide (t.acc < v.n)
          · obtain rfl : t' = ⟨t.bad, t.acc, t.cnt + 1⟩ := by rw [hT.out, g1, g2, g3, q0, q1]; rfl
            clear hT
            go_enter Tryz.func240, Tryz.ntmps240
            go_wp2_with fail
            go_quiet (fail)
            go_wp2
            go_end0
            exact ⟨rfl, hE0.out _ ((hE.out.alloc _).drewN _), hf0.out _ (((Fr.refl _ _).alloc _).drewN _)⟩
          · obtain rfl : t' = ⟨t.bad, v.n, t.cnt + 1⟩ := by rw [hT.out, g1, g2, g3, q0, q1]; rfl
            clear hT
            go_enter Tryz.func240, Tryz.ntmps240
            go_wp2_with fail
            go_quiet (fail)
            go_wp2_with fail
            go_region
            go_wp2
            go_end0
            exact ⟨rfl, hE1.out _ _ ((hE.out.alloc _).drewN _), hf1'.out _ _ (((Fr.refl _ _).alloc _).drewN _)⟩
        · obtain rfl : t' = ⟨t.bad, v.n, t.cnt + 1⟩ := by rw [hT.out, g1, g2, g3, q0]; rfl
          clear hT
          go_enter Tryz.func240, Tryz.ntmps240
          go_wp2_with fail
          go_quiet (fail)
          go_wp2_with fail
          go_region
          go_wp2
          go_end0
          exact ⟨rfl, hE1.out _ _ ((hE.out.alloc _).drewN _), hf1'.out _ _ (((Fr.refl _ _).alloc _).drewN _)⟩
    · cases q0 : (t.cnt == 0)
      · cases q1 : decide (v.n < t.acc)
        · obtain rfl : t' = ⟨t.bad, t.acc, t.cnt + 1⟩ := by rw [hT.out, g1, g2, q0, q1]; rfl
          clear hT
          go_enter Tryz.func240, Tryz.ntmps240
          go_wp2_with fail
          go_quiet (fail)
          go_wp2
          go_end0
          exact ⟨rfl, hE0.out _ ((hE.out.alloc _).drewN _), hf0.out _ (((Fr.refl _ _).alloc _).drewN _)⟩
        · obtain rfl : t' = ⟨t.bad, v.n, t.cnt + 1⟩ := by rw [hT.out, g1, g2, q0, q1]; rfl
          clear hT
          go_enter Tryz.func240, Tryz.ntmps240
          go_wp2_with fail
          go_quiet (fail)
          go_wp2_with fail
          go_region
          go_wp2
          go_end0
          exact ⟨rfl, hE1.out _ _ ((hE.out.alloc _).drewN _), hf1'.out _ _ (((Fr.refl _ _).alloc _).drewN _)⟩
      · obtain rfl : t' = ⟨t.bad, v.n, t.cnt + 1⟩ := by rw [hT.out, g1, g2, q0]; rfl
        clear hT
        go_enter Tryz.func240, Tryz.ntmps240
        go_wp2_with fail
        go_quiet (fail)
        go_wp2_with fail
        go_region
        go_wp2
        go_end0
        exact ⟨rfl, hE1.out _ _ ((hE.out.alloc _).drewN _), hf1'.out _ _ (((Fr.refl _ _).alloc _).drewN _)⟩
  · obtain rfl : t' = ⟨t.bad, t.acc + v.n, t.cnt + 1⟩ := by rw [hT.out, g1]; rfl
    clear hT
    go_enter Tryz.func240, Tryz.ntmps240
    go_wp2_with fail
    go_region
    go_wp2
    go_end0
    first | exact ⟨rfl, ((hE1.out _ _ hE.out).alloc _).drew, ((hf1'.out _ _ (Fr.refl _ _)).alloc _).drew⟩ | trace_state
end Go.Proofs.Qxb6500326aGreat
