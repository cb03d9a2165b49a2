import Derived.Test.Qxb6500326aGreatR2
namespace Go.Proofs.Qxb6500326aGreat
set_option maxRecDepth 100000
set_option linter.unusedVariables false
set_option linter.unusedSimpArgs false
open Go.RowKit Go.PlainAid

theorem upd_id {α : Type} {f : Nat → α} {n : Nat} {x : α} (h : f n = x) : upd f n x = f := by
  funext i; unfold upd; split
  · next e => rw [e, h]
  · rfl
theorem upd_upd {α : Type} (f : Nat → α) (n : Nat) (x y : α) : upd (upd f n x) n y = upd f n y := by
  funext i; unfold upd; split <;> rfl
theorem EM.badFol {w : World} {V : VB} {fb : Nat} {E : Evr} (h : EM w V fb E) (i : Nat) (x : Vl) {t : Tl} (ht : E.fol i = t) : EM (sets w V.t (i * 5) (vA x).toList) V fb { E with fol := upd E.fol i { t with bad := x } } := by
  subst ht
  have h1 := h.setFol i 0 (by omega) (I x.kind) { E.fol i with bad := ⟨x.kind, (E.fol i).bad.n, (E.fol i).bad.s⟩ } (by intro j hj; rcases j with _ | _ | _ | _ | _ | j <;> first | rfl | omega)
  have h2 := h1.setFol i 1 (by omega) (I x.n) { E.fol i with bad := ⟨x.kind, x.n, (E.fol i).bad.s⟩ } (by intro j hj; simp only [upd_same]; rcases j with _ | _ | _ | _ | _ | j <;> first | rfl | omega)
  have h3 := h2.setFol i 2 (by omega) (.string x.s) { E.fol i with bad := x } (by intro j hj; simp only [upd_same]; rcases j with _ | _ | _ | _ | _ | j <;> first | rfl | omega)
  simp only [upd_upd] at h3
  exact h3
theorem fr_bad (w : World) (V : VB) (i : Nat) (x : Vl) : Fr (VS V) w (sets w V.t (i * 5) (vA x).toList) := fr_put w VS.t _ _
set_option maxHeartbeats 2000000 in
theorem takeV_ret (V : VB) (fb : Nat) (E : Evr) (n k : Nat) (t : Tl) (f : Int) (v : Vl) (r : Bool) (w : World) (h : EM w V fb E) (hd : E.deep = n + 1) (hn : n < 24) (hft : E.fol n = t) (hk : k ≤ 700) (htb : TB k t) (lv : Lw v) (hf1 : 1 ≤ f) (hf2 : tallies f = true) (hsame : takeT f t v r = t) (hw : (t.bad.kind == 4) = true ∨ ((t.bad.kind == 4) = false ∧ (v.kind == 4) = false ∧ (((f == 6 || f == 7) = true ∧ (v.kind == 3) = true ∧ ((v.n == 1) == (f == 7)) = false) ∨ ((f == 6 || f == 7) = false ∧ (v.kind == 0) = true) ∨ ((f == 6 || f == 7) = false ∧ (v.kind == 0) = false ∧ (v.kind == 1) = false ∧ r = true)))) :
    Calls Tryz.prog 240 #[pt V.e, I f, vV v, .bool r] w (Lv w V fb (.tuple #[]) { E with fol := upd E.fol n (takeT f t v r) }) := by
  have hU : Bx (E.fol = upd E.fol n (takeT f t v r)) := ⟨by rw [hsame, upd_id hft]⟩
  obtain ⟨-, -, -, -, -, -, -, c7, c8⟩ := h.ev9
  rw [hd] at c8
  obtain ⟨l1, l2, l3, l4, l5⟩ := h.lts
  obtain ⟨t0, t1, t2, t3, t4⟩ := h.fol5 hn hft
  obtain ⟨z0, z1, z2, z3, z4⟩ := h.fol5z n
  have hw1 : IntKind.i64.wrap (((n + 1 : Nat) : Int) - 1) = (n : Int) := by simp [IntKind.wrap, IntKind.bits, IntKind.signed]; omega
  have hE := Bx.mk h
  have hsame := Bx.mk hsame
  have hfin : Bx (∀ o, Lv w V fb (.tuple #[]) { E with fol := upd E.fol n (takeT f t v r) } (.returned (.tuple #[])) (w.alloc o)) := ⟨fun o => ⟨rfl, by rw [← hU.out]; exact hE.out.alloc o, (Fr.refl _ _).alloc _⟩⟩
  generalize takeT f t v r = t' at *
  clear h hU
  clear hd hft htb lv hf1 hf2 hk
  rcases hw with h1 | ⟨h1, h2, ⟨h3, h4, h5⟩ | ⟨h3, h4⟩ | ⟨h3, h4, h5, h6⟩⟩
  · go_enter Tryz.func240, Tryz.ntmps240
    go_wp2
    go_end0
    exact hfin.out _
  · have h4' : (v.kind != 3) = false := by simp [bne, h4]
    cases o7 : (f == 7) <;> cases o6 : (f == 6) <;> cases n1 : (v.n == 1)
    all_goals first | (exfalso; rw [o7, o6] at h3; cases h3; done) | (exfalso; rw [o7, n1] at h5; cases h5; done) | skip
    all_goals clear h3 h5
    all_goals go_enter Tryz.func240, Tryz.ntmps240
    all_goals go_wp2
    all_goals go_end0
    all_goals exact hfin.out _
  · have h3' : (f == 6) = false ∧ (f == 7) = false := by simpa using h3
    obtain ⟨o6, o7⟩ := h3'
    clear h3
    go_enter Tryz.func240, Tryz.ntmps240
    go_wp2
    go_end0
    exact hfin.out _
  · have h3' : (f == 6) = false ∧ (f == 7) = false := by simpa using h3
    obtain ⟨o6, o7⟩ := h3'
    have h5' : (v.kind != 1) = true := by simp [bne, h5]
    subst h6
    clear h3
    go_enter Tryz.func240, Tryz.ntmps240
    go_wp2
    go_end0
    exact hfin.out _
set_option maxHeartbeats 2000000 in
theorem takeV_bad (V : VB) (fb : Nat) (E : Evr) (n k : Nat) (t : Tl) (f : Int) (v : Vl) (r : Bool) (w : World) (h : EM w V fb E) (hd : E.deep = n + 1) (hn : n < 24) (hft : E.fol n = t) (hk : k ≤ 700) (htb : TB k t) (lv : Lw v) (hf1 : 1 ≤ f) (hf2 : tallies f = true) (h1 : (t.bad.kind == 4) = false) (h2 : (v.kind == 4) = true) :
    Calls Tryz.prog 240 #[pt V.e, I f, vV v, .bool r] w (Lv w V fb (.tuple #[]) { E with fol := upd E.fol n (takeT f t v r) }) := by
  have hU : takeT f t v r = { t with bad := v } := by simp [takeT, h1, h2]
  rw [hU]
  obtain ⟨-, -, -, -, -, -, -, c7, c8⟩ := h.ev9
  rw [hd] at c8
  obtain ⟨l1, l2, l3, l4, l5⟩ := h.lts
  obtain ⟨t0, t1, t2, t3, t4⟩ := h.fol5 hn hft
  obtain ⟨z0, z1, z2, z3, z4⟩ := h.fol5z n
  have hw1 : IntKind.i64.wrap (((n + 1 : Nat) : Int) - 1) = (n : Int) := by simp [IntKind.wrap, IntKind.bits, IntKind.signed]; omega
  have hE := Bx.mk (h.badFol n v hft)
  have hfr := Bx.mk (fr_bad w V n v)
  clear h hU
  clear hd hft htb lv hf1 hf2 hk
  go_enter Tryz.func240, Tryz.ntmps240
  go_wp2_with fail
  go_region
  go_wp2
  go_end0
  exact ⟨rfl, (hE.out.alloc _).drew, (hfr.out.alloc _).drew⟩
set_option maxHeartbeats 2000000 in
theorem takeV_acc (V : VB) (fb : Nat) (E : Evr) (n k : Nat) (t : Tl) (f : Int) (v : Vl) (r : Bool) (w : World) (h : EM w V fb E) (hd : E.deep = n + 1) (hn : n < 24) (hft : E.fol n = t) (hk : k ≤ 700) (htb : TB k t) (lv : Lw v) (hf1 : 1 ≤ f) (hf2 : tallies f = true) (h1 : (t.bad.kind == 4) = false) (h2 : (v.kind == 4) = false) (h3 : (f == 6 || f == 7) = true) (h4 : (v.kind == 3) = true) (h5 : ((v.n == 1) == (f == 7)) = true) :
    Calls Tryz.prog 240 #[pt V.e, I f, vV v, .bool r] w (Lv w V fb (.tuple #[]) { E with fol := upd E.fol n (takeT f t v r) }) := by
  have hU : takeT f t v r = { t with acc := 1 } := by unfold takeT; rw [h1, h2, h3, h4, h5]; rfl
  rw [hU]
  obtain ⟨-, -, -, -, -, -, -, c7, c8⟩ := h.ev9
  rw [hd] at c8
  obtain ⟨l1, l2, l3, l4, l5⟩ := h.lts
  obtain ⟨t0, t1, t2, t3, t4⟩ := h.fol5 hn hft
  obtain ⟨z0, z1, z2, z3, z4⟩ := h.fol5z n
  have hw1 : IntKind.i64.wrap (((n + 1 : Nat) : Int) - 1) = (n : Int) := by simp [IntKind.wrap, IntKind.bits, IntKind.signed]; omega
  have hE := Bx.mk (h.setFol n 3 (by omega) (I 1) { t with acc := 1 } (by intro j hj; rw [hft]; rcases j with _ | _ | _ | _ | _ | j <;> first | rfl | omega))
  have hfr := Bx.mk (fr_set w (V := V) VS.t (n * 5 + 3) (I 1))
  have h4' : (v.kind != 3) = false := by simp [bne, h4]
  clear h hU
  clear hd hft htb lv hf1 hf2 hk
  cases o7 : (f == 7) <;> cases o6 : (f == 6) <;> cases n1 : (v.n == 1)
  all_goals first | (exfalso; rw [o7, o6] at h3; cases h3; done) | (exfalso; rw [o7, n1] at h5; cases h5; done) | skip
  all_goals clear h3 h5
  all_goals go_enter Tryz.func240, Tryz.ntmps240
  all_goals go_wp2
  all_goals go_end0
  all_goals exact ⟨rfl, hE.out.alloc _, hfr.out.alloc _⟩
end Go.Proofs.Qxb6500326aGreat
