import Derived.Test.Qxb6500328aGreatL6
import Derived.Test.Qxb6500328aGreatL4
namespace Go.Proofs.Qxb6500328aGreat
set_option maxRecDepth 100000
set_option linter.unusedVariables false
set_option linter.unusedSimpArgs false
open Go.RowKit Go.PlainAid
attribute [local go_sem] bv_and bv_or bv_eq_zero bv_ne_zero bv_ne bv_eq bv_andNot
section
variable {D : DA} {sb : Nat} {x : Gr.XS} {T : Nat → ByteArray} {E : Nat → Vl} {reg : ByteArray} {Wt : Nat → ByteArray} {We : Nat → Vl}
set_option maxHeartbeats 8000000 in
theorem copies_any (p q : Nat) (w : World) (h : WS w D sb x T E reg Wt We) (hp : p < 24) (hq : q < 24) (hok : TxOK Wt) (hl : (cpS Wt p q).size ≤ 40) (hT : T q = cpS Wt p q) : Calls Tryz.prog 43 #[pt D.d, I p, I q] w fun e w' => e = .returned (.bool true) ∧ Fr S0 w w' := by
  obtain ⟨hb1, hb2⟩ := cp_bd hp hq
  have hW : Bx (∀ w', Fr S0 w w' → WS w' D sb x T E reg Wt We) := ⟨fun w' f => h.fr0 f⟩
  have hcs : cpS Wt p q = movS (copyN (cpDc p q) (cpDr p q)) (Wt p) := rfl
  rw [hcs] at hl hT
  have hD := Bx.mk (dollars_any (Wt p) w)
  have a1 : Bx (∀ wx, Fr S0 w wx → Calls Tryz.prog 27 #[pt D.M.me, I (q : Int)] wx fun e w' => e = .returned (.string (T q)) ∧ wx = w') := ⟨fun wx f => by have := yRaw_any (q : Int) wx (hW.out wx f).ey; rw [rawP_at hq] at this; exact this⟩
  have a2 := Bx.mk (fun wx => readsL_any (Wt p) wx)
  have a3 := Bx.mk (fun wx => readsL_any (T q) wx)
  have hSl : Bx (∀ wx, Calls Tryz.prog 76 #[U (readsP (Wt p)).1, I ((q : Int) % 4 - (p : Int) % 4), I ((q : Int) / 4 - (p : Int) / 4)] wx (SlP (readsP (Wt p)).1 (cpDc p q) (cpDr p q) wx)) := ⟨fun wx => slid_any _ (cpDc p q) (cpDr p q) wx hb1 hb2⟩
  have hpin : Bx (frm (Wt p) = true ∧ (∀ j, j < (tlT (Wt p)).nodes.length → Pinned (nd (tlT (Wt p)).nodes j)) → (readsP (T q)).1 = (readsP (Wt p)).1) := ⟨fun h => by rw [hT]; exact copies_pin (hok p hp) h.1 h.2 hl⟩
  have hloo : Bx (frm (Wt p) = true ∧ (∀ j, j < (tlT (Wt p)).nodes.length → Loose (nd (tlT (Wt p)).nodes j)) → ∀ W : BitVec 32, ((∀ i, i < 24 → (readsP (Wt p)).1.getLsbD i = true → slIn (cpDc p q) (cpDr p q) i) ∧ ∀ j, W.getLsbD j = true → ∃ i, i < 24 ∧ (readsP (Wt p)).1.getLsbD i = true ∧ slTo (cpDc p q) (cpDr p q) i = j) → (readsP (T q)).1 &&& W = W) := ⟨fun h W h2 => by rw [hT]; exact copies_loo (hok p hp) h.1 h.2 hl h2.1 h2.2⟩
  have hDe : Bx (∀ w', Fr S0 w w' → (w'.cell? ⟨D.d, 3, none⟩ = some (pt D.M.me) ∧ w'.cell? ⟨D.d, 5, none⟩ = some (sl D.wsb 24 24) ∧ D.d < w'.heap.size) ∧ w'.cell? ⟨D.wsb, p, none⟩ = some (.string (Wt p)) ∧ D.wsb < w'.heap.size) := ⟨fun w' f => ⟨⟨(hW.out w' f).de7.2.2.2.1, (hW.out w' f).de7.2.2.2.2.2.1, (hW.out w' f).de7.2.2.2.2.2.2.2⟩, (hW.out w' f).ws.cell p hp, (hW.out w' f).ws.lt⟩⟩
  obtain ⟨⟨c3, c5, hl0⟩, m0, hlw⟩ := hDe.out w (Fr.refl _ _)
  have hpI : (p : Int) < 24 := by omega
  have hqI : (q : Int) < 24 := by omega
  clear h hcs hl hT hok hb1 hb2 hW
  generalize T q = s2 at *
  generalize hs1 : Wt p = s1 at *
  unfold DoP at hD
  generalize (readsP s2).1 = r2 at *
  generalize (readsP s1).1 = r1 at *
  generalize hA1 : (frm s1 = true ∧ ∀ j, j < (tlT s1).nodes.length → Pinned (nd (tlT s1).nodes j)) = PP at *
  generalize hA2 : (frm s1 = true ∧ ∀ j, j < (tlT s1).nodes.length → Loose (nd (tlT s1).nodes j)) = LL at *
  clear hA1 hA2 hs1
  go_enter Tryz.func43, Tryz.ntmps43
  go_wp2_with (first
    | (go_at_call 75; refine hD.out.mono ?_; clear hD; rintro e w2 ⟨pb, lb, rfl, hp2, hl2, hf2⟩; have hp2 := Bx.mk hp2; have hl2 := Bx.mk hl2; have hf2 := Bx.mk hf2; obtain ⟨⟨c3, c5, hl0⟩, m0, hlw⟩ := hDe.out _ hf2.out)
    | (go_at_call 72; refine (a2.out _).mono ?_; clear a2; rintro e w3 ⟨rfl, hf3⟩; have hf3 := Bx.mk (hf2.out.trans hf3); obtain ⟨⟨c3, c5, hl0⟩, m0, hlw⟩ := hDe.out _ hf3.out)
    | (go_at_call 27; refine (a1.out _ hf3.out).mono ?_; clear a1; rintro e _ ⟨rfl, rfl⟩)
    | (go_at_call 72; refine (a3.out _).mono ?_; clear a3; rintro e w4 ⟨rfl, hf4⟩; have hf4 := Bx.mk (hf3.out.trans hf4))
    | (go_at_call 76; refine (hSl.out _).mono ?_; clear hSl; rintro e _ ⟨W, ok, rfl, rfl, hok⟩; have hok := Bx.mk hok))
  all_goals go_ret
  all_goals first
    | exact ⟨by rw [hpin.out (hp2.out (by first | rfl | assumption))]; simp, hf4.out⟩
    | exact ⟨by rw [hloo.out (hl2.out (by first | rfl | assumption)) W (hok.out (by first | rfl | assumption))]; simp, hf4.out⟩
    | exact ⟨rfl, hf4.out⟩
end
end Go.Proofs.Qxb6500328aGreat
