import Derived.Test.Qxb6500328aGreatL7
import Derived.Test.Qxb6500328aGreatL8
import Derived.Test.Qxb6500328aGreatL9
namespace Go.Proofs.Qxb6500328aGreat
set_option maxRecDepth 100000
set_option linter.unusedVariables false
set_option linter.unusedSimpArgs false
open Go.RowKit Go.PlainAid
section
variable {D : DA} {sb : Nat} {x : Gr.XS} {T T' : Nat → ByteArray} {E E' : Nat → Vl} {reg : ByteArray}
theorem meaning_any (rows ins : Bool) (at_ : Int) (w : World) (h : WS w D sb x T' E' reg T E) (h0 : 0 ≤ at_) (h1 : at_ < nAx rows) (hS : Sheet T E) (hS' : Sheet T' E') (hT : T' = edT rows ins at_ T) : Calls Tryz.prog 40 #[pt D.d, I (kd rows ins), I at_] w fun e w' => e = .returned (.bool true) ∧ Fr S0 w w' := by
  cases ins
  · exact meaning_del rows at_ w
  · exact meaning_ins rows at_ w h h0 h1 hS (hT ▸ hS')
set_option maxHeartbeats 4000000 in
theorem held_any (kd a b c : Int) (S1 T1 : ByteArray) (er : Int) (w : World) (h : WS w D sb x T' E' reg T E) (hS : Sheet T E) (hS' : Sheet T' E') (hd : Hd kd a b er T T') : Calls Tryz.prog 16 #[pt D.d, opV kd a b c S1 T1, I er] w fun e w' => e = .returned (.bool true) ∧ Fr S0 w w' := by
  have f0 : Fr S0 w (w.alloc (.cells (opA kd a b c S1 T1) 44)) := (Fr.refl _ _).alloc _
  have hW : Bx (∀ w', Fr S0 w w' → WS w' D sb x T' E' reg T E) := ⟨fun w' f => h.fr0 f⟩
  have ho0 := Bx.mk (op_new w kd a b c S1 T1 rfl)
  have hWk := Bx.mk (worked_any kd a b c S1 T1 er _ (h.fr0 f0))
  have hHa : Bx (∀ w', Fr S0 w w' → Calls Tryz.prog 39 #[pt D.d] w' fun e w'' => e = .returned (.bool true) ∧ w' = w'') := ⟨fun w' f => handed_any w' (h.fr0 f)⟩
  have hf0 := Bx.mk f0
  have hOp : Bx (∀ w', Fr S0 (w.alloc (.cells (opA kd a b c S1 T1) 44)) w' → Row w' w.heap.size 6 (opC kd a b c S1 T1)) := ⟨fun w' f => f.row0 ho0.out⟩
  have hfr1 := Bx.mk (Fr.refl S0 (w.alloc (.cells (opA kd a b c S1 T1) 44)))
  clear h f0
  cases e0 : (er == 0)
  · cases e3 : (kd == 3) <;> cases e4 : (kd == 4)
    all_goals go_enter Tryz.func16, Tryz.ntmps16
    all_goals go_wp2_with (first
      | (go_at_call 12; refine hWk.out.mono ?_; clear hWk; rintro e w1 ⟨rfl, hf1⟩; have ho1 := Bx.mk (hOp.out _ hf1); obtain ⟨o0, o1, o2, o3, o4, o5, hol⟩ := ho1.out.op6; have hf1 := Bx.mk (hf0.out.trans hf1))
      | (go_at_call 39; refine (hHa.out _ hf1.out).mono ?_; clear hHa; rintro e _ ⟨rfl, rfl⟩))
    all_goals go_ret
    all_goals exact ⟨rfl, hf1.out⟩
  · have her : er = 0 := by simpa using e0
    cases e3 : (kd == 3)
    · cases e4 : (kd == 4)
      · clear her
        go_enter Tryz.func16, Tryz.ntmps16
        go_wp2_with (first
          | (go_at_call 12; refine hWk.out.mono ?_; clear hWk; rintro e w1 ⟨rfl, hf1⟩; have ho1 := Bx.mk (hOp.out _ hf1); obtain ⟨o0, o1, o2, o3, o4, o5, hol⟩ := ho1.out.op6; have hf1 := Bx.mk (hf0.out.trans hf1))
          | (go_at_call 39; refine (hHa.out _ hf1.out).mono ?_; clear hHa; rintro e _ ⟨rfl, rfl⟩))
        go_ret
        exact ⟨rfl, hf1.out⟩
      · obtain ⟨p, q, ea, eb, hp, hq, hsz, hTq⟩ := hd.2 (by simpa using e4) her
        have hC : Bx (∀ w', Fr S0 w w' → Calls Tryz.prog 43 #[pt D.d, I a, I b] w' fun e w'' => e = .returned (.bool true) ∧ Fr S0 w' w'') := ⟨fun w' f => by rw [ea, eb]; exact copies_any p q w' (hW.out w' f) hp hq hS.ok hsz hTq⟩
        clear her ea eb hd hsz hTq
        go_enter Tryz.func16, Tryz.ntmps16
        go_wp2_with (first
          | (go_at_call 12; refine hWk.out.mono ?_; clear hWk; rintro e w1 ⟨rfl, hf1⟩; have ho1 := Bx.mk (hOp.out _ hf1); obtain ⟨o0, o1, o2, o3, o4, o5, hol⟩ := ho1.out.op6; have hf1 := Bx.mk (hf0.out.trans hf1))
          | (go_at_call 39; refine (hHa.out _ hf1.out).mono ?_; clear hHa; rintro e _ ⟨rfl, rfl⟩)
          | (go_at_call 43; refine (hC.out _ hf1.out).mono ?_; clear hC; rintro e w2 ⟨rfl, hf2⟩; have hf2 := Bx.mk (hf1.out.trans hf2)))
        go_ret
        exact ⟨rfl, hf2.out⟩
    · have e4 : (kd == 4) = false := by have : kd = 3 := (by simpa using e3); rw [this]; rfl
      obtain ⟨rows, ins, ea, hb0, hb1, hT⟩ := hd.1 (by simpa using e3) her
      have hM : Bx (∀ w', Fr S0 w w' → Calls Tryz.prog 40 #[pt D.d, I a, I b] w' fun e w'' => e = .returned (.bool true) ∧ Fr S0 w' w'') := ⟨fun w' f => by rw [ea]; exact meaning_any rows ins b w' (hW.out w' f) hb0 hb1 hS hS' hT⟩
      have hC : Bx (∀ w', Fr S0 w w' → Calls Tryz.prog 41 #[pt D.d, I a, I b] w' fun e w'' => e = .returned (.bool true) ∧ Fr S0 w' w'') := ⟨fun w' f => by rw [ea]; exact carries_any rows ins b w' (hW.out w' f) hb0 hb1 hS.ok hT⟩
      have hN : Bx (∀ w', Fr S0 w w' → Calls Tryz.prog 42 #[pt D.d] w' fun e w'' => e = .returned (.bool true) ∧ Fr S0 w' w'') := ⟨fun w' f => canon_any w' (hW.out w' f) (fun c hc => by rw [hT]; exact edT_canon hb0 hb1 hS.ok hc)⟩
      clear her ea hd hT
      go_enter Tryz.func16, Tryz.ntmps16
      go_wp2_with (first
        | (go_at_call 12; refine hWk.out.mono ?_; clear hWk; rintro e w1 ⟨rfl, hf1⟩; have ho1 := Bx.mk (hOp.out _ hf1); have hq1 := Bx.mk hf1; obtain ⟨o0, o1, o2, o3, o4, o5, hol⟩ := ho1.out.op6; have hf1 := Bx.mk (hf0.out.trans hf1))
        | (go_at_call 39; refine (hHa.out _ hf1.out).mono ?_; clear hHa; rintro e _ ⟨rfl, rfl⟩)
        | (go_at_call 40; refine (hM.out _ hf1.out).mono ?_; clear hM; rintro e w2 ⟨rfl, hf2⟩; have hq2 := Bx.mk (hq1.out.trans hf2); have ho2 := Bx.mk (hOp.out _ hq2.out); obtain ⟨o0, o1, o2, o3, o4, o5, hol⟩ := ho2.out.op6; have hf2 := Bx.mk (hf1.out.trans hf2))
        | (go_at_call 41; refine (hC.out _ hf2.out).mono ?_; clear hC; rintro e w3 ⟨rfl, hf3⟩; have hf3 := Bx.mk (hf2.out.trans hf3))
        | (go_at_call 42; refine (hN.out _ hf3.out).mono ?_; clear hN; rintro e w4 ⟨rfl, hf4⟩; have hf4 := Bx.mk (hf3.out.trans hf4)))
      go_ret
      exact ⟨rfl, hf4.out⟩
end
end Go.Proofs.Qxb6500328aGreat
