import Derived.Test.Qxb6500326aGreatR8
namespace Go.Proofs.Qxb6500326aGreat
set_option maxRecDepth 100000
set_option linter.unusedVariables false
set_option linter.unusedSimpArgs false
open Go.RowKit Go.PlainAid
set_option maxHeartbeats 4000000 in
theorem step_take (V : VB) (fb : Nat) (E0 : Evr) (eb ec : Nat) (env : Nat → Vl) (a : Int) (x : Vl) (t : Tl) (k : Nat) (v : Vl) (set : BitVec 32) (S : List Vl) (T : List Tl) (w : World) (h : MW w V fb E0 ⟨x :: S, t :: T⟩) (ha : 1 ≤ a ∧ tallies a = true) (hs : S.length < 24) (ht : T.length < 24) (hk : k ≤ 600) (htb : TB k t) (lx : Lw x) :
    Calls Tryz.prog 219 #[pt V.e, inV ⟨7, a, v, set⟩, sl eb 24 ec] w (LA w V fb E0 (.tuple #[]) ⟨S, takeT a t x false :: T⟩) := by
  have hM := Bx.mk (h.alloc (.cells (inA ⟨7, a, v, set⟩) 235))
  have hb := Bx.mk (in_new w ⟨7, a, v, set⟩ 235 rfl)
  have hfr : Bx (Fr (VS V) w (w.alloc (.cells (inA ⟨7, a, v, set⟩) 235))) := ⟨(Fr.refl _ _).alloc _⟩
  have hne := Bx.mk (h.ne (Nat.le_refl _))
  have hP : Bx (∀ w', MW w' V fb E0 ⟨x :: S, t :: T⟩ → Calls Tryz.prog 220 #[pt V.e] w' (LA w' V fb E0 (vV x) ⟨S, t :: T⟩)) := ⟨fun w' h => popA V fb E0 S (t :: T) x w' h hs⟩
  have hT : Bx (∀ w', MW w' V fb E0 ⟨S, t :: T⟩ → Calls Tryz.prog 240 #[pt V.e, I a, vV x, .bool false] w' (LA w' V fb E0 (.tuple #[]) ⟨S, takeT a t x false :: T⟩)) := ⟨fun w' h => takeA V fb E0 S t T a x false k w' h ht (by omega) htb lx ha.1 ha.2⟩
  clear htb ha
  clear h
  go_enter Tryz.func219, Tryz.ntmps219
  go_wp2_with (first
    | (go_at_call 220; refine (hP.out _ hM.out).mono ?_; clear hP; rintro e w1 ⟨rfl, hM1, hf⟩; have hb := Bx.mk (hf.row hb.out hne.out); obtain ⟨i0, i1, i2, i3, i4, i5⟩ := hb.out.in6; have hl0 := hb.out.lt; have hnw1 := Bx.mk (hM1.ne (Nat.le_refl _)); have hM := Bx.mk (hM1.alloc (.cells (vA x) 92)); have hb := Bx.mk (hb.out.alloc (.cells (vA x) 92)); have hfr := Bx.mk ((hfr.out.trans hf).alloc (.cells (vA x) 92)); clear hf hM1)
    | (go_at_call 240; refine (hT.out _ hM.out).mono ?_; clear hT; rintro e wq ⟨rfl, hM1, hf⟩; have hM := Bx.mk hM1; have hfr := Bx.mk (hfr.out.trans hf); clear hf hM1))
  go_end0
  exact ⟨rfl, hM.out, hfr.out⟩
set_option maxHeartbeats 4000000 in
theorem step_lost (V : VB) (fb : Nat) (E0 : Evr) (eb ec : Nat) (env : Nat → Vl) (a : Int) (t : Tl) (k : Nat) (v : Vl) (set : BitVec 32) (S : List Vl) (T : List Tl) (w : World) (h : MW w V fb E0 ⟨S, t :: T⟩) (ha : 1 ≤ a ∧ tallies a = true) (ht : T.length < 24) (hk : k ≤ 600) (htb : TB k t) :
    Calls Tryz.prog 219 #[pt V.e, inV ⟨9, a, v, set⟩, sl eb 24 ec] w (LA w V fb E0 (.tuple #[]) ⟨S, takeT a t (vErr 2) true :: T⟩) := by
  have hM := Bx.mk (h.alloc (.cells (inA ⟨9, a, v, set⟩) 235))
  have hb := Bx.mk (in_new w ⟨9, a, v, set⟩ 235 rfl)
  have hfr : Bx (Fr (VS V) w (w.alloc (.cells (inA ⟨9, a, v, set⟩) 235))) := ⟨(Fr.refl _ _).alloc _⟩
  have hne := Bx.mk (h.ne (Nat.le_refl _))
  have hT : Bx (∀ w', MW w' V fb E0 ⟨S, t :: T⟩ → Calls Tryz.prog 240 #[pt V.e, I a, vV (vErr 2), .bool true] w' (LA w' V fb E0 (.tuple #[]) ⟨S, takeT a t (vErr 2) true :: T⟩)) := ⟨fun w' h => takeA V fb E0 S t T a (vErr 2) true k w' h ht (by omega) htb (.err _ (by decide) (by decide)) ha.1 ha.2⟩
  clear htb ha
  clear h
  go_enter Tryz.func219, Tryz.ntmps219
  go_wp2_with (first
    | (go_at_call 139; refine (err_any _ _).mono ?_; rintro e w1 ⟨rfl, hf⟩; have hb := Bx.mk (hf.row0 hb.out); obtain ⟨i0, i1, i2, i3, i4, i5⟩ := hb.out.in6; have hl0 := hb.out.lt; have hM := Bx.mk ((hM.out.fr0 hf).alloc (.cells (vA (vErr 2)) 92)); have hfr := Bx.mk ((hfr.out.trans hf.up).alloc (.cells (vA (vErr 2)) 92)); clear hf)
    | (go_at_call 240; refine (hT.out _ hM.out).mono ?_; clear hT; rintro e wq ⟨rfl, hM1, hf⟩; have hM := Bx.mk hM1; have hfr := Bx.mk (hfr.out.trans hf); clear hf hM1))
  go_end0
  exact ⟨rfl, hM.out, hfr.out⟩
set_option maxHeartbeats 4000000 in
theorem step_range (V : VB) (fb : Nat) (E0 : Evr) (eb ec : Nat) (env : Nat → Vl) (a : Int) (t : Tl) (k : Nat) (v : Vl) (set : BitVec 32) (S : List Vl) (T : List Tl) (w : World) (h : MW w V fb E0 ⟨S, t :: T⟩) (he : LwE env) (hG : Grid w eb 24 3 (fun c => vC (env c))) (heb : ¬ VS V eb) (ha : 1 ≤ a ∧ tallies a = true) (ht : T.length < 24) (hk : k ≤ 600) (htb : TB k t) :
    Calls Tryz.prog 219 #[pt V.e, inV ⟨8, a, v, set⟩, sl eb 24 ec] w (LA w V fb E0 (.tuple #[]) ⟨S, sweepT a set env 0 24 t :: T⟩) := by
  have hM := Bx.mk (h.alloc (.cells (inA ⟨8, a, v, set⟩) 235))
  have hb := Bx.mk (in_new w ⟨8, a, v, set⟩ 235 rfl)
  have hfr : Bx (Fr (VS V) w (w.alloc (.cells (inA ⟨8, a, v, set⟩) 235))) := ⟨(Fr.refl _ _).alloc _⟩
  have hne := Bx.mk (h.ne (Nat.le_refl _))
  have hT : Bx (∀ w', MW w' V fb E0 ⟨S, t :: T⟩ → Fr (VS V) w w' → Calls Tryz.prog 241 #[pt V.e, I a, U set, sl eb 24 ec] w' (LA w' V fb E0 (.tuple #[]) ⟨S, sweepT a set env 0 24 t :: T⟩)) := ⟨fun w' h f => sweepA V fb E0 S t T a set eb ec env k w' h ht hk htb he (hG.of f heb) heb ha.1 ha.2⟩
  clear htb ha he hG heb
  clear h
  go_enter Tryz.func219, Tryz.ntmps219
  go_wp2_with (first
    | (go_at_call 241; refine (hT.out _ hM.out hfr.out).mono ?_; clear hT; rintro e wq ⟨rfl, hM1, hf⟩; have hM := Bx.mk hM1; have hfr := Bx.mk (hfr.out.trans hf); clear hf hM1))
  go_end0
  exact ⟨rfl, hM.out, hfr.out⟩
set_option maxHeartbeats 4000000 in
theorem step_close (V : VB) (fb : Nat) (E0 : Evr) (eb ec : Nat) (env : Nat → Vl) (a : Int) (t : Tl) (v : Vl) (set : BitVec 32) (S : List Vl) (T : List Tl) (w : World) (h : MW w V fb E0 ⟨S, t :: T⟩) (hs : S.length < 24) (ht : T.length < 24) :
    Calls Tryz.prog 219 #[pt V.e, inV ⟨10, a, v, set⟩, sl eb 24 ec] w (LA w V fb E0 (.tuple #[]) ⟨shutT a t :: S, T⟩) := by
  have hM := Bx.mk (h.alloc (.cells (inA ⟨10, a, v, set⟩) 235))
  have hb := Bx.mk (in_new w ⟨10, a, v, set⟩ 235 rfl)
  have hfr : Bx (Fr (VS V) w (w.alloc (.cells (inA ⟨10, a, v, set⟩) 235))) := ⟨(Fr.refl _ _).alloc _⟩
  have hne := Bx.mk (h.ne (Nat.le_refl _))
  have hT : Bx (∀ w', MW w' V fb E0 ⟨S, t :: T⟩ → Calls Tryz.prog 242 #[pt V.e, I a] w' (LA w' V fb E0 (vV (shutT a t)) ⟨S, T⟩)) := ⟨fun w' h => shutA V fb E0 S t T a w' h ht⟩
  have hPu : Bx (∀ w' x, MW w' V fb E0 ⟨S, T⟩ → Calls Tryz.prog 236 #[pt V.e, vV x] w' (LA w' V fb E0 (.tuple #[]) ⟨x :: S, T⟩)) := ⟨fun w' x h => pushA V fb E0 S T x w' h (by omega)⟩
  generalize shutT a t = z at hT ⊢
  clear h
  go_enter Tryz.func219, Tryz.ntmps219
  go_wp2_with (first
    | (go_at_call 242; refine (hT.out _ hM.out).mono ?_; clear hT; rintro e w1 ⟨rfl, hM1, hf⟩; have hM := Bx.mk (hM1.alloc (.cells (vA z) 92)); have hfr := Bx.mk ((hfr.out.trans hf).alloc (.cells (vA z) 92)); clear hf hM1)
    | (go_at_call 236; refine (hPu.out _ _ hM.out).mono ?_; clear hPu; rintro e wq ⟨rfl, hM1, hf⟩; have hM := Bx.mk hM1; have hfr := Bx.mk (hfr.out.trans hf); clear hf hM1))
  go_end0
  exact ⟨rfl, hM.out, hfr.out⟩
end Go.Proofs.Qxb6500326aGreat
