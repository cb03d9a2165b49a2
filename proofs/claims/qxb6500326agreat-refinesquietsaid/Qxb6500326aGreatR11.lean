import Derived.Test.Qxb6500326aGreatR9
import Derived.Test.Qxb6500326aGreatR10
namespace Go.Proofs.Qxb6500326aGreat
set_option maxRecDepth 100000
set_option linter.unusedVariables false
set_option linter.unusedSimpArgs false
open Go.RowKit Go.PlainAid

set_option maxHeartbeats 4000000 in
theorem stepOpenV (V : VB) (fb : Nat) (E0 : Evr) (eb ec : Nat) (a : Int) (v : Vl) (set : BitVec 32) (S : List Vl) (T : List Tl) (w : World) (h : MW w V fb E0 ⟨S, T⟩) (ht : T.length < 24) :
    Calls Tryz.prog 219 #[pt V.e, inV ⟨6, a, v, set⟩, sl eb 24 ec] w (LA w V fb E0 (.tuple #[]) ⟨S, tl0 :: T⟩) := by
  obtain ⟨E, h1, h2, h3, h4, h5, h6⟩ := h.ex
  have h3 : E.deep = T.length := h3
  obtain ⟨n, hn⟩ : ∃ n, T.length = n := ⟨_, rfl⟩
  rw [hn] at ht h3
  obtain ⟨-, -, -, -, -, -, -, c7, c8⟩ := h1.ev9
  rw [h3] at c8
  have y8 := h1.row.frozen 8
  obtain ⟨l1, l2, l3, l4, l5⟩ := h1.lts
  obtain ⟨t0, t1, t2, t3, t4⟩ := h1.fol5 ht rfl
  obtain ⟨z0, z1, z2, z3, z4⟩ := h1.fol5z n
  have het := h1.ok.et
  have hE := (h1.putFol n tl0).set (E' := { E with fol := upd E.fol n tl0, deep := n + 1 }) 8 (I ((n : Int) + 1)) (by intro i hi; rcases i with _ | _ | _ | _ | _ | _ | _ | _ | _ | i <;> first | rfl | omega) rfl rfl rfl rfl
  have hM : Bx (MW ((sets w V.t (n * 5) (tlA tl0).toList).setCell ⟨V.e, 8, none⟩ (I ((n : Int) + 1))) V fb E0 ⟨S, tl0 :: T⟩) := ⟨⟨_, hE, h2, by show n + 1 = T.length + 1; rw [hn], h4, by rw [← hn]; exact Sk.push h5 tl0, h6⟩⟩
  have hf : Bx (Fr (VS V) w ((sets w V.t (n * 5) (tlA tl0).toList).setCell ⟨V.e, 8, none⟩ (I ((n : Int) + 1)))) := ⟨(fr_put w VS.t _ _).trans (fr_set _ VS.e _ _)⟩
  clear hE h1 h2 h3 h4 h5 h6 h hn
  go_enter Tryz.func219, Tryz.ntmps219
  go_wp2_with fail
  go_region
  go_wp2
  go_end0
  exact ⟨rfl, (hM.out.alloc _).fr0 ((Fr.refl _ _).drew), (hf.out.alloc _).drew⟩
theorem stepA (V : VB) (fb : Nat) (E0 : Evr) (eb ec : Nat) (env : Nat → Vl) (i : Ins) (m m' : Mc) (w : World) (h : MW w V fb E0 m) (he : LwE env) (hG : Grid w eb 24 3 (fun c => vC (env c))) (heb : ¬ VS V eb) (hs : StepM env i m m') :
    Calls Tryz.prog 219 #[pt V.e, inV i, sl eb 24 ec] w (LA w V fb E0 (.tuple #[]) m') := by
  cases hs with
  | push a v set S T h1 => exact step_push V fb E0 eb ec env a v set S T w h h1
  | cell c v set S T hc h1 => exact step_cell V fb E0 eb ec env c v set S T w h hG hc h1
  | unary a v x set S T h1 lx => exact step_unary V fb E0 eb ec env a x v set S T w h h1 lx
  | bin a v x y set S T ha h1 lx ly => exact step_bin V fb E0 eb ec env a x y v set S T w h h1 lx ly
  | choose a v c x y set S T h1 lc => exact step_choose V fb E0 eb ec env a c x y v set S T w h h1 lc
  | opn a v set S T h1 => exact stepOpenV V fb E0 eb ec a v set S T w h h1
  | take a v x set S t T k ha hs h1 hk ht lx => exact step_take V fb E0 eb ec env a x t k v set S T w h ha hs h1 hk ht lx
  | range a v set S t T k ha h1 hk ht => exact step_range V fb E0 eb ec env a t k v set S T w h he hG heb ha h1 hk ht
  | lost a v set S t T k ha h1 hk ht => exact step_lost V fb E0 eb ec env a t k v set S T w h ha h1 hk ht
  | close a v set S t T k ha hs h1 hk ht => exact step_close V fb E0 eb ec env a t v set S T w h hs h1
/-- The program l lies in the buffer from place n on. -/
def Cod (f : Nat → Ins) : Nat → List Ins → Prop
  | _, [] => True
  | n, i :: l => f n = i ∧ Cod f (n + 1) l
set_option maxHeartbeats 8000000 in
theorem runV (V : VB) (fb : Nat) (E0 : Evr) (eb ec : Nat) (env : Nat → Vl) (l : List Ins) (x : Vl) (w : World) (h : MW w V fb E0 ⟨[], []⟩) (he : LwE env) (hG : Grid w eb 24 3 (fun c => vC (env c))) (heb : ¬ VS V eb) (hl : E0.start + l.length = 48) (hc : Cod E0.code E0.start l) (hr : RunM env l ⟨[], []⟩ ⟨[x], []⟩) :
    Calls Tryz.prog 184 #[pt V.e, sl eb 24 ec] w (LA w V fb { E0 with start := 48 } (vV x) ⟨[], []⟩) := by
  obtain ⟨E, h1, -, -, -, -, hst, -⟩ := h.ex
  obtain ⟨-, -, c2, -⟩ := h1.ev9
  rw [hst] at c2
  have hne0 := Bx.mk (h1.ne (Nat.le_refl _))
  have hl1 := h1.row.lt
  clear h1 hst
  have hM0 := Bx.mk (h.alloc (.cells #[I 0, I 0, .string es] 92))
  have hz0 := Bx.mk (v_zero w 92 rfl)
  have hG := Bx.mk hG
  have he := Bx.mk he
  have heb := Bx.mk heb
  have hl := Bx.mk hl
  have hc := Bx.mk hc
  have hr := Bx.mk hr
  have hst48 : E0.start ≤ 48 := by have := hl.out; omega
  clear h
  go_enter Tryz.func184, Tryz.ntmps184
  go_wp2_with fail
  go_loopw [5] (fun pc wr => ∃ (n : Nat) (k : List Ins) (m : Mc), pc = I (n : Int) ∧ n ≤ 48 ∧ Bx (n + k.length = 48) ∧ Bx (Cod E0.code n k) ∧ Bx (RunM env k m ⟨[x], []⟩) ∧ Bx (MW wr V fb E0 m) ∧ Bx (Row wr w.heap.size 3 (vC v0)) ∧ Bx (Fr (VS V) w wr)) (fun pc _ => 48 - (intOf pc).toNat)
  case atStart => exact ⟨E0.start, l, ⟨[], []⟩, rfl, hst48, hl, hc, hr, hM0, hz0, ⟨(Fr.refl _ _).alloc _⟩⟩
  case round =>
    clear hl hc hr hM0 hz0 hst48 c2 hl1
    obtain ⟨n, k, m, rfl, hn, hl, hc, hr, hM, hz, hF⟩ := hrel
    obtain ⟨E, h1, -, -, -, -, hst, hcl, hcd, how⟩ := hM.out.ex
    obtain ⟨-, d1, d2, -⟩ := h1.ev9
    have hl1 := h1.row.lt
    have hlc := Row.lt h1.code
    cases hlt : decide ((n : Int) < 48)
    · have hk : k = [] := by
        have := hl.out
        have : n = 48 := by simp at hlt; omega
        cases k with
        | nil => rfl
        | cons a b => simp at *; omega
      subst hk
      have hm : m = ⟨[x], []⟩ := by have := hr.out; cases this; rfl
      subst hm
      clear hl hc hr
      have y2 := h1.row.frozen 2
      have hM2 : Bx (MW (wr.setCell ⟨V.e, 2, none⟩ (I 48)) V fb { E0 with start := 48 } ⟨[x], []⟩) := ⟨by
        obtain ⟨E', h1', a1, a2, a3, a4, -, a6, a7, a8⟩ := hM.out.ex
        exact ⟨{ E' with start := 48 }, h1'.set (E' := { E' with start := 48 }) 2 (I 48) (by intro i hi; rcases i with _ | _ | _ | _ | _ | _ | _ | _ | _ | i <;> first | rfl | omega) rfl rfl rfl rfl, a1, a2, a3, a4, rfl, a6, a7, a8⟩⟩
      have hF2 : Bx (Fr (VS V) w (wr.setCell ⟨V.e, 2, none⟩ (I 48))) := ⟨hF.out.trans (fr_set _ VS.e _ _)⟩
      have hz2 : Bx (Row (wr.setCell ⟨V.e, 2, none⟩ (I 48)) w.heap.size 3 (vC v0)) := ⟨(fr_set wr (V := V) VS.e 2 (I 48)).row hz.out hne0.out⟩
      have hP := Bx.mk (popA V fb { E0 with start := 48 } [] [] x _ hM2.out (by decide))
      clear h1 hM hF hz
      go_wp2_with (first | (go_at_call 220; refine hP.out.mono ?_; clear hP; rintro e w1 ⟨rfl, hM1, hf⟩; have hz1 := Bx.mk (hf.row hz2.out hne0.out); have hM1 := Bx.mk hM1; have hF1 := Bx.mk (hF2.out.trans hf); obtain ⟨c0, c1, c2, y0, y1, y2⟩ := hz1.out.v3; clear hf))
      exact ret_v (p := 4) (g := w.heap.size) (x := x) rfl rfl (v_sets hz1.out x) rfl ⟨rfl, hM1.out.fr (S := fun k => k = w.heap.size) (sets_fr (S := fun k => k = w.heap.size) (.inl rfl) (vA x).toList w1 0 (Fr.refl _ _)) (fun k hk e => by subst e; exact hne0.out hk), sets_fr (S := VS V) (a := w) (b := w.heap.size) (.inr (Nat.le_refl _)) (vA x).toList w1 0 hF1.out⟩
    · have hn48 : n < 48 := by simp at hlt; omega
      obtain ⟨i, k', hk⟩ : ∃ i k', k = i :: k' := by
        cases k with
        | nil => have := hl.out; simp at this; omega
        | cons a b => exact ⟨a, b, rfl⟩
      subst hk
      obtain ⟨m1, hst1, hr1⟩ : ∃ m1, Bx (StepM env i m m1) ∧ Bx (RunM env k' m1 ⟨[x], []⟩) := by
        have := hr.out; cases this with | cons _ _ _ b _ a1 a2 => exact ⟨b, ⟨a1⟩, ⟨a2⟩⟩
      have hci : E.code n = i := by rw [hcd]; exact hc.out.1
      have g0 := h1.code.cell0 n hn48 (by omega)
      have g1 := h1.code.cell n 1 hn48 (by omega)
      have g2 := h1.code.cell n 2 hn48 (by omega)
      have g3 := h1.code.cell n 3 hn48 (by omega)
      have g4 := h1.code.cell n 4 hn48 (by omega)
      have g5 := h1.code.cell n 5 hn48 (by omega)
      simp only [inC, hci] at g0 g1 g2 g3 g4 g5
      have hC : Bx (Calls Tryz.prog 219 #[pt V.e, inV i, sl eb 24 ec] (wr.alloc (.cells (inA i) 235)) (LA (wr.alloc (.cells (inA i) 235)) V fb E0 (.tuple #[]) m1)) := ⟨stepA V fb E0 eb ec env i m m1 _ (hM.out.alloc _) he.out ((hG.out.of hF.out heb.out).of (S := S0) ((Fr.refl S0 _).alloc _) (by simp)) heb.out hst1.out⟩
      have hz' := Bx.mk (hz.out.alloc (.cells (inA i) 235))
      have hF' := Bx.mk (hF.out.alloc (.cells (inA i) 235))
      have hlk : Bx (n + 1 + k'.length = 48) := ⟨by have := hl.out; simp at this; omega⟩
      have hc' := Bx.mk hc.out.2
      clear h1 hci hM hz hF hl hc hr hst1 hcd
      go_wp2_with (first | (go_at_call 219; refine hC.out.mono ?_; clear hC; rintro e w1 ⟨rfl, hM1, hf⟩; have hz1 := Bx.mk (hf.row hz'.out hne0.out); have hM1 := Bx.mk hM1; have hF1 := Bx.mk (hF'.out.trans hf); clear hf))
      go_roundw
      case rel => exact ⟨n + 1, k', m1, rfl, by omega, hlk, hc', hr1, hM1, hz1, hF1⟩
      case measure => simp [intOf]; omega
end Go.Proofs.Qxb6500326aGreat
