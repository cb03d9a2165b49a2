import Derived.Test.Qxb6500326aGreatR3
import Derived.Deep.RegionWith
namespace Go.Proofs.Qxb6500326aGreat
set_option maxRecDepth 100000
set_option linter.unusedVariables false
set_option linter.unusedSimpArgs false
open Go.RowKit Go.PlainAid

set_option maxHeartbeats 4000000 in
theorem takeV_err (V : VB) (fb : Nat) (E : Evr) (n k : Nat) (t : Tl) (f : Int) (v : Vl) (r : Bool) (w : World) (h : EM w V fb E) (hd : E.deep = n + 1) (hn : n < 24) (hft : E.fol n = t) (hk : k ≤ 700) (htb : TB k t) (lv : Lw v) (hf1 : 1 ≤ f) (hf2 : tallies f = true) (h1 : (t.bad.kind == 4) = false) (h2 : (v.kind == 4) = false) (hw : ((f == 6 || f == 7) = true ∧ (v.kind == 3) = false) ∨ ((f == 6 || f == 7) = false ∧ (v.kind == 0) = false ∧ (v.kind == 1) = false ∧ r = false)) :
    Calls Tryz.prog 240 #[pt V.e, I f, vV v, .bool r] w (Lv w V fb (.tuple #[]) { E with fol := upd E.fol n (takeT f t v r) }) := by
  have hU : takeT f t v r = { t with bad := vErr 5 } := by
    rcases hw with ⟨h3, h4⟩ | ⟨h3, h4, h5, h6⟩
    · unfold takeT; rw [h1, h2, h3, h4]; rfl
    · unfold takeT; rw [h1, h2, h3, h4, h5, h6]; rfl
  rw [hU]
  obtain ⟨-, -, -, -, -, -, -, c7, c8⟩ := h.ev9
  rw [hd] at c8
  obtain ⟨l1, l2, l3, l4, l5⟩ := h.lts
  obtain ⟨t0, t1, t2, t3, t4⟩ := h.fol5 hn hft
  obtain ⟨z0, z1, z2, z3, z4⟩ := h.fol5z n
  have hw1 : IntKind.i64.wrap (((n + 1 : Nat) : Int) - 1) = (n : Int) := by simp [IntKind.wrap, IntKind.bits, IntKind.signed]; omega
  have hE := Bx.mk h
  have hft := Bx.mk hft
  clear h hU hd htb lv hf1 hf2 hk
  have hA38 : Bx (∀ w, Calls Tryz.prog 139 #[I 5] w (VR w (vErr 5))) := ⟨fun w => err_any 5 w⟩
  rcases hw with ⟨h3, h4⟩ | ⟨h3, h4, h5, h6⟩
  · have h4' : (v.kind != 3) = true := by simp [bne, h4]
    cases o7 : (f == 7) <;> cases o6 : (f == 6)
    all_goals first | (exfalso; rw [o7, o6] at h3; cases h3; done) | skip
    all_goals clear h3
    all_goals go_enter Tryz.func240, Tryz.ntmps240
    all_goals go_wp2_with fail
    all_goals go_region_with (first | (go_at_call 139; refine (hA38.out _).mono ?_; rintro e w1 ⟨rfl, hf⟩; have hA := Bx.mk ((hE.out.alloc (.cells (vA v) 92)).drew.fr0 hf); obtain ⟨u0, u1, u2, u3, u4⟩ := hA.out.fol5 hn hft.out; obtain ⟨y0, y1, y2, y3, y4⟩ := hA.out.fol5z n; obtain ⟨-, -, -, -, -, -, -, d7, d8⟩ := hA.out.ev9; ))
    all_goals go_wp2
    all_goals go_end0
    all_goals exact ⟨rfl, hA.out.badFol n (vErr 5) hft.out, (((Fr.refl _ _).alloc _).drew.trans hf.up).trans (fr_bad w1 V n (vErr 5))⟩
  · have h3' : (f == 6) = false ∧ (f == 7) = false := by simpa using h3
    obtain ⟨o6, o7⟩ := h3'
    have h5' : (v.kind != 1) = true := by simp [bne, h5]
    subst h6
    clear h3
    go_enter Tryz.func240, Tryz.ntmps240
    go_wp2_with fail
    go_region_with (first | (go_at_call 139; refine (hA38.out _).mono ?_; rintro e w1 ⟨rfl, hf⟩; have hA := Bx.mk ((hE.out.alloc (.cells (vA v) 92)).drew.fr0 hf); obtain ⟨u0, u1, u2, u3, u4⟩ := hA.out.fol5 hn hft.out; obtain ⟨y0, y1, y2, y3, y4⟩ := hA.out.fol5z n; obtain ⟨-, -, -, -, -, -, -, d7, d8⟩ := hA.out.ev9; ))
    all_goals go_wp2
    all_goals go_end0
    all_goals exact ⟨rfl, hA.out.badFol n (vErr 5) hft.out, (((Fr.refl _ _).alloc _).drew.trans hf.up).trans (fr_bad w1 V n (vErr 5))⟩
end Go.Proofs.Qxb6500326aGreat
