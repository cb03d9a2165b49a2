import Derived.Test.Qxb6500326aGreatO4
import Derived.Test.Qxb6500326aGreatB9
namespace Go.Proofs.Qxb6500326aGreat
set_option maxRecDepth 100000
set_option linter.unusedVariables false
set_option linter.unusedSimpArgs false
open Go.RowKit Go.PlainAid

/-! ### the whole arena -/
theorem moveN_3 {rows ins : Bool} {at_ : Int} {x : Nd} (h3 : x.kind = 3) (hg : inGrid x.r1 = true) : moveN rows ins at_ x = moveRf rows ins at_ x := by unfold moveN; rw [if_pos ⟨h3, hg⟩]
theorem moveN_3o {rows ins : Bool} {at_ : Int} {x : Nd} (h3 : x.kind = 3) (hg : inGrid x.r1 = false) : moveN rows ins at_ x = x := by unfold moveN; rw [if_neg (by rw [hg]; simp), if_neg (by rw [h3]; simp)]
theorem moveN_4 {rows ins : Bool} {at_ : Int} {x : Nd} (h4 : x.kind = 4) (hg : inGrid x.r1 = true) (hg2 : inGrid x.r2 = true) : moveN rows ins at_ x = moveRg rows ins at_ x := by unfold moveN; rw [if_neg (by rw [h4]; simp), if_pos ⟨h4, by simp [blockOK, hg, hg2]⟩]
theorem moveN_4o {rows ins : Bool} {at_ : Int} {x : Nd} (h4 : x.kind = 4) (hg : (inGrid x.r1 && inGrid x.r2) = false) : moveN rows ins at_ x = x := by unfold moveN; rw [if_neg (by rw [h4]; simp), if_neg (by unfold blockOK; rw [hg]; simp)]
theorem moveN_o {rows ins : Bool} {at_ : Int} {x : Nd} (h3 : x.kind ≠ 3) (h4 : x.kind ≠ 4) : moveN rows ins at_ x = x := by unfold moveN; rw [if_neg (fun e => h3 e.1), if_neg (fun e => h4 e.1)]
/-- k nodes are rewritten. -/
def upTo (f : Nd → Nd) (L : Nat → Nd) (k j : Nat) : Nd := if j < k then f (L j) else L j
theorem upTo_at (f : Nd → Nd) (L : Nat → Nd) (k : Nat) : upTo f L k k = L k := by unfold upTo; rw [if_neg (by omega)]
theorem upTo_upd (f : Nd → Nd) (L : Nat → Nd) (k : Nat) {x : Nd} (hx : f (L k) = x) (j : Nat) : upd (upTo f L k) k x j = upTo f L (k + 1) j := by
  unfold upd upTo
  by_cases e : j = k
  · subst e; rw [if_pos rfl, if_pos (by omega), hx]
  · rw [if_neg e]
    by_cases e2 : j < k
    · rw [if_pos e2, if_pos (by omega)]
    · rw [if_neg e2, if_neg (by omega)]
theorem upTo_same (f : Nd → Nd) (L : Nat → Nd) (k : Nat) (hx : f (L k) = L k) (j : Nat) : upTo f L k j = upTo f L (k + 1) j := by
  unfold upTo
  by_cases e : j = k
  · subst e; rw [if_neg (by omega), if_pos (by omega), hx]
  · by_cases e2 : j < k
    · rw [if_pos e2, if_pos (by omega)]
    · rw [if_neg e2, if_neg (by omega)]

set_option maxHeartbeats 8000000 in
theorem shiftAll_any (rows ins : Bool) (at_ : Int) (g n : Nat) (L : Nat → Nd) (w : World) (ha : 0 ≤ at_) (han : at_ < nAx rows) (h : AG w g n L) (hn : n ≤ 24) :
    Calls Tryz.prog 103 #[gpV rows ins at_, sl g n n] w fun e w' => e = .returned (.tuple #[]) ∧ AG w' g n (fun j => moveN rows ins at_ (L j)) ∧ Fr (fun k => k = g) w w' := by
  have hgl := h.lt
  have hN0 := Bx.mk (h.fr0 ((Fr.refl S0 w).alloc (.cells (gpA rows ins at_) 133)))
  have hfr0 := Bx.mk ((Fr.refl (fun k => k = g) w).alloc (.cells (gpA rows ins at_) 133))
  have hgp0 := Bx.mk (gp_new w rows ins at_ 133 rfl)
  have hgne : Bx (w.heap.size ≠ g) := ⟨by omega⟩
  clear h
  have hG : Bx (∀ (r : Ref) (b : Bool) wx, inGrid r = b → Calls Tryz.prog 131 #[refV r] wx fun e w' => e = .returned (.bool b) ∧ Fr S0 wx w') := ⟨fun r b wx e => e ▸ inGrid_any r wx⟩
  have hSR : Bx (∀ (M : Nat → Nd) (j : Nat) wx, AG wx g n M → j < n → inGrid (M j).r1 = true → Calls Tryz.prog 132 #[gpV rows ins at_, ep g j] wx fun e w' => e = .returned (.tuple #[]) ∧ AG w' g n (upd M j (moveRf rows ins at_ (M j))) ∧ Fr (fun k => k = g) wx w') := ⟨fun M j wx h hj hi => shiftRef_any rows ins at_ g n j M wx ha han h hj hi⟩
  have hSG : Bx (∀ (M : Nat → Nd) (j : Nat) wx, AG wx g n M → j < n → inGrid (M j).r1 = true → inGrid (M j).r2 = true → Calls Tryz.prog 133 #[gpV rows ins at_, ep g j] wx fun e w' => e = .returned (.tuple #[]) ∧ AG w' g n (upd M j (moveRg rows ins at_ (M j))) ∧ Fr (fun k => k = g) wx w') := ⟨fun M j wx h hj hi hi2 => shiftRange_any rows ins at_ g n j M wx ha han h hj hi hi2⟩
  clear ha han
  go_enter Tryz.func103, Tryz.ntmps103
  go_wp2_with fail
  go_loopw [4] (fun c wr => ∃ k : Nat, k ≤ n ∧ c = I (k : Int) ∧ Bx (AG wr g n (upTo (moveN rows ins at_) L k)) ∧ Bx (Row wr w.heap.size 4 (gpC rows ins at_)) ∧ Bx (Fr (fun k => k = g) w wr)) (fun c _ => n - (intOf c).toNat)
  case atStart => exact ⟨0, by omega, rfl, ⟨hN0.out.congr (fun j _ => by unfold upTo; rw [if_neg (by omega)])⟩, hgp0, hfr0⟩
  case round =>
    clear hN0 hgp0 hfr0
    obtain ⟨k, hk, rfl, hN, hgp, hf⟩ := hrel
    have hk24 : k ≤ 24 := by omega
    cases hlt : decide ((k : Int) < (n : Int))
    · have hkn : k = n := by simp at hlt; omega
      go_wp2_with fail
      go_end0
      exact ⟨rfl, hN.out.congr (fun j hj => by unfold upTo; rw [if_pos (by omega)]), hf.out⟩
    · have hkn : k < n := by simp at hlt; omega
      obtain ⟨x, hxL⟩ : ∃ x, L k = x := ⟨_, rfl⟩
      have hxL := Bx.mk hxL
      have hxk : Bx (upTo (moveN rows ins at_) L k k = x) := ⟨by rw [upTo_at, hxL.out]⟩
      obtain ⟨k0, k1, k2, k3, k4, k5, k6, k7, k8, k9, k10, k11, k12⟩ := hN.out.cells hkn hxk.out
      obtain ⟨b0, b1, b2, b3⟩ := hgp.out.gp4
      have hl1 := hN.out.lt
      have hl2 := hgp.out.lt
      cases h3 : (x.kind == 3)
      · cases h4 : (x.kind == 4)
        · have HX : moveN rows ins at_ x = x := moveN_o (by simpa using h3) (by simpa using h4)
          have HX := Bx.mk HX
          go_wp2_with fail
          go_roundw
          case rel => exact ⟨k + 1, by omega, by go_num, ⟨hN.out.congr (fun j _ => upTo_same _ _ _ (by rw [hxL.out]; exact HX.out) j)⟩, hgp, hf⟩
          case measure => simp [intOf]; omega
        · cases hg1 : inGrid x.r1
          · have HX := Bx.mk (moveN_4o (rows := rows) (ins := ins) (at_ := at_) (x := x) (by simpa using h4) (by rw [hg1]; rfl))
            go_wp2_with (first
              | (go_at_call 131; refine (hG.out x.r1 false _ hg1).mono ?_; clear hG; rintro e w1 ⟨rfl, hf1⟩; have hN := Bx.mk (hN.out.fr0 hf1); have hf := Bx.mk (hf.out.trans hf1.up); have hgp := Bx.mk (hf1.row0 hgp.out); obtain ⟨b0, b1, b2, b3⟩ := hgp.out.gp4; obtain ⟨k0, k1, k2, k3, k4, k5, k6, k7, k8, k9, k10, k11, k12⟩ := hN.out.cells hkn hxk.out; have hl1 := hN.out.lt; have hl2 := hgp.out.lt; clear hf1))
            go_roundw
            case rel => exact ⟨k + 1, by omega, by go_num, ⟨hN.out.congr (fun j _ => upTo_same _ _ _ (by rw [hxL.out]; exact HX.out) j)⟩, hgp, hf⟩
            case measure => simp [intOf]; omega
          · cases hg2 : inGrid x.r2
            · have HX := Bx.mk (moveN_4o (rows := rows) (ins := ins) (at_ := at_) (x := x) (by simpa using h4) (by rw [hg1, hg2]; rfl))
              have hG2 := hG
              go_wp2_with (first
                | (go_at_call 131; refine (hG.out x.r1 true _ hg1).mono ?_; clear hG; rintro e w1 ⟨rfl, hf1⟩; have hN := Bx.mk (hN.out.fr0 hf1); have hf := Bx.mk (hf.out.trans hf1.up); have hgp := Bx.mk (hf1.row0 hgp.out); obtain ⟨b0, b1, b2, b3⟩ := hgp.out.gp4; obtain ⟨k0, k1, k2, k3, k4, k5, k6, k7, k8, k9, k10, k11, k12⟩ := hN.out.cells hkn hxk.out; have hl1 := hN.out.lt; have hl2 := hgp.out.lt; clear hf1)
                | (go_at_call 131; refine (hG2.out x.r2 false _ hg2).mono ?_; clear hG2; rintro e w1 ⟨rfl, hf1⟩; have hN := Bx.mk (hN.out.fr0 hf1); have hf := Bx.mk (hf.out.trans hf1.up); have hgp := Bx.mk (hf1.row0 hgp.out); obtain ⟨b0, b1, b2, b3⟩ := hgp.out.gp4; obtain ⟨k0, k1, k2, k3, k4, k5, k6, k7, k8, k9, k10, k11, k12⟩ := hN.out.cells hkn hxk.out; have hl1 := hN.out.lt; have hl2 := hgp.out.lt; clear hf1))
              go_roundw
              case rel => exact ⟨k + 1, by omega, by go_num, ⟨hN.out.congr (fun j _ => upTo_same _ _ _ (by rw [hxL.out]; exact HX.out) j)⟩, hgp, hf⟩
              case measure => simp [intOf]; omega
            · have HX := Bx.mk (moveN_4 (rows := rows) (ins := ins) (at_ := at_) (x := x) (by simpa using h4) hg1 hg2)
              have hG2 := hG
              go_wp2_with (first
                | (go_at_call 131; refine (hG.out x.r1 true _ hg1).mono ?_; clear hG; rintro e w1 ⟨rfl, hf1⟩; have hN := Bx.mk (hN.out.fr0 hf1); have hf := Bx.mk (hf.out.trans hf1.up); have hgp := Bx.mk (hf1.row0 hgp.out); obtain ⟨b0, b1, b2, b3⟩ := hgp.out.gp4; obtain ⟨k0, k1, k2, k3, k4, k5, k6, k7, k8, k9, k10, k11, k12⟩ := hN.out.cells hkn hxk.out; have hl1 := hN.out.lt; have hl2 := hgp.out.lt; clear hf1)
                | (go_at_call 131; refine (hG2.out x.r2 true _ hg2).mono ?_; clear hG2; rintro e w1 ⟨rfl, hf1⟩; have hN := Bx.mk (hN.out.fr0 hf1); have hf := Bx.mk (hf.out.trans hf1.up); have hgp := Bx.mk (hf1.row0 hgp.out); obtain ⟨b0, b1, b2, b3⟩ := hgp.out.gp4; obtain ⟨k0, k1, k2, k3, k4, k5, k6, k7, k8, k9, k10, k11, k12⟩ := hN.out.cells hkn hxk.out; have hl1 := hN.out.lt; have hl2 := hgp.out.lt; clear hf1)
                | (go_at_call 133; refine (hSG.out _ k _ hN.out hkn (by rw [hxk.out]; exact hg1) (by rw [hxk.out]; exact hg2)).mono ?_; clear hSG; rintro e w2 ⟨rfl, hN2, hf2⟩; have hN2 := Bx.mk (hxk.out ▸ hN2); have hgp2 := Bx.mk (hf2.row hgp.out hgne.out); have hf2 := Bx.mk (hf.out.trans hf2)))
              go_roundw
              case rel => exact ⟨k + 1, by omega, by go_num, ⟨hN2.out.congr (fun j _ => upTo_upd _ _ _ (by rw [hxL.out]; exact HX.out) j)⟩, hgp2, hf2⟩
              case measure => simp [intOf]; omega
      · have h4 : (x.kind == 4) = false := by have : x.kind = 3 := (by simpa using h3); rw [this]; rfl
        cases hg1 : inGrid x.r1
        · have HX := Bx.mk (moveN_3o (rows := rows) (ins := ins) (at_ := at_) (x := x) (by simpa using h3) hg1)
          go_wp2_with (first
            | (go_at_call 131; refine (hG.out x.r1 false _ hg1).mono ?_; clear hG; rintro e w1 ⟨rfl, hf1⟩; have hN := Bx.mk (hN.out.fr0 hf1); have hf := Bx.mk (hf.out.trans hf1.up); have hgp := Bx.mk (hf1.row0 hgp.out); obtain ⟨b0, b1, b2, b3⟩ := hgp.out.gp4; obtain ⟨k0, k1, k2, k3, k4, k5, k6, k7, k8, k9, k10, k11, k12⟩ := hN.out.cells hkn hxk.out; have hl1 := hN.out.lt; have hl2 := hgp.out.lt; clear hf1))
          go_roundw
          case rel => exact ⟨k + 1, by omega, by go_num, ⟨hN.out.congr (fun j _ => upTo_same _ _ _ (by rw [hxL.out]; exact HX.out) j)⟩, hgp, hf⟩
          case measure => simp [intOf]; omega
        · have HX := Bx.mk (moveN_3 (rows := rows) (ins := ins) (at_ := at_) (x := x) (by simpa using h3) hg1)
          go_wp2_with (first
            | (go_at_call 131; refine (hG.out x.r1 true _ hg1).mono ?_; clear hG; rintro e w1 ⟨rfl, hf1⟩; have hN := Bx.mk (hN.out.fr0 hf1); have hf := Bx.mk (hf.out.trans hf1.up); have hgp := Bx.mk (hf1.row0 hgp.out); obtain ⟨b0, b1, b2, b3⟩ := hgp.out.gp4; obtain ⟨k0, k1, k2, k3, k4, k5, k6, k7, k8, k9, k10, k11, k12⟩ := hN.out.cells hkn hxk.out; have hl1 := hN.out.lt; have hl2 := hgp.out.lt; clear hf1)
            | (go_at_call 132; refine (hSR.out _ k _ hN.out hkn (by rw [hxk.out]; exact hg1)).mono ?_; clear hSR; rintro e w2 ⟨rfl, hN2, hf2⟩; have hN2 := Bx.mk (hxk.out ▸ hN2); have hgp2 := Bx.mk (hf2.row hgp.out hgne.out); have hf2 := Bx.mk (hf.out.trans hf2)))
          go_roundw
          case rel => exact ⟨k + 1, by omega, by go_num, ⟨hN2.out.congr (fun j _ => upTo_upd _ _ _ (by rw [hxL.out]; exact HX.out) j)⟩, hgp2, hf2⟩
          case measure => simp [intOf]; omega
end Go.Proofs.Qxb6500326aGreat
