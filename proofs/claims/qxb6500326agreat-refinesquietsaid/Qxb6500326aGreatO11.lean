import Derived.Test.Qxb6500326aGreatO12
import Derived.Test.Qxb6500326aGreatS11
import Derived.Test.Qxb6500326aGreatZ8
import Derived.Test.Qxb6500326aGreatK7
namespace Go.Proofs.Qxb6500326aGreat
set_option maxRecDepth 100000
set_option linter.unusedVariables false
set_option linter.unusedSimpArgs false
open Go.RowKit Go.PlainAid

/-! ### a former, real or model -/
structure Fmx (P : World → Prop) (SF : Nat → Prop) : Prop where
  fr : ∀ {S : Nat → Prop} {w w' : World}, P w → Fr S w w' → (∀ k, SF k → ¬ S k) → P w'
  ne : ∀ {w : World} {k : Nat}, P w → w.heap.size ≤ k → ¬ SF k
theorem Fmx.fr0 {P : World → Prop} {SF : Nat → Prop} (h : Fmx P SF) {w w' : World} (hp : P w) (f : Fr S0 w w') : P w' := h.fr hp f (fun _ _ e => e)
theorem fmx_real (B : FB) : Fmx (fun w => FZ w B) (FmS B) := ⟨fun h f hS => FZ.fr h f hS, fun h hk => by obtain ⟨F, hF, -⟩ := h; exact not_fm hF hk⟩
theorem fmx_model (fb : Nat) : Fmx (fun w => MF w fb) (fun k => k = fb) := ⟨fun h f hS => MF.fr h f (hS fb rfl), fun h hk e => by obtain ⟨p, q, t, h⟩ := h; have := h.lt; omega⟩
theorem XL.fr {w w' : World} {B : Nat} {v : Value} {L : List Nd} (h : XL w B v L) {S : Nat → Prop} (f : Fr S w w') (hS : ∀ k, B ≤ k → k < w.heap.size → ¬ S k) : XL w' B v L := by
  rcases h with h | ⟨h0, g, hb, e, hg⟩
  · exact .inl h
  · have hlt := (Array.getElem?_eq_some_iff.1 hg).1
    exact .inr ⟨h0, g, hb, e, by rw [f.block g hlt (hS g hb hlt)]; exact hg⟩
theorem ret_te {fn : Func} {R : Ending → World → Prop} {a : Act} {w : World} {p q : Tmp} {g : Nat} {v u : Value} {x y z : Int} (hr : fn.results = #[.cell p 105, .tmp q]) (hp : a.tmps.getD p undef = pt g) (hq : a.tmps.getD q undef = u) (hrow : Row w g 4 (trC v x y z)) (hd : a.defers = [])
    (hR : R (.returned (.tuple #[.agg #[v, I x, I y, I z], u])) w) : bodyPost Tryz.prog fn R .ret a w := by
  obtain ⟨T, hh⟩ := row4_heap hrow
  refine bodyPost_ret (results_cell_slot hr a.tmps w g T _ (0, 0) _ hp hh Tryz.underlying105 rfl (by rw [Tryz.size105]; rfl)) hd ?_
  rw [hq]
  exact hR
abbrev trZ : Tr := ⟨[], 0, 0, 0⟩
abbrev slZ : Value := .slice none 0 0
theorem tv_trC {w : World} {g : Nat} {v : Value} {t : Tr} (h : Row w g 4 (tvC v t)) : Row w g 4 (trC v t.root t.err t.pos) := h.congr (by intro i hi; rcases i with _ | _ | _ | _ | i <;> first | rfl | omega)
theorem pcut_A {P : World → Prop} {SF : Nat → Prop} (hx : Fmx P SF) {w w1 w2 : World} {t : Tr} {v : Value} {Z : Nat} (hf2 : Fr SF w1 w2) (hX : XL w2 (Z + 1) v t.nodes) (hP : P w2) (hZ : Row w1 Z 4 (tvC slZ trZ)) (hzF : ¬ SF Z) (hf0 : Fr SF w w1) :
    Bx (Row (w2.alloc (.cells (trA v t) 105)) w2.heap.size 4 (tvC v t)) ∧ Bx (XL (w2.alloc (.cells (trA v t) 105)) (Z + 1) v t.nodes) ∧ Bx (P (w2.alloc (.cells (trA v t) 105))) ∧ Bx (Fr SF w (w2.alloc (.cells (trA v t) 105))) ∧ Bx (Row (w2.alloc (.cells (trA v t) 105)) Z 4 (tvC slZ trZ)) ∧ Bx (w2.heap.size ≠ Z) :=
  have hZ2 := hf2.row hZ hzF
  ⟨⟨tv_new w2 v t 105 rfl⟩, ⟨hX.fr ((Fr.refl S0 _).alloc _) (fun _ _ _ e => e)⟩, ⟨hx.fr0 hP ((Fr.refl S0 _).alloc _)⟩, ⟨(hf0.trans hf2).alloc _⟩, ⟨hZ2.alloc _⟩, ⟨by have := hZ2.lt; omega⟩⟩
theorem pcut_B {P : World → Prop} {SF : Nat → Prop} (hx : Fmx P SF) {w w1 w2 : World} {t : Tr} {v : Value} {Z H : Nat} {f : Nat → Value} (hf2 : Fr SF w1 w2) (hX : XL w2 (H + 1) v t.nodes) (hP : P w2) (hZ : Row w1 Z 4 (tvC slZ trZ)) (hzF : ¬ SF Z) (hf0 : Fr SF w w1) (hT : Row w2 H 4 f) (hHF : ¬ SF H) (hH : w.heap.size ≤ H) (hZH : Z < H) :
    Bx (Row (sets w2 H 0 (trA v t).toList) H 4 (tvC v t)) ∧ Bx (XL (sets w2 H 0 (trA v t).toList) (Z + 1) v t.nodes) ∧ Bx (P (sets w2 H 0 (trA v t).toList)) ∧ Bx (Fr SF w (sets w2 H 0 (trA v t).toList)) ∧ Bx (Row (sets w2 H 0 (trA v t).toList) Z 4 (tvC slZ trZ)) ∧ Bx (H ≠ Z) := by
  have hs : Fr (fun k => k = H) w2 (sets w2 H 0 (trA v t).toList) := sets_fr (S := fun k => k = H) (.inl rfl) _ _ _ (Fr.refl _ _)
  exact ⟨⟨tv_sets hT v t⟩, ⟨(hX.fr hs (fun k hk _ e => by omega)).le (by omega)⟩, ⟨hx.fr hP hs (fun k hk e => hHF (e ▸ hk))⟩, ⟨sets_fr (S := SF) (a := w) (b := H) (.inr hH) (trA v t).toList w2 0 (hf0.trans hf2)⟩, ⟨hs.row (hf2.row hZ hzF) (by show ¬ Z = H; omega)⟩, ⟨by omega⟩⟩
/-- What 'tree' answers. -/
def TrP (w : World) (P : World → Prop) (SF : Nat → Prop) (s : ByteArray) : Ending → World → Prop := fun e w' => ∃ sa sn sc t', e = .returned (.tuple #[treeV (.slice sa sn sc) t', .bool (frm s)]) ∧ (frm s = true → t' = tlT s ∧ ∃ g, w.heap.size ≤ g ∧ Value.slice sa sn sc = sl g t'.nodes.length t'.nodes.length ∧ XL w' g (sl g t'.nodes.length t'.nodes.length) t'.nodes) ∧ P w' ∧ Fr SF w w'
theorem Fr.flat {S : Nat → Prop} {w w1 w2 : World} (h : Fr S w1 w2) (e : w1.heap = w.heap) (eo : w1.os = w.os) (et : w1.tape = w.tape) (ep : w1.output = w.output) : Fr S w w2 := ⟨h.os.trans eo, h.tape.trans et, h.output.trans ep, e ▸ h.size, fun k hk hs => by rw [h.block k (by rw [e]; exact hk) hs, e]⟩

set_option maxHeartbeats 8000000 in
theorem xTree_plain {P : World → Prop} {SF : Nat → Prop} (hx : Fmx P SF) (xe fbk : Nat) (s : ByteArray) (w : World) (hc0 : w.cell? ⟨xe, 0, none⟩ = some (pt fbk)) (hxe : xe < w.heap.size) (hP : P w) (hp : isForm s = false) : Calls Tryz.prog 102 #[pt xe, .string s] w (TrP w P SF s) := by
  have hfrm : frm s = false := by unfold frm; rw [hp]; rfl
  have hP1 : Bx (P (w.alloc (.cells (trA slZ trZ) 105))) := ⟨hx.fr0 hP ((Fr.refl S0 _).alloc _)⟩
  unfold TrP
  rw [hfrm]
  cases he : (s.toList == [])
  · have h61 : (bt s 0 != 61) = true := by simp only [isForm, he] at hp; simpa [bne] using hp
    have hpos := size_pos he
    have hb := get_bt s 0 hpos
    have hl0 : ((s.size : Int) == 0) = false := beq_false_of_ne (by omega)
    go_enter Tryz.func102, Tryz.ntmps102
    go_wp2
    exact ret_te (p := 4) (q := 5) (g := w.heap.size) (u := .bool false) rfl rfl rfl (tr_new w slZ 0 0 0 rfl) rfl ⟨none, 0, 0, trZ, rfl, fun h => by (cases h), hP1.out, (Fr.refl _ _).alloc _⟩
  · have hs0 : s.size = 0 := by
      have : s.toList = [] := by simpa using he
      have := congrArg List.length this
      simpa [ByteArray.toList_eq] using this
    have hl0 : ((s.size : Int) == 0) = true := by rw [hs0]; rfl
    have hs0 := Bx.mk hs0
    go_enter Tryz.func102, Tryz.ntmps102
    go_wp2
    exact ret_te (p := 4) (q := 5) (g := w.heap.size) (u := .bool false) rfl rfl rfl (tr_new w slZ 0 0 0 rfl) rfl ⟨none, 0, 0, trZ, rfl, fun h => by (cases h), hP1.out, (Fr.refl _ _).alloc _⟩
set_option maxHeartbeats 8000000 in
theorem xTree_form {P : World → Prop} {SF : Nat → Prop} (hx : Fmx P SF) (xe fbk : Nat) (s : ByteArray) (w : World) (hc0 : w.cell? ⟨xe, 0, none⟩ = some (pt fbk)) (hxe : xe < w.heap.size) (hP : P w)
    (hA : ∀ w, P w → Calls Tryz.prog 130 #[pt fbk, .string (s.extract 1 s.size)] w fun e w' => ∃ v', e = .returned (treeV v' (tlT s)) ∧ XL w' w.heap.size v' (tlT s).nodes ∧ P w' ∧ Fr SF w w') (hp : isForm s = true) : Calls Tryz.prog 102 #[pt xe, .string s] w (TrP w P SF s) := by
  have hfrm : frm s = ((tlT s).err == 0) := by unfold frm; rw [hp]; rfl
  have hne0 : (tlT s).err = 0 → (tlT s).nodes ≠ [] := fun h e => by
    have := (frm_tree (frm_iff.2 ⟨hp, h⟩)).1.one
    rw [e] at this; simp at this
  unfold TrP
  rw [hfrm]
  clear hfrm
  have he : (s.toList == []) = false := by simp only [isForm, Bool.and_eq_true, Bool.not_eq_true'] at hp; exact hp.1
  have h61 : (bt s 0 != 61) = false := by simp only [isForm, Bool.and_eq_true] at hp; simpa [bne] using hp.2
  have hpos := size_pos he
  have hb := get_bt s 0 hpos
  have hl0 : ((s.size : Int) == 0) = false := beq_false_of_ne (by omega)
  have hA := Bx.mk hA
  have hne0 := Bx.mk hne0
  generalize tlT s = t at *
  have hzF : Bx (¬ SF w.heap.size) := ⟨hx.ne hP (Nat.le_refl _)⟩
  have hHF : Bx (¬ SF (w.heap.size + 1)) := ⟨hx.ne hP (by omega)⟩
  have hf0 : Fr S0 w (w.alloc (.cells (trA slZ trZ) 105)) := (Fr.refl _ _).alloc _
  have hPD : Bx (P (w.alloc (.cells (trA slZ trZ) 105)).drew) := ⟨hx.fr0 hP hf0.drew⟩
  have hPA : Bx (∀ o, P ((w.alloc (.cells (trA slZ trZ) 105)).alloc o).drew) := ⟨fun o => hx.fr0 hP (hf0.alloc o).drew⟩
  have hfD : Bx (Fr SF w (w.alloc (.cells (trA slZ trZ) 105)).drew) := ⟨hf0.up.drew⟩
  have hfA : Bx (∀ o, Fr SF w ((w.alloc (.cells (trA slZ trZ) 105)).alloc o).drew) := ⟨fun o => (hf0.up.alloc o).drew⟩
  have hZD : Bx (Row (w.alloc (.cells (trA slZ trZ) 105)).drew w.heap.size 4 (tvC slZ trZ)) := ⟨(tv_new w _ _ _ rfl).drew⟩
  have hZA : Bx (∀ o, Row ((w.alloc (.cells (trA slZ trZ) 105)).alloc o).drew w.heap.size 4 (tvC slZ trZ)) := ⟨fun o => ((tv_new w _ _ _ rfl).alloc o).drew⟩
  have hTA : Bx (Row ((w.alloc (.cells (trA slZ trZ) 105)).alloc (.cells (trA slZ trZ) 105)).drew (w.heap.size + 1) 4 (tvC slZ trZ)) := ⟨(tv_new _ _ _ _ (by simp)).drew⟩
  clear hP hp hf0
  go_enter Tryz.func102, Tryz.ntmps102
  go_upto_region 5 with fail
  go_cut [6] from 22 (fun c wx => ∃ (H : Nat) (sa : Option Addr) (sn sc : Nat), c = pt H ∧ Bx (Row wx H 4 (tvC (.slice sa sn sc) t)) ∧ Bx (XL wx (w.heap.size + 1) (.slice sa sn sc) t.nodes) ∧ Bx (P wx) ∧ Bx (Fr SF w wx) ∧ Bx (Row wx w.heap.size 4 (tvC slZ trZ)) ∧ Bx (H ≠ w.heap.size))
  case first =>
    go_region_with (first
          | (go_at_call 130; refine (hA.out _ hPD.out).mono ?_; rintro e w2 ⟨v', rfl, hX, hM2, hf2⟩; obtain ⟨sa, sn, sc, rfl⟩ := hX.slice; have hX := Bx.mk (hX.le (B' := w.heap.size + 1) (by simp)); have hM2 := Bx.mk hM2; have hf2 := Bx.mk hf2)
          | (go_at_call 130; refine (hA.out _ (hPA.out _)).mono ?_; rintro e w2 ⟨v', rfl, hX, hM2, hf2⟩; obtain ⟨sa, sn, sc, rfl⟩ := hX.slice; have hX := hX.le (B' := w.heap.size + 1 + 1) (by simp); have hT2 := Bx.mk (hf2.row hTA.out hHF.out); obtain ⟨x0, x1, x2, x3⟩ := hT2.out.tr4; have y0 := hT2.out.frozen 0; have y1 := hT2.out.frozen 1; have y2 := hT2.out.frozen 2; have y3 := hT2.out.frozen 3; have hX := Bx.mk hX; have hM2 := Bx.mk hM2; have hf2 := Bx.mk hf2))
    all_goals (first | go_wp2_with fail | skip)
    all_goals go_meet
    all_goals first
          | (have hT9 := hT2.out
             have hfin := pcut_B hx (w := w) (w2 := w2) (t := t) (v := .slice sa sn sc) hf2.out hX.out hM2.out (hZA.out _) hzF.out (hfA.out _) hT9 hHF.out (by omega) (by omega)
             exact ⟨w.heap.size + 1, sa, sn, sc, rfl, hfin⟩)
          | (have hfin := pcut_A hx (w := w) (w2 := w2) (t := t) (v := .slice sa sn sc) hf2.out hX.out hM2.out hZD.out hzF.out hfD.out
             exact ⟨w2.heap.size, sa, sn, sc, rfl, hfin⟩)
  case rest =>
    clear hA hPD hPA hfD hfA hZD hZA hTA hc0 hxe
    obtain ⟨H, sa, sn, sc, rfl, hT, hX, hPw, hF, hZ, hHZ⟩ := hcut
    obtain ⟨x0, x1, x2, x3⟩ := hT.out.tr4
    obtain ⟨m0, m1, m2, m3⟩ := hZ.out.tr4
    have y0 := hZ.out.frozen 0
    have y1 := hZ.out.frozen 1
    have y2 := hZ.out.frozen 2
    have y3 := hZ.out.frozen 3
    have hl1 := hT.out.lt
    have hl2 := hZ.out.lt
    have hHZ2 := hHZ.out
    go_wp2_with fail
    go_region
    go_wp2_with fail
    have fs : Fr (fun k => k = w.heap.size) wc (sets wc w.heap.size 0 (trA (.slice sa sn sc) t).toList).drew := (sets_fr (S := fun k => k = w.heap.size) (a := wc) (b := w.heap.size) (.inl rfl) (trA (.slice sa sn sc) t).toList wc 0 (Fr.refl _ _)).drew
    have fF : Fr SF w (sets wc w.heap.size 0 (trA (.slice sa sn sc) t).toList).drew := (sets_fr (S := SF) (a := w) (b := w.heap.size) (.inr (Nat.le_refl _)) (trA (.slice sa sn sc) t).toList wc 0 hF.out).drew
    have hX2 : XL (sets wc w.heap.size 0 (trA (.slice sa sn sc) t).toList).drew (w.heap.size + 1) (.slice sa sn sc) t.nodes := hX.out.fr fs (fun k hk _ e => by omega)
    refine ret_te (p := 4) (q := 5) (g := w.heap.size) (u := .bool (t.err == 0)) rfl rfl rfl (tv_trC (tv_sets hZ.out (.slice sa sn sc) t)) rfl ⟨sa, sn, sc, t, rfl, fun h => ⟨rfl, ?_⟩, hx.fr hPw.out fs (fun k hk e => hzF.out (e ▸ hk)), fF⟩
    rcases hX2 with ⟨e, -⟩ | ⟨h0, g, hg, e, hh⟩
    · exact absurd e (hne0.out (by simpa using h))
    · exact ⟨g, by omega, e, .inr ⟨h0, g, Nat.le_refl _, rfl, hh⟩⟩

set_option maxHeartbeats 8000000 in
theorem mTree_plain {P : World → Prop} {SF : Nat → Prop} (hx : Fmx P SF) (xe fbk : Nat) (s : ByteArray) (w : World) (hc0 : w.cell? ⟨xe, 0, none⟩ = some (pt fbk)) (hxe : xe < w.heap.size) (hP : P w) (hp : isForm s = false) : Calls Tryz.prog 76 #[pt xe, .string s] w (TrP w P SF s) := by
  have hfrm : frm s = false := by unfold frm; rw [hp]; rfl
  have hP1 : Bx (P (w.alloc (.cells (trA slZ trZ) 105))) := ⟨hx.fr0 hP ((Fr.refl S0 _).alloc _)⟩
  unfold TrP
  rw [hfrm]
  cases he : (s.toList == [])
  · have h61 : (bt s 0 != 61) = true := by simp only [isForm, he] at hp; simpa [bne] using hp
    have hpos := size_pos he
    have hb := get_bt s 0 hpos
    have hl0 : ((s.size : Int) == 0) = false := beq_false_of_ne (by omega)
    go_enter Tryz.func76, Tryz.ntmps76
    go_wp2
    exact ret_te (p := 4) (q := 5) (g := w.heap.size) (u := .bool false) rfl rfl rfl (tr_new w slZ 0 0 0 rfl) rfl ⟨none, 0, 0, trZ, rfl, fun h => by (cases h), hP1.out, (Fr.refl _ _).alloc _⟩
  · have hs0 : s.size = 0 := by
      have : s.toList = [] := by simpa using he
      have := congrArg List.length this
      simpa [ByteArray.toList_eq] using this
    have hl0 : ((s.size : Int) == 0) = true := by rw [hs0]; rfl
    have hs0 := Bx.mk hs0
    go_enter Tryz.func76, Tryz.ntmps76
    go_wp2
    exact ret_te (p := 4) (q := 5) (g := w.heap.size) (u := .bool false) rfl rfl rfl (tr_new w slZ 0 0 0 rfl) rfl ⟨none, 0, 0, trZ, rfl, fun h => by (cases h), hP1.out, (Fr.refl _ _).alloc _⟩
set_option maxHeartbeats 8000000 in
theorem mTree_form {P : World → Prop} {SF : Nat → Prop} (hx : Fmx P SF) (xe fbk : Nat) (s : ByteArray) (w : World) (hc0 : w.cell? ⟨xe, 0, none⟩ = some (pt fbk)) (hxe : xe < w.heap.size) (hP : P w)
    (hA : ∀ w, P w → Calls Tryz.prog 109 #[pt fbk, .string (s.extract 1 s.size)] w fun e w' => ∃ v', e = .returned (treeV v' (tlT s)) ∧ XL w' w.heap.size v' (tlT s).nodes ∧ P w' ∧ Fr SF w w') (hp : isForm s = true) : Calls Tryz.prog 76 #[pt xe, .string s] w (TrP w P SF s) := by
  have hfrm : frm s = ((tlT s).err == 0) := by unfold frm; rw [hp]; rfl
  have hne0 : (tlT s).err = 0 → (tlT s).nodes ≠ [] := fun h e => by
    have := (frm_tree (frm_iff.2 ⟨hp, h⟩)).1.one
    rw [e] at this; simp at this
  unfold TrP
  rw [hfrm]
  clear hfrm
  have he : (s.toList == []) = false := by simp only [isForm, Bool.and_eq_true, Bool.not_eq_true'] at hp; exact hp.1
  have h61 : (bt s 0 != 61) = false := by simp only [isForm, Bool.and_eq_true] at hp; simpa [bne] using hp.2
  have hpos := size_pos he
  have hb := get_bt s 0 hpos
  have hl0 : ((s.size : Int) == 0) = false := beq_false_of_ne (by omega)
  have hA := Bx.mk hA
  have hne0 := Bx.mk hne0
  generalize tlT s = t at *
  have hzF : Bx (¬ SF w.heap.size) := ⟨hx.ne hP (Nat.le_refl _)⟩
  have hHF : Bx (¬ SF (w.heap.size + 1)) := ⟨hx.ne hP (by omega)⟩
  have hf0 : Fr S0 w (w.alloc (.cells (trA slZ trZ) 105)) := (Fr.refl _ _).alloc _
  have hPD : Bx (P (w.alloc (.cells (trA slZ trZ) 105)).drew) := ⟨hx.fr0 hP hf0.drew⟩
  have hPA : Bx (∀ o, P ((w.alloc (.cells (trA slZ trZ) 105)).alloc o).drew) := ⟨fun o => hx.fr0 hP (hf0.alloc o).drew⟩
  have hfD : Bx (Fr SF w (w.alloc (.cells (trA slZ trZ) 105)).drew) := ⟨hf0.up.drew⟩
  have hfA : Bx (∀ o, Fr SF w ((w.alloc (.cells (trA slZ trZ) 105)).alloc o).drew) := ⟨fun o => (hf0.up.alloc o).drew⟩
  have hZD : Bx (Row (w.alloc (.cells (trA slZ trZ) 105)).drew w.heap.size 4 (tvC slZ trZ)) := ⟨(tv_new w _ _ _ rfl).drew⟩
  have hZA : Bx (∀ o, Row ((w.alloc (.cells (trA slZ trZ) 105)).alloc o).drew w.heap.size 4 (tvC slZ trZ)) := ⟨fun o => ((tv_new w _ _ _ rfl).alloc o).drew⟩
  have hTA : Bx (Row ((w.alloc (.cells (trA slZ trZ) 105)).alloc (.cells (trA slZ trZ) 105)).drew (w.heap.size + 1) 4 (tvC slZ trZ)) := ⟨(tv_new _ _ _ _ (by simp)).drew⟩
  clear hP hp hf0
  go_enter Tryz.func76, Tryz.ntmps76
  go_upto_region 3 with fail
  go_cut [6] from 22 (fun c wx => ∃ (H : Nat) (sa : Option Addr) (sn sc : Nat), c = pt H ∧ Bx (Row wx H 4 (tvC (.slice sa sn sc) t)) ∧ Bx (XL wx (w.heap.size + 1) (.slice sa sn sc) t.nodes) ∧ Bx (P wx) ∧ Bx (Fr SF w wx) ∧ Bx (Row wx w.heap.size 4 (tvC slZ trZ)) ∧ Bx (H ≠ w.heap.size))
  case first =>
    go_region_with (first
          | (go_at_call 109; refine (hA.out _ hPD.out).mono ?_; rintro e w2 ⟨v', rfl, hX, hM2, hf2⟩; obtain ⟨sa, sn, sc, rfl⟩ := hX.slice; have hX := Bx.mk (hX.le (B' := w.heap.size + 1) (by simp)); have hM2 := Bx.mk hM2; have hf2 := Bx.mk hf2)
          | (go_at_call 109; refine (hA.out _ (hPA.out _)).mono ?_; rintro e w2 ⟨v', rfl, hX, hM2, hf2⟩; obtain ⟨sa, sn, sc, rfl⟩ := hX.slice; have hX := hX.le (B' := w.heap.size + 1 + 1) (by simp); have hT2 := Bx.mk (hf2.row hTA.out hHF.out); obtain ⟨x0, x1, x2, x3⟩ := hT2.out.tr4; have y0 := hT2.out.frozen 0; have y1 := hT2.out.frozen 1; have y2 := hT2.out.frozen 2; have y3 := hT2.out.frozen 3; have hX := Bx.mk hX; have hM2 := Bx.mk hM2; have hf2 := Bx.mk hf2))
    all_goals (first | go_wp2_with fail | skip)
    all_goals go_meet
    all_goals first
          | (have hT9 := hT2.out
             have hfin := pcut_B hx (w := w) (w2 := w2) (t := t) (v := .slice sa sn sc) hf2.out hX.out hM2.out (hZA.out _) hzF.out (hfA.out _) hT9 hHF.out (by omega) (by omega)
             exact ⟨w.heap.size + 1, sa, sn, sc, rfl, hfin⟩)
          | (have hfin := pcut_A hx (w := w) (w2 := w2) (t := t) (v := .slice sa sn sc) hf2.out hX.out hM2.out hZD.out hzF.out hfD.out
             exact ⟨w2.heap.size, sa, sn, sc, rfl, hfin⟩)
  case rest =>
    clear hA hPD hPA hfD hfA hZD hZA hTA hc0 hxe
    obtain ⟨H, sa, sn, sc, rfl, hT, hX, hPw, hF, hZ, hHZ⟩ := hcut
    obtain ⟨x0, x1, x2, x3⟩ := hT.out.tr4
    obtain ⟨m0, m1, m2, m3⟩ := hZ.out.tr4
    have y0 := hZ.out.frozen 0
    have y1 := hZ.out.frozen 1
    have y2 := hZ.out.frozen 2
    have y3 := hZ.out.frozen 3
    have hl1 := hT.out.lt
    have hl2 := hZ.out.lt
    have hHZ2 := hHZ.out
    go_wp2_with fail
    go_region
    go_wp2_with fail
    have fs : Fr (fun k => k = w.heap.size) wc (sets wc w.heap.size 0 (trA (.slice sa sn sc) t).toList).drew := (sets_fr (S := fun k => k = w.heap.size) (a := wc) (b := w.heap.size) (.inl rfl) (trA (.slice sa sn sc) t).toList wc 0 (Fr.refl _ _)).drew
    have fF : Fr SF w (sets wc w.heap.size 0 (trA (.slice sa sn sc) t).toList).drew := (sets_fr (S := SF) (a := w) (b := w.heap.size) (.inr (Nat.le_refl _)) (trA (.slice sa sn sc) t).toList wc 0 hF.out).drew
    have hX2 : XL (sets wc w.heap.size 0 (trA (.slice sa sn sc) t).toList).drew (w.heap.size + 1) (.slice sa sn sc) t.nodes := hX.out.fr fs (fun k hk _ e => by omega)
    refine ret_te (p := 4) (q := 5) (g := w.heap.size) (u := .bool (t.err == 0)) rfl rfl rfl (tv_trC (tv_sets hZ.out (.slice sa sn sc) t)) rfl ⟨sa, sn, sc, t, rfl, fun h => ⟨rfl, ?_⟩, hx.fr hPw.out fs (fun k hk e => hzF.out (e ▸ hk)), fF⟩
    rcases hX2 with ⟨e, -⟩ | ⟨h0, g, hg, e, hh⟩
    · exact absurd e (hne0.out (by simpa using h))
    · exact ⟨g, by omega, e, .inr ⟨h0, g, Nat.le_refl _, rfl, hh⟩⟩

set_option maxHeartbeats 8000000 in
theorem xText_any {P : World → Prop} {SF : Nat → Prop} (hx : Fmx P SF) (xe fbk g n : Nat) (t : Tr) (w : World) (hc0 : w.cell? ⟨xe, 0, none⟩ = some (pt fbk)) (hxe : xe < w.heap.size) (hP : P w) (hX : XL w g (sl g n n) t.nodes) (hg : ¬ SF g) (hgl : g < w.heap.size)
    (hA : ∀ w, P w → XL w g (sl g n n) t.nodes → Calls Tryz.prog 134 #[pt fbk, treeV (sl g n n) t] w fun e w' => e = .returned (.tuple #[.string (bs (printOf t)), I 0]) ∧ P w' ∧ Fr SF w w') (hl : (printOf t).length ≤ 1000) :
    Calls Tryz.prog 104 #[pt xe, treeV (sl g n n) t] w fun e w' => e = .returned (.string (eqS (printOf t))) ∧ P w' ∧ Fr SF w w' := by
  have hf0 : Fr S0 w (w.alloc (.cells (trA (sl g n n) t) 105)) := (Fr.refl _ _).alloc _
  have hA := Bx.mk (hA _ (hx.fr0 hP hf0.drew) (hX.fr hf0.drew (fun _ _ _ e => e)))
  have hf0 := Bx.mk hf0
  clear hP hX
  generalize printOf t = L at *
  go_enter Tryz.func104, Tryz.ntmps104
  go_wp2_with fail
  refine region_cut (fun w' => Bx (P w') ∧ Bx (Fr SF w w')) ?_
  apply Exists.intro
  apply And.intro
  · go_region_with (first | (go_at_call 134; refine hA.out.mono ?_; rintro e w2 ⟨rfl, hm2, hf2⟩; have hm2 := Bx.mk hm2; have hf2 := Bx.mk ((hf0.out.up.drew).trans hf2)))
    all_goals exact ⟨rfl, hm2, hf2⟩
  rintro w2 ⟨hm2, hf2⟩
  go_wp2_with (first | (refine wpList_add_str rfl (.const (.string ⟨#[61]⟩)) (.tmp 16) (by rfl) [61] L (by rfl) (by rfl) (by simp; omega) ?_))
  go_ret
  exact ⟨rfl, hm2.out, hf2.out⟩

set_option maxHeartbeats 8000000 in
theorem mText_any {P : World → Prop} {SF : Nat → Prop} (hx : Fmx P SF) (xe fbk g n : Nat) (t : Tr) (w : World) (hc0 : w.cell? ⟨xe, 0, none⟩ = some (pt fbk)) (hxe : xe < w.heap.size) (hP : P w) (hX : XL w g (sl g n n) t.nodes) (hg : ¬ SF g) (hgl : g < w.heap.size)
    (hA : ∀ w, P w → XL w g (sl g n n) t.nodes → Calls Tryz.prog 112 #[pt fbk, treeV (sl g n n) t] w fun e w' => e = .returned (.tuple #[.string (bs (printOf t)), I 0]) ∧ P w' ∧ Fr SF w w') (hl : (printOf t).length ≤ 1000) :
    Calls Tryz.prog 78 #[pt xe, treeV (sl g n n) t] w fun e w' => e = .returned (.string (eqS (printOf t))) ∧ P w' ∧ Fr SF w w' := by
  have hf0 : Fr S0 w (w.alloc (.cells (trA (sl g n n) t) 105)) := (Fr.refl _ _).alloc _
  have hA := Bx.mk (hA _ (hx.fr0 hP hf0.drew) (hX.fr hf0.drew (fun _ _ _ e => e)))
  have hf0 := Bx.mk hf0
  clear hP hX
  generalize printOf t = L at *
  go_enter Tryz.func78, Tryz.ntmps78
  go_wp2_with fail
  refine region_cut (fun w' => Bx (P w') ∧ Bx (Fr SF w w')) ?_
  apply Exists.intro
  apply And.intro
  · go_region_with (first | (go_at_call 112; refine hA.out.mono ?_; rintro e w2 ⟨rfl, hm2, hf2⟩; have hm2 := Bx.mk hm2; have hf2 := Bx.mk ((hf0.out.up.drew).trans hf2)))
    all_goals exact ⟨rfl, hm2, hf2⟩
  rintro w2 ⟨hm2, hf2⟩
  go_wp2_with (first | (refine wpList_add_str rfl (.const (.string ⟨#[61]⟩)) (.tmp 16) (by rfl) [61] L (by rfl) (by rfl) (by simp; omega) ?_))
  go_ret
  exact ⟨rfl, hm2.out, hf2.out⟩
end Go.Proofs.Qxb6500326aGreat
