import Derived.Test.Qxb6500326aGreatR15
import Derived.Test.Qxb6500326aGreatD3
namespace Go.Proofs.Qxb6500326aGreat
set_option maxRecDepth 100000
set_option linter.unusedVariables false
set_option linter.unusedSimpArgs false
open Go.RowKit Go.PlainAid

/-- The evaluator between calls, over its former. -/
structure EZ (w : World) (V : VB) (B : FB) : Prop where
  ex : ∃ E, EM w V B.f E ∧ E.start = 48 ∧ E.top = 0 ∧ E.deep = 0
  fz : FZ w B
  dj : ∀ k, VS V k → ¬ FmS B k
def VF (V : VB) (B : FB) : Nat → Prop := fun k => VS V k ∨ FmS B k
theorem EZ.fr {w w' : World} {V : VB} {B : FB} (h : EZ w V B) {S : Nat → Prop} (f : Fr S w w') (hS : ∀ k, VF V B k → ¬ S k) : EZ w' V B := by
  obtain ⟨E, h1, h2⟩ := h.ex
  exact ⟨⟨E, h1.fr f (fun k hk => hS k (.inl hk)), h2⟩, h.fz.fr f (fun k hk => hS k (.inr hk)), h.dj⟩
theorem EZ.fr0 {w w' : World} {V : VB} {B : FB} (h : EZ w V B) (f : Fr S0 w w') : EZ w' V B := h.fr f (fun _ _ => id)
theorem EZ.ne {w : World} {V : VB} {B : FB} (h : EZ w V B) {k : Nat} (hk : w.heap.size ≤ k) : ¬ VF V B k := by
  obtain ⟨E, h1, -⟩ := h.ex
  obtain ⟨F, hF, -⟩ := h.fz
  rintro (e | e)
  · exact h1.ne hk e
  · exact not_fm hF hk e
theorem parsed_A3 {w w1 w2 : World} {B : FB} {t : Tr} {v' : Value} (hf2 : Fr (FmS B) w1 w2) (hX : XL w2 w.heap.size v' t.nodes) (hM2 : FZ w2 B) (ht : t.err = 0 → t.nodes ≠ []) (hf0 : Fr (FmS B) w w1) :
    Bx (Row (w2.alloc (.cells (trA v' t) 105)) w2.heap.size 4 (tvC v' t)) ∧ Bx (t.err = 0 → ∃ g, w.heap.size ≤ g ∧ v' = sl g t.nodes.length t.nodes.length ∧ NG (w2.alloc (.cells (trA v' t) 105)) g t.nodes) ∧ Bx (FZ (w2.alloc (.cells (trA v' t) 105)) B) ∧ Bx (Fr (FmS B) w (w2.alloc (.cells (trA v' t) 105))) := by
  refine ⟨⟨tv_new w2 v' t 105 rfl⟩, ⟨fun h => ?_⟩, ⟨hM2.fr0 ((Fr.refl S0 _).alloc _)⟩, ⟨(hf0.trans hf2).alloc _⟩⟩
  obtain ⟨g, hg, e, hN⟩ := hX.ng (ht h)
  exact ⟨g, hg, e, hN.fr (S := S0) ((Fr.refl S0 _).alloc _) (by simp)⟩
theorem parsed_B3 {w w1 w2 : World} {B : FB} {H : Nat} {t : Tr} {v' : Value} {f : Nat → Value} (hf2 : Fr (FmS B) w1 w2) (hX : XL w2 (H + 1) v' t.nodes) (hM2 : FZ w2 B) (ht : t.err = 0 → t.nodes ≠ []) (hH : w.heap.size ≤ H) (hfH : ¬ FmS B H) (hf0 : Fr (FmS B) w w1) (hT : Row w2 H 4 f) :
    Bx (Row (sets w2 H 0 (trA v' t).toList) H 4 (tvC v' t)) ∧ Bx (t.err = 0 → ∃ g, w.heap.size ≤ g ∧ v' = sl g t.nodes.length t.nodes.length ∧ NG (sets w2 H 0 (trA v' t).toList) g t.nodes) ∧ Bx (FZ (sets w2 H 0 (trA v' t).toList) B) ∧ Bx (Fr (FmS B) w (sets w2 H 0 (trA v' t).toList)) := by
  have hs : Fr (fun k => k = H) w2 (sets w2 H 0 (trA v' t).toList) := sets_fr (S := fun k => k = H) (.inl rfl) _ _ _ (Fr.refl _ _)
  refine ⟨⟨tv_sets hT v' t⟩, ⟨fun h => ?_⟩, ⟨hM2.fr hs (fun k hk e => by subst e; exact hfH hk)⟩, ⟨sets_fr (S := FmS B) (a := w) (b := H) (.inr hH) (trA v' t).toList w2 0 (hf0.trans hf2)⟩⟩
  obtain ⟨g, hg, e, hN⟩ := hX.ng (ht h)
  exact ⟨g, by omega, e, hN.fr hs (by show ¬ g = H; omega)⟩
set_option maxHeartbeats 8000000 in
theorem loadV (V : VB) (B : FB) (s : ByteArray) (w : World) (h : EZ w V B) (hp : isForm s = true) :
    Calls Tryz.prog 153 #[pt V.e, .string s] w fun e w' => (((tlT s).err ≠ 0 ∧ e = .returned (.bool false) ∧ EZ w' V B) ∨ ((tlT s).err = 0 ∧ e = .returned (.bool true) ∧ (∃ ow, CW w' V B.f (desc (tlT s).nodes 0 (tlT s).nodes.length ⟨ow, [], 0#32⟩)) ∧ FZ w' B)) ∧ Fr (VF V B) w w' := by
  have he : (s.toList == []) = false := by simp only [isForm, Bool.and_eq_true, Bool.not_eq_true'] at hp; exact hp.1
  have hpos := size_pos he
  have hlaw := parse_law (bt (tlS s)) (tlS s).size
  have hP : Bx (∀ w, FZ w B → Calls Tryz.prog 130 #[pt B.f, .string (s.extract 1 s.size)] w fun e w' => ∃ v', e = .returned (treeV v' (tlT s)) ∧ XL w' w.heap.size v' (tlT s).nodes ∧ FZ w' B ∧ Fr (FmS B) w w') := ⟨fun w h => parseX B (tlS s) w h⟩
  have hlaw : Bx (((tlT s).err = 0 ∧ TreeOK (tlT s)) ∨ ((tlT s).err ≠ 0 ∧ (tlT s).nodes = [])) := ⟨by rcases hlaw with ⟨a, b, -⟩ | ⟨a, b, -⟩; exact .inl ⟨a, b⟩; exact .inr ⟨a, b⟩⟩
  generalize tlT s = t at hP hlaw ⊢
  clear hp he
  have ht0 : Bx (t.err = 0 → t.nodes ≠ []) := ⟨fun h e => by
    rcases hlaw.out with ⟨-, h2⟩ | ⟨h2, -⟩
    · have := h2.one; rw [e] at this; simp at this
    · exact h2 h⟩
  obtain ⟨E, h1, h2, h3, h4⟩ := h.ex
  obtain ⟨c0, -⟩ := h1.ev9
  have hl1 := h1.row.lt
  have hfw : ¬ FmS B w.heap.size := fun e => h.ne (Nat.le_refl _) (.inr e)
  have hfw := Bx.mk hfw
  have hmfD : Bx (FZ w.drew B) := ⟨h.fz.fr0 ((Fr.refl _ _).drew)⟩
  have hmfA : Bx (∀ o, FZ (w.alloc o).drew B) := ⟨fun o => h.fz.fr0 ((Fr.refl S0 _).alloc _).drew⟩
  have hfD : Bx (Fr (FmS B) w w.drew) := ⟨(Fr.refl _ _).drew⟩
  have hfA : Bx (∀ o, Fr (FmS B) w (w.alloc o).drew) := ⟨fun o => ((Fr.refl _ _).alloc o).drew⟩
  have hTA : Bx (Row (w.alloc (.cells (trA (.slice none 0 0) ⟨[], 0, 0, 0⟩) 105)).drew w.heap.size 4 (tvC (.slice none 0 0) ⟨[], 0, 0, 0⟩)) := ⟨(tv_new _ _ _ _ rfl).drew⟩
  have hE1 := Bx.mk h1
  have h3 := Bx.mk h3
  have h4 := Bx.mk h4
  have h2 := Bx.mk h2
  have hdj := Bx.mk h.dj
  clear h h1
  go_enter Tryz.func153, Tryz.ntmps153
  go_upto_region 1 with fail
  go_cut [5] from 6 (fun c wx => ∃ (H : Nat) (v' : Value), c = pt H ∧ Bx (Row wx H 4 (tvC v' t)) ∧ Bx (t.err = 0 → ∃ g, w.heap.size ≤ g ∧ v' = sl g t.nodes.length t.nodes.length ∧ NG wx g t.nodes) ∧ Bx (FZ wx B) ∧ Bx (Fr (FmS B) w wx))
  case first =>
    go_region_with (first
          | (go_at_call 130; refine (hP.out _ hmfD.out).mono ?_; rintro e w2 ⟨v', rfl, hX, hM2, hf2⟩; obtain ⟨sa, sn, sc, rfl⟩ := hX.slice; have hX := Bx.mk (show XL w2 w.heap.size (.slice sa sn sc) t.nodes from hX); have hM2 := Bx.mk hM2; have hf2 := Bx.mk hf2)
          | (go_at_call 130; refine (hP.out _ (hmfA.out _)).mono ?_; rintro e w2 ⟨v', rfl, hX, hM2, hf2⟩; obtain ⟨sa, sn, sc, rfl⟩ := hX.slice; have hX := hX.le (B' := w.heap.size + 1) (by simp); have hT2 := Bx.mk (hf2.row hTA.out hfw.out); obtain ⟨x0, x1, x2, x3⟩ := hT2.out.tr4; have y0 := hT2.out.frozen 0; have y1 := hT2.out.frozen 1; have y2 := hT2.out.frozen 2; have y3 := hT2.out.frozen 3; have hX := Bx.mk hX; have hM2 := Bx.mk hM2; have hf2 := Bx.mk hf2))
    all_goals (first | go_wp2_with fail | skip)
    all_goals go_meet
    all_goals first
          | (have hT9 := hT2.out
             have hfin := parsed_B3 (w := w) (w2 := w2) (t := t) (v' := .slice sa sn sc) hf2.out hX.out hM2.out ht0.out (Nat.le_refl _) hfw.out (hfA.out _) hT9
             exact ⟨w.heap.size, .slice sa sn sc, rfl, hfin⟩)
          | (have hfin := parsed_A3 (w := w) (w2 := w2) (t := t) (v' := .slice sa sn sc) hf2.out hX.out hM2.out ht0.out hfD.out
             exact ⟨w2.heap.size, .slice sa sn sc, rfl, hfin⟩)
  case rest =>
    clear hP hmfD hmfA hfD hfA hTA c0 hl1
    obtain ⟨H, v', rfl, hT, hGn, hMf, hFf⟩ := hcut
    obtain ⟨x0, x1, x2, x3⟩ := hT.out.tr4
    have hE2 := Bx.mk (hE1.out.fr hFf.out hdj.out)
    have hFv : Bx (Fr (VF V B) w wc) := ⟨hFf.out.mono (fun k hk => .inr hk)⟩
    cases hE : (t.err != 0)
    · have he0 : t.err = 0 := by simpa [bne] using hE
      obtain ⟨g, hgw, rfl, hN⟩ := hGn.out he0
      have hto : TreeOK t := by
        rcases hlaw.out with ⟨-, h2⟩ | ⟨h2, -⟩
        · exact h2
        · exact (h2 he0).elim
      have hC : Bx (Calls Tryz.prog 182 #[pt V.e, sl g t.nodes.length t.nodes.length] wc (LC wc V B.f (desc t.nodes 0 t.nodes.length ⟨E.ow, [], 0#32⟩))) := ⟨compileA V B.f E t.nodes g _ wc hE2.out h3.out h4.out hN (hE1.out.ne hgw) hto.max hto.one (fun j hj => sp_cmp _ _ _ _ hto.sp j (Nat.zero_le _) (by omega))⟩
      have he0 := Bx.mk he0
      clear hGn hN hto
      go_wp2_with (first | (go_at_call 182; refine hC.out.mono ?_; clear hC; rintro e w3 ⟨rfl, hM3, hf⟩))
      go_ret
      exact ⟨.inr ⟨he0.out, rfl, ⟨E.ow, hM3⟩, hMf.out.fr hf (fun k hk e => hdj.out k e hk)⟩, hFv.out.trans (hf.mono (fun k hk => .inl hk))⟩
    · have hne : Bx (t.err ≠ 0) := ⟨by simpa [bne] using hE⟩
      go_wp2
      go_ret
      exact ⟨.inl ⟨hne.out, rfl, ⟨E, hE2.out, h2.out, h3.out, h4.out⟩, hMf.out, hdj.out⟩, hFv.out⟩
end Go.Proofs.Qxb6500326aGreat
