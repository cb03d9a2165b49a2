import Derived.Test.Qxb6500326aGreatD2
import Derived.Deep.CutRange
import Derived.Deep.RegionWith
namespace Go.Proofs.Qxb6500326aGreat
set_option maxRecDepth 100000
set_option linter.unusedVariables false
set_option linter.unusedSimpArgs false
open Go.RowKit Go.PlainAid

theorem results_cell_slot {P : Program} {fn : Func} {p q : Tmp} {ty : TypeId} (h : fn.results = #[.cell p ty, .tmp q]) (tmps : Array Value) (w : World) (g : Nat) (t : TypeId) (cs : Array Value) (fr : Nat × Nat) (d : TypeDesc)
    (hp : tmps.getD p undef = .pointer (some ⟨g, 0, none⟩)) (hg : w.heap[g]? = some (.cells cs t fr))
    (hu : P.underlying ty = some d) (hd : (match d with | .struct _ | .array _ _ => true | _ => false) = true) (hi : (P.info? ty).map (·.size) = some cs.size) :
    (results fn tmps).run P w = .ok (.tuple #[.agg cs, tmps.getD q undef]) w := by
  have hp' : tmps[p]?.getD undef = .pointer (some ⟨g, 0, none⟩) := by simpa using hp
  simp [results, h, hp', asAddr, run_loadVar_row w g t ty cs fr d hg hu hd hi]
theorem ret_ve {fn : Func} {R : Ending → World → Prop} {a : Act} {w : World} {p q : Tmp} {g : Nat} {x : Vl} {u : Value} (hr : fn.results = #[.cell p 92, .tmp q]) (hp : a.tmps.getD p undef = pt g) (hq : a.tmps.getD q undef = u) (hrow : Row w g 3 (vC x)) (hd : a.defers = [])
    (hR : R (.returned (.tuple #[vV x, u])) w) : bodyPost Tryz.prog fn R .ret a w := by
  obtain ⟨T, hh⟩ := v_heap hrow
  refine bodyPost_ret (results_cell_slot hr a.tmps w g T _ (0, 0) _ hp hh Tryz.underlying92 rfl (by rw [Tryz.size92]; rfl)) hd ?_
  rw [hq]
  exact hR
/-- The model: its former lies in block fb. -/
def meC (fb : Nat) (c r : Int) : Nat → Value
  | 0 => pt fb
  | 1 => I c
  | _ => I r
structure MEv (w : World) (mb fb : Nat) : Prop where
  row : ∃ c r, Row w mb 3 (meC fb c r)
  mf : MF w fb
  ne : mb ≠ fb
theorem MEv.fr {S : Nat → Prop} {w w' : World} {mb fb : Nat} (h : MEv w mb fb) (f : Fr S w w') (h1 : ¬ S mb) (h2 : ¬ S fb) : MEv w' mb fb := by
  obtain ⟨c, r, hr⟩ := h.row
  exact ⟨⟨c, r, f.row hr h1⟩, h.mf.fr f h2, h.ne⟩
abbrev MeS (mb fb : Nat) : Nat → Prop := fun k => k = mb ∨ k = fb
/-- What stands behind the sign '='. -/
def tlS (s : ByteArray) : ByteArray := s.extract 1 s.size
def tlT (s : ByteArray) : Tr := parseM (bt (tlS s)) (tlS s).size
/-- The text is a formula. -/
def isForm (s : ByteArray) : Bool := !(s.toList == []) && (bt s 0 == 61)
theorem size_pos {s : ByteArray} (he : (s.toList == []) = false) : 0 < s.size := by
  rcases Nat.eq_zero_or_pos s.size with e | e
  · exfalso
    have h := size_empty (s := s)
    rw [e] at h
    have : s.toList = [] := by simpa using h
    rw [this] at he; cases he
  · exact e

theorem parsed_A {w w1 w2 : World} {mb fb B : Nat} {c r : Int} {t : Tr} {v' : Value} (hf2 : Fr (fun k => k = fb) w1 w2) (hX : XL w2 B v' t.nodes) (hM2 : MF w2 fb) (ht : t.err = 0 → t.nodes ≠ []) (hne : mb ≠ fb) (hme : Row w1 mb 3 (meC fb c r)) (hf0 : Fr (MeS mb fb) w w1) :
    Bx (Row (w2.alloc (.cells (trA v' t) 105)) w2.heap.size 4 (tvC v' t)) ∧ Bx (t.err = 0 → ∃ g, v' = sl g t.nodes.length t.nodes.length ∧ NG (w2.alloc (.cells (trA v' t) 105)) g t.nodes) ∧ Bx (MEv (w2.alloc (.cells (trA v' t) 105)) mb fb) ∧ Bx (Fr (MeS mb fb) w (w2.alloc (.cells (trA v' t) 105))) := by
  refine ⟨⟨tv_new w2 v' t 105 rfl⟩, ⟨fun h => ?_⟩, ⟨⟨c, r, (hf2.row hme hne).alloc _⟩, hM2.fr (S := S0) ((Fr.refl S0 _).alloc _) (by simp), hne⟩, ⟨(hf0.trans (hf2.mono (fun k hk => .inr hk))).alloc _⟩⟩
  obtain ⟨g, -, e, hN⟩ := hX.ng (ht h)
  exact ⟨g, e, hN.fr (S := S0) ((Fr.refl S0 _).alloc _) (by simp)⟩
theorem XL.le {w : World} {B B' : Nat} {v : Value} {L : List Nd} (h : XL w B v L) (hB : B' ≤ B) : XL w B' v L := by
  rcases h with h | ⟨h0, g, hb, rest⟩
  · exact .inl h
  · exact .inr ⟨h0, g, Nat.le_trans hB hb, rest⟩
theorem tv_sets {w : World} {b : Nat} {f : Nat → Value} (h : Row w b 4 f) (v : Value) (t : Tr) : Row (sets w b 0 (trA v t).toList) b 4 (tvC v t) :=
  (sets_row (trA v t).toList w 0 f h).congr (by
    intro i hi
    have : i = 0 ∨ i = 1 ∨ i = 2 ∨ i = 3 := by omega
    rcases this with e | e | e | e <;> subst e <;> rfl)
theorem parsed_B {w w1 w2 : World} {mb fb B H : Nat} {c r : Int} {t : Tr} {v' : Value} {f : Nat → Value} (hf2 : Fr (fun k => k = fb) w1 w2) (hX : XL w2 B v' t.nodes) (hM2 : MF w2 fb) (ht : t.err = 0 → t.nodes ≠ []) (hne : mb ≠ fb) (hB : H < B) (hH : w.heap.size ≤ H) (hmH : mb < w.heap.size) (hfH : fb < w.heap.size) (hme : Row w1 mb 3 (meC fb c r)) (hf0 : Fr (MeS mb fb) w w1) (hT : Row w2 H 4 f) :
    Bx (Row (sets w2 H 0 (trA v' t).toList) H 4 (tvC v' t)) ∧ Bx (t.err = 0 → ∃ g, v' = sl g t.nodes.length t.nodes.length ∧ NG (sets w2 H 0 (trA v' t).toList) g t.nodes) ∧ Bx (MEv (sets w2 H 0 (trA v' t).toList) mb fb) ∧ Bx (Fr (MeS mb fb) w (sets w2 H 0 (trA v' t).toList)) := by
  have hs : Fr (fun k => k = H) w2 (sets w2 H 0 (trA v' t).toList) := sets_fr (S := fun k => k = H) (.inl rfl) _ _ _ (Fr.refl _ _)
  refine ⟨⟨tv_sets hT v' t⟩, ⟨fun h => ?_⟩, ⟨⟨c, r, hs.row (hf2.row hme hne) (by show ¬ mb = H; omega)⟩, hM2.fr hs (by show ¬ fb = H; omega), hne⟩, ⟨sets_fr (S := MeS mb fb) (a := w) (b := H) (.inr hH) (trA v' t).toList w2 0 (hf0.trans (hf2.mono (fun k hk => .inr hk)))⟩⟩
  obtain ⟨g, hg, e, hN⟩ := hX.ng (ht h)
  exact ⟨g, e, hN.fr hs (by show ¬ g = H; omega)⟩

set_option maxHeartbeats 2000000 in
theorem readsM_long (mb fb : Nat) (s : ByteArray) (w : World) (hm : MEv w mb fb) (hs : 40 < s.size) : Calls Tryz.prog 165 #[pt mb, .string s] w (fun e w' => e = .returned (.tuple #[U 0#32, I 1]) ∧ MEv w' mb fb ∧ Fr (MeS mb fb) w w') := by
  obtain ⟨⟨c, r, hrow⟩, hmf, hne⟩ := hm
  have c0 := hrow.cell 0 (by omega)
  have c2 := hrow.cell 2 (by omega)
  have z2 := hrow.frozen 2
  simp only [meC] at c0 c2
  have hlt := hrow.lt
  have hme : ∀ v, Row (w.setCell ⟨mb, 2, none⟩ (I v)) mb 3 (meC fb c v) := fun v => (hrow.set 2 (I v)).congr (by intro i hi; rcases i with _ | _ | _ | i <;> first | rfl | omega)
  have hf0 : ∀ v, Fr (MeS mb fb) w (w.setCell ⟨mb, 2, none⟩ (I v)) := fun v => (Fr.refl (MeS mb fb) w).setCell (p := ⟨mb, 2, none⟩) (.inl (.inl rfl)) _
  have hmf0 : ∀ v, MF (w.setCell ⟨mb, 2, none⟩ (I v)) fb := fun v => hmf.fr (S := fun k => k = mb) ((Fr.refl (fun k => k = mb) w).setCell (p := ⟨mb, 2, none⟩) (.inl rfl) _) (fun e => hne e.symm)
  have hme := Bx.mk hme
  have hf0 := Bx.mk hf0
  have hmf0 := Bx.mk hmf0
  clear hrow hmf
  have hsd : decide (40 < (s.size : Int)) = true := by simp; omega
  clear hs
  go_enter Tryz.func165, Tryz.ntmps165
  go_wp2
  go_ret2
  exact ⟨rfl, ⟨⟨c, _, hme.out _⟩, hmf0.out _, hne⟩, hf0.out _⟩
set_option maxHeartbeats 2000000 in
theorem readsM_plain (mb fb : Nat) (s : ByteArray) (w : World) (hm : MEv w mb fb) (hs : s.size ≤ 40) (hp : isForm s = false) : Calls Tryz.prog 165 #[pt mb, .string s] w (fun e w' => e = .returned (.tuple #[U 0#32, I 0]) ∧ MEv w' mb fb ∧ Fr (MeS mb fb) w w') := by
  obtain ⟨⟨c, r, hrow⟩, hmf, hne⟩ := hm
  have c0 := hrow.cell 0 (by omega)
  have c2 := hrow.cell 2 (by omega)
  have z2 := hrow.frozen 2
  simp only [meC] at c0 c2
  have hlt := hrow.lt
  have hme : ∀ v, Row (w.setCell ⟨mb, 2, none⟩ (I v)) mb 3 (meC fb c v) := fun v => (hrow.set 2 (I v)).congr (by intro i hi; rcases i with _ | _ | _ | i <;> first | rfl | omega)
  have hf0 : ∀ v, Fr (MeS mb fb) w (w.setCell ⟨mb, 2, none⟩ (I v)) := fun v => (Fr.refl (MeS mb fb) w).setCell (p := ⟨mb, 2, none⟩) (.inl (.inl rfl)) _
  have hmf0 : ∀ v, MF (w.setCell ⟨mb, 2, none⟩ (I v)) fb := fun v => hmf.fr (S := fun k => k = mb) ((Fr.refl (fun k => k = mb) w).setCell (p := ⟨mb, 2, none⟩) (.inl rfl) _) (fun e => hne e.symm)
  have hme := Bx.mk hme
  have hf0 := Bx.mk hf0
  have hmf0 := Bx.mk hmf0
  clear hrow hmf
  have hsd : decide (40 < (s.size : Int)) = false := by simp; omega
  cases he : (s.toList == [])
  · have h61 : (bt s 0 != 61) = true := by simp only [isForm, he] at hp; simpa [bne] using hp
    have hpos := size_pos he
    have hb := get_bt s 0 hpos
    clear hp
    go_enter Tryz.func165, Tryz.ntmps165
    go_wp2
    go_ret2
    exact ⟨rfl, ⟨⟨c, _, hme.out _⟩, hmf0.out _, hne⟩, hf0.out _⟩
  · obtain rfl : s = es := empty_es.1 (by simpa using he)
    clear he hs hp hsd
    go_enter Tryz.func165, Tryz.ntmps165
    go_wp2
    go_ret2
    exact ⟨rfl, ⟨⟨c, _, hme.out _⟩, hmf0.out _, hne⟩, hf0.out _⟩
set_option maxHeartbeats 4000000 in
theorem readsM_form (mb fb : Nat) (s : ByteArray) (w : World) (hm : MEv w mb fb) (hs : s.size ≤ 40) (hp : isForm s = true) : Calls Tryz.prog 165 #[pt mb, .string s] w (fun e w' => e = .returned (.tuple #[U (rdS (tlT s).nodes 0 (tlT s).nodes.length), I 0]) ∧ MEv w' mb fb ∧ Fr (MeS mb fb) w w') := by
  obtain ⟨⟨c, r, hrow⟩, hmf, hne⟩ := hm
  have c0 := hrow.cell 0 (by omega)
  have c2 := hrow.cell 2 (by omega)
  have z2 := hrow.frozen 2
  simp only [meC] at c0 c2
  have hlt := hrow.lt
  have hme : ∀ v, Row (w.setCell ⟨mb, 2, none⟩ (I v)) mb 3 (meC fb c v) := fun v => (hrow.set 2 (I v)).congr (by intro i hi; rcases i with _ | _ | _ | i <;> first | rfl | omega)
  have hf0 : ∀ v, Fr (MeS mb fb) w (w.setCell ⟨mb, 2, none⟩ (I v)) := fun v => (Fr.refl (MeS mb fb) w).setCell (p := ⟨mb, 2, none⟩) (.inl (.inl rfl)) _
  have hmf0 : ∀ v, MF (w.setCell ⟨mb, 2, none⟩ (I v)) fb := fun v => hmf.fr (S := fun k => k = mb) ((Fr.refl (fun k => k = mb) w).setCell (p := ⟨mb, 2, none⟩) (.inl rfl) _) (fun e => hne e.symm)
  have hme := Bx.mk hme
  have hf0 := Bx.mk hf0
  have hmf0 := Bx.mk hmf0
  clear hrow hmf
  have hsd : decide (40 < (s.size : Int)) = false := by simp; omega
  have he : (s.toList == []) = false := by simp only [isForm, Bool.and_eq_true, Bool.not_eq_true'] at hp; exact hp.1
  have h61 : (bt s 0 != 61) = false := by simp only [isForm, Bool.and_eq_true] at hp; simpa [bne] using hp.2
  have hpos := size_pos he
  have hb := get_bt s 0 hpos
  have hlaw := parse_law (bt (tlS s)) (tlS s).size
  have hP : Bx (∀ w, MF w fb → Calls Tryz.prog 109 #[pt fb, .string (s.extract 1 s.size)] w fun e w' => ∃ v', e = .returned (treeV v' (tlT s)) ∧ XL w' w.heap.size v' (tlT s).nodes ∧ MF w' fb ∧ Fr (fun k => k = fb) w w') := ⟨fun w h => parseM_any fb (tlS s) w h⟩
  have hlaw : Bx (((tlT s).err = 0 ∧ TreeOK (tlT s)) ∨ ((tlT s).err ≠ 0 ∧ (tlT s).nodes = [])) := ⟨by rcases hlaw with ⟨a, b, -⟩ | ⟨a, b, -⟩; exact .inl ⟨a, b⟩; exact .inr ⟨a, b⟩⟩
  generalize tlT s = t at hP hlaw
  clear hp
  have ht0 : Bx (t.err = 0 → t.nodes ≠ []) := ⟨fun h e => by
    rcases hlaw.out with ⟨-, h2⟩ | ⟨h2, -⟩
    · have := h2.one; rw [e] at this; simp at this
    · exact h2 h⟩
  have hmfA : Bx (∀ v o, MF ((w.setCell ⟨mb, 2, none⟩ (I v)).alloc o).drew fb) := ⟨fun v o => (hmf0.out v).fr (S := S0) ((Fr.refl S0 _).alloc _).drew (by simp)⟩
  have hfl : fb < w.heap.size := by obtain ⟨_, _, _, h⟩ := hmf0.out 0; have := h.lt; simpa using this
  have hTA : Bx (∀ v, Row ((w.setCell ⟨mb, 2, none⟩ (I v)).alloc (.cells (trA (.slice none 0 0) ⟨[], 0, 0, 0⟩) 105)).drew w.heap.size 4 (tvC (.slice none 0 0) ⟨[], 0, 0, 0⟩)) := ⟨fun v => (tv_new _ _ _ _ (by simp)).drew⟩
  have hmeA : Bx (∀ v o, Row ((w.setCell ⟨mb, 2, none⟩ (I v)).alloc o).drew mb 3 (meC fb c v)) := ⟨fun v o => ((hme.out v).alloc o).drew⟩
  have hf0A : Bx (∀ v o, Fr (MeS mb fb) w ((w.setCell ⟨mb, 2, none⟩ (I v)).alloc o).drew) := ⟨fun v o => ((hf0.out v).alloc o).drew⟩
  have hmeD : Bx (∀ v, Row (w.setCell ⟨mb, 2, none⟩ (I v)).drew mb 3 (meC fb c v)) := ⟨fun v => (hme.out v).drew⟩
  have hf0D : Bx (∀ v, Fr (MeS mb fb) w (w.setCell ⟨mb, 2, none⟩ (I v)).drew) := ⟨fun v => (hf0.out v).drew⟩
  have hmf0 : Bx (∀ v, MF (w.setCell ⟨mb, 2, none⟩ (I v)).drew fb) := ⟨fun v => hmf0.out v⟩
  go_enter Tryz.func165, Tryz.ntmps165
  go_upto_region 6 with fail
  go_cut [6] from 24 (fun c wx => ∃ (H : Nat) (v' : Value), c = pt H ∧ Bx (Row wx H 4 (tvC v' t)) ∧ Bx (t.err = 0 → ∃ g, v' = sl g t.nodes.length t.nodes.length ∧ NG wx g t.nodes) ∧ Bx (MEv wx mb fb) ∧ Bx (Fr (MeS mb fb) w wx))
  case first =>
    go_region_with (first
      | (go_at_call 109; refine (hP.out _ (hmf0.out _)).mono ?_; rintro e w2 ⟨v', rfl, hX, hM2, hf2⟩; obtain ⟨sa, sn, sc, rfl⟩ := hX.slice; have hX := Bx.mk hX; have hM2 := Bx.mk hM2; have hf2 := Bx.mk hf2)
      | (go_at_call 109; refine (hP.out _ (hmfA.out _ _)).mono ?_; rintro e w2 ⟨v', rfl, hX, hM2, hf2⟩; obtain ⟨sa, sn, sc, rfl⟩ := hX.slice; have hX := hX.le (B' := w.heap.size + 1) (by simp); have hT2 := Bx.mk (hf2.row (hTA.out _) (by show ¬ w.heap.size = fb; omega)); obtain ⟨x0, x1, x2, x3⟩ := hT2.out.tr4; have y0 := hT2.out.frozen 0; have y1 := hT2.out.frozen 1; have y2 := hT2.out.frozen 2; have y3 := hT2.out.frozen 3; have hX := Bx.mk hX; have hM2 := Bx.mk hM2; have hf2 := Bx.mk hf2))
    all_goals (first | go_wp2_with fail | skip)
    all_goals go_meet
    all_goals first
      | (have hT9 := hT2.out
         have hfin := parsed_B (w2 := w2) (t := t) (v' := .slice sa sn sc) hf2.out hX.out hM2.out ht0.out hne (Nat.lt_succ_self _) (Nat.le_refl _) hlt hfl (hmeA.out _ _) (hf0A.out _ _) hT9
         exact ⟨w.heap.size, .slice sa sn sc, rfl, hfin⟩)
      | (have hfin := parsed_A (w2 := w2) (t := t) (v' := .slice sa sn sc) hf2.out hX.out hM2.out ht0.out hne (hmeD.out _) (hf0D.out _)
         exact ⟨w2.heap.size, .slice sa sn sc, rfl, hfin⟩)
      | trace_state
  case rest =>
    clear hP hmf0 hmfA hTA hme hf0 hmeA hf0A hmeD hf0D hlt hfl c0 c2 z2
    obtain ⟨H, v', rfl, hT, hG, hM, hF⟩ := hcut
    obtain ⟨x0, x1, x2, x3⟩ := hT.out.tr4
    cases hE : (t.err != 0)
    · have he0 : t.err = 0 := by simpa [bne] using hE
      obtain ⟨g, rfl, hN⟩ := hG.out he0
      have hl24 : t.nodes.length ≤ 24 := by
        rcases hlaw.out with ⟨-, h2⟩ | ⟨h2, -⟩
        · exact h2.max
        · exact (h2 he0).elim
      have hR : Bx (∀ w', Fr S0 wc w' → Calls Tryz.prog 207 #[treeV (sl g t.nodes.length t.nodes.length) t] w' fun e w'' => e = .returned (U (rdS t.nodes 0 t.nodes.length)) ∧ Fr S0 w' w'') := ⟨fun w' f => readsA_any w' (hN.fr f (by simp)) hl24⟩
      clear hG hN he0 hl24
      go_wp2_with (first | (go_at_call 207; refine (hR.out _ (Fr.refl _ _)).mono ?_; rintro e w3 ⟨rfl, hf⟩))
      go_ret2
      exact ⟨rfl, hM.out.fr hf (by simp) (by simp), hF.out.trans hf.up⟩
    · have hnil : Bx (t.nodes = []) := ⟨by
        rcases hlaw.out with ⟨h2, -⟩ | ⟨-, h2⟩
        · rw [h2] at hE; simp at hE
        · exact h2⟩
      go_wp2
      go_ret2
      exact ⟨by rw [hnil.out]; rfl, hM.out, hF.out⟩
end Go.Proofs.Qxb6500326aGreat
