import Derived.Test.Qxb6500326aGreatO8
import Derived.Test.Qxb6500326aGreatO9
import Derived.Test.Qxb6500326aGreatD3
namespace Go.Proofs.Qxb6500326aGreat
set_option maxRecDepth 100000
set_option linter.unusedVariables false
set_option linter.unusedSimpArgs false
open Go.RowKit Go.PlainAid

theorem XL.ag {w : World} {B : Nat} {v : Value} {L : List Nd} (h : XL w B v L) (hL : L ≠ []) : ∃ g, B ≤ g ∧ v = sl g L.length L.length ∧ AG w g L.length (nd L) := by
  rcases h with ⟨e, -⟩ | ⟨-, g, hb, rfl, hg⟩
  · exact (hL e).elim
  · refine ⟨g, hb, rfl, ⟨(nds L).toArray, 149, hg, by simp [nds_len], fun i hi => ?_⟩, ⟨_, hg⟩⟩
    have hj : i / 13 < L.length := by omega
    have hk : i % 13 < 13 := Nat.mod_lt _ (by omega)
    have e : i = i / 13 * 13 + i % 13 := by omega
    rw [List.getElem?_toArray]
    conv => lhs; rw [e]
    rw [nds_get L _ _ hj hk, nd_get hj, ndC_get _ _ hk]
theorem AG.xl {w : World} {g n : Nat} {f : Nat → Nd} {M : List Nd} (h : AG w g n f) (hn : M.length = n) (hM : ∀ j, j < n → nd M j = f j) (h0 : M ≠ []) : XL w g (sl g n n) M := by
  subst hn
  refine .inr ⟨h0, g, Nat.le_refl _, rfl, ?_⟩
  obtain ⟨arr, T, h1, h2, h3⟩ := h.gr
  obtain ⟨arr', h4⟩ := h.ty
  rw [h1] at h4
  injection h4 with h4
  injection h4 with h5 h6
  subst h6
  rw [h1]
  have : arr = (nds M).toArray := by
    apply Array.ext_getElem?
    intro i
    rcases Nat.lt_or_ge i (M.length * 13) with hi | hi
    · have hj : i / 13 < M.length := by omega
      have hk : i % 13 < 13 := Nat.mod_lt _ (by omega)
      have e : i = i / 13 * 13 + i % 13 := by omega
      rw [h3 i hi, List.getElem?_toArray]
      conv => rhs; rw [e]
      rw [nds_get M _ _ hj hk, nd_get hj, ndC_get _ _ hk, hM _ hj]
    · rw [Array.getElem?_eq_none (by omega), Array.getElem?_eq_none (by simp [nds_len]; omega)]
  rw [this]
theorem nd_mapL {f : Nd → Nd} {L : List Nd} {j : Nat} (hj : j < L.length) : nd (L.map f) j = f (nd L j) := by
  unfold nd
  rw [List.getElem?_map, List.getElem?_eq_getElem hj]
  rfl
/-- What Moved and Copied answer. -/
def TreeR (w : World) (t : Tr) : Ending → World → Prop := fun e w' => ∃ g, w.heap.size ≤ g ∧ e = .returned (treeV (sl g t.nodes.length t.nodes.length) t) ∧ XL w' g (sl g t.nodes.length t.nodes.length) t.nodes ∧ Fr S0 w w'

set_option maxHeartbeats 8000000 in
theorem moved_any (rows ins : Bool) (at_ : Int) (v : Value) (t : Tr) (w : World) (h : NL w v t.nodes) (h0 : t.nodes ≠ []) (hl : t.nodes.length ≤ 24) :
    Calls Tryz.prog 77 #[treeV v t, I (kd rows ins), I at_] w (TreeR w (mapT (moveN rows ins at_) t)) := by
  have hfr0 := Bx.mk (((Fr.refl S0 w).alloc (.cells (trA v t) 105)).alloc (.cells (trA (.slice none 0 0) ⟨[], 0, 0, 0⟩) 105))
  have hT0 := Bx.mk ((tv_new w v t 105 rfl).alloc (.cells (trA (.slice none 0 0) ⟨[], 0, 0, 0⟩) 105))
  have hZ0 := Bx.mk (tv_new (w.alloc (.cells (trA v t) 105)) (.slice none 0 0) ⟨[], 0, 0, 0⟩ 105 (H := w.heap.size + 1) (by simp))
  have hC := Bx.mk (copy_any v t.nodes _ (h.fr0 hfr0.out) (by omega))
  have hE : Bx (∀ (x : Nd) wx, (∃ j, j < t.nodes.length ∧ nd t.nodes j = x) → Calls Tryz.prog 111 #[ndV x, I (kd rows ins), I at_] wx (NR wx (moveN rows ins at_ x))) := ⟨fun x wx _ => moveNode_any rows ins at_ x wx⟩
  have hz1 : (w.alloc (.cells (trA v t) 105)).heap.size = w.heap.size + 1 := by simp
  clear h
  obtain ⟨n, hn⟩ : ∃ n, t.nodes.length = n := ⟨_, rfl⟩
  have hfin : Bx (∀ wx g, AG wx g n (fun j => moveN rows ins at_ (nd t.nodes j)) → XL wx g (sl g n n) (mapT (moveN rows ins at_) t).nodes) := ⟨fun wx g h => AG.xl h (by show (t.nodes.map _).length = n; rw [List.length_map, hn]) (fun j hj => nd_mapL (by omega)) (by show t.nodes.map _ ≠ []; simpa using h0)⟩
  have hlen : Bx ((mapT (moveN rows ins at_) t).nodes.length = n) := ⟨by show (t.nodes.map _).length = n; rw [List.length_map, hn]⟩
  have hag : Bx (∀ w' B v', XL w' B v' t.nodes → ∃ g, B ≤ g ∧ v' = sl g n n ∧ AG w' g n (nd t.nodes)) := ⟨fun w' B v' h => hn ▸ XL.ag h h0⟩
  have hn24 : n ≤ 24 := by omega
  rw [hn] at hE
  generalize hTT : mapT (moveN rows ins at_) t = TT at hfin hlen ⊢
  have hroot : Bx (TT.root = t.root ∧ TT.err = 0 ∧ TT.pos = 0) := ⟨by rw [← hTT]; exact ⟨rfl, rfl, rfl⟩⟩
  clear hTT h0 hl
  have hn := Bx.mk hn
  go_enter Tryz.func77, Tryz.ntmps77
  go_wp2_with (first
    | (go_at_call 110; refine hC.out.mono ?_; clear hC; rintro e w1 ⟨v', rfl, hX, hf⟩; obtain ⟨g, hgb, rfl, hA⟩ := hag.out _ _ _ hX; clear hag; have hgb : w.heap.size + 2 ≤ g := (by simpa using hgb); have hA := Bx.mk hA; have hT := Bx.mk (hf.row0 hT0.out); have hZ := Bx.mk (hf.row0 hZ0.out); have hfr := Bx.mk (hfr0.out.trans hf); clear hf hX hT0 hZ0 hfr0))
  go_loopw [8] (fun c wr => ∃ k : Nat, k ≤ n ∧ c = I (k : Int) ∧ Bx (AG wr g n (upTo (moveN rows ins at_) (nd t.nodes) k)) ∧ Bx (Row wr w.heap.size 4 (tvC v t)) ∧ Bx (Row wr (w.heap.size + 1) 4 (tvC (.slice none 0 0) ⟨[], 0, 0, 0⟩)) ∧ Bx (Fr S0 w wr)) (fun c _ => n - (intOf c).toNat)
  case atStart => exact ⟨0, by omega, rfl, ⟨hA.out.congr (fun j _ => by unfold upTo; rw [if_neg (by omega)])⟩, hT, hZ, hfr⟩
  case round =>
    clear hA hT hZ hfr
    obtain ⟨k, hk, rfl, hA, hT, hZ, hfr⟩ := hrel
    have hk24 : k ≤ 24 := by omega
    cases hlt : decide ((k : Int) < (n : Int))
    · have hkn : k = n := by simp at hlt; omega
      have t1 := hT.out.cell 1 (by omega)
      have y0 := hZ.out.cell 0 (by omega)
      have y1 := hZ.out.cell 1 (by omega)
      have y2 := hZ.out.cell 2 (by omega)
      have y3 := hZ.out.cell 3 (by omega)
      have z0 := hZ.out.frozen 0
      have z1 := hZ.out.frozen 1
      have z2 := hZ.out.frozen 2
      have z3 := hZ.out.frozen 3
      have hl1 := hT.out.lt
      have hl2 := hZ.out.lt
      simp only [tvC] at t1 y0 y1 y2 y3
      go_wp2_with fail
      have hA2 := hA.out.congr (M := fun j => moveN rows ins at_ (nd t.nodes j)) (fun j hj => by unfold upTo; rw [if_pos (by omega)])
      have e1 : TT = ⟨TT.nodes, t.root, 0, 0⟩ := by
        obtain ⟨a, b, c, d⟩ := TT
        obtain ⟨r1, r2, r3⟩ := hroot.out
        simp only at r1 r2 r3
        subst r1; subst r2; subst r3; rfl
      have fs : Fr (fun k => k = w.heap.size + 1) wr (sets wr (w.heap.size + 1) 0 (trA (sl g n n) ⟨TT.nodes, t.root, 0, 0⟩).toList) := sets_fr (S := fun k => k = w.heap.size + 1) (a := wr) (b := w.heap.size + 1) (.inl rfl) _ wr 0 (Fr.refl _ _)
      refine ret_tree (p := 6) (g := w.heap.size + 1) (v := sl g n n) (x := t.root) (y := 0) (z := 0) rfl rfl (Row.congr (tv_sets hZ.out (sl g n n) ⟨TT.nodes, t.root, 0, 0⟩) (by intro i hi; rcases i with _ | _ | _ | _ | i <;> first | rfl | omega)) rfl ⟨g, by omega, ?_, ?_, ?_⟩
      · show _ = Ending.returned (Value.agg #[_, I TT.root, I TT.err, I TT.pos]); rw [hlen.out, hroot.out.1, hroot.out.2.1, hroot.out.2.2]
      · rw [hlen.out]; exact hfin.out _ _ (hA2.fr fs (by show ¬ g = _; omega))
      · exact sets_fr (S := S0) (a := w) (b := w.heap.size + 1) (.inr (by omega)) (trA (sl g n n) ⟨TT.nodes, t.root, 0, 0⟩).toList wr 0 hfr.out
    · have hkn : k < n := by simp at hlt; omega
      obtain ⟨x, hxL⟩ : ∃ x, nd t.nodes k = x := ⟨_, rfl⟩
      have hEx := Bx.mk (fun wx => hE.out x wx ⟨k, hkn, hxL⟩)
      have hxL := Bx.mk hxL
      have hxk : Bx (upTo (moveN rows ins at_) (nd t.nodes) k k = x) := ⟨by rw [upTo_at, hxL.out]⟩
      obtain ⟨k0, k1, k2, k3, k4, k5, k6, k7, k8, k9, k10, k11, k12⟩ := hA.out.cells hkn hxk.out
      have hl1 := hA.out.lt
      generalize hy : moveN rows ins at_ x = y at hEx
      have hy := Bx.mk hy
      go_wp2_with (first
        | (go_at_call 111; refine (hEx.out _).mono ?_; clear hEx; rintro e w2 ⟨rfl, hf2⟩; have hA := Bx.mk (hA.out.fr0 hf2); have hT := Bx.mk (hf2.row0 hT.out); have hZ := Bx.mk (hf2.row0 hZ.out); have hfr := Bx.mk (hfr.out.trans hf2); obtain ⟨k0, k1, k2, k3, k4, k5, k6, k7, k8, k9, k10, k11, k12⟩ := hA.out.cells hkn hxk.out; obtain ⟨z0, z1, z2, z3, z4, z5, z6, z7, z8, z9, z10, z11, z12⟩ := hA.out.fz k; have hl1 := hA.out.lt; clear hf2))
      go_roundw
      case rel =>
        have fs : Fr (fun k => k = g) w2 (sets w2 g (k * 13) (ndA y).toList) := sets_fr (S := fun k => k = g) (a := w2) (b := g) (.inl rfl) _ w2 (k * 13) (Fr.refl _ _)
        exact ⟨k + 1, by omega, by go_num, ⟨(hA.out.put k y).congr (fun j _ => upTo_upd _ _ _ (by rw [hxL.out]; exact hy.out) j)⟩, ⟨fs.row hT.out (by show ¬ _ = g; omega)⟩, ⟨fs.row hZ.out (by show ¬ _ = g; omega)⟩, ⟨sets_fr (S := S0) (a := w) (b := g) (.inr (by omega)) (ndA y).toList w2 (k * 13) hfr.out⟩⟩
      case measure => simp [intOf]; omega

set_option maxHeartbeats 8000000 in
theorem copied_any (dc dr : Int) (v : Value) (t : Tr) (w : World) (h : NL w v t.nodes) (h0 : t.nodes ≠ []) (hl : t.nodes.length ≤ 24) (hb : ∀ j, j < t.nodes.length → RB (nd t.nodes j).r1 ∧ RB (nd t.nodes j).r2) (hc : -100 ≤ dc ∧ dc ≤ 100) (hr : -100 ≤ dr ∧ dr ≤ 100) :
    Calls Tryz.prog 79 #[treeV v t, I dc, I dr] w (TreeR w (mapT (copyN dc dr) t)) := by
  have hfr0 := Bx.mk (((Fr.refl S0 w).alloc (.cells (trA v t) 105)).alloc (.cells (trA (.slice none 0 0) ⟨[], 0, 0, 0⟩) 105))
  have hT0 := Bx.mk ((tv_new w v t 105 rfl).alloc (.cells (trA (.slice none 0 0) ⟨[], 0, 0, 0⟩) 105))
  have hZ0 := Bx.mk (tv_new (w.alloc (.cells (trA v t) 105)) (.slice none 0 0) ⟨[], 0, 0, 0⟩ 105 (H := w.heap.size + 1) (by simp))
  have hC := Bx.mk (copy_any v t.nodes _ (h.fr0 hfr0.out) (by omega))
  have hE : Bx (∀ (x : Nd) wx, (∃ j, j < t.nodes.length ∧ nd t.nodes j = x) → Calls Tryz.prog 113 #[ndV x, I dc, I dr] wx (NR wx (copyN dc dr x))) := ⟨fun x wx ⟨j, hj, e⟩ => copyNode_any dc dr x wx (e ▸ (hb j hj).1) (e ▸ (hb j hj).2) hc hr⟩
  have hz1 : (w.alloc (.cells (trA v t) 105)).heap.size = w.heap.size + 1 := by simp
  clear h
  obtain ⟨n, hn⟩ : ∃ n, t.nodes.length = n := ⟨_, rfl⟩
  have hfin : Bx (∀ wx g, AG wx g n (fun j => copyN dc dr (nd t.nodes j)) → XL wx g (sl g n n) (mapT (copyN dc dr) t).nodes) := ⟨fun wx g h => AG.xl h (by show (t.nodes.map _).length = n; rw [List.length_map, hn]) (fun j hj => nd_mapL (by omega)) (by show t.nodes.map _ ≠ []; simpa using h0)⟩
  have hlen : Bx ((mapT (copyN dc dr) t).nodes.length = n) := ⟨by show (t.nodes.map _).length = n; rw [List.length_map, hn]⟩
  have hag : Bx (∀ w' B v', XL w' B v' t.nodes → ∃ g, B ≤ g ∧ v' = sl g n n ∧ AG w' g n (nd t.nodes)) := ⟨fun w' B v' h => hn ▸ XL.ag h h0⟩
  have hn24 : n ≤ 24 := by omega
  rw [hn] at hE
  generalize hTT : mapT (copyN dc dr) t = TT at hfin hlen ⊢
  have hroot : Bx (TT.root = t.root ∧ TT.err = 0 ∧ TT.pos = 0) := ⟨by rw [← hTT]; exact ⟨rfl, rfl, rfl⟩⟩
  clear hTT h0 hl
  have hn := Bx.mk hn
  go_enter Tryz.func79, Tryz.ntmps79
  go_wp2_with (first
    | (go_at_call 110; refine hC.out.mono ?_; clear hC; rintro e w1 ⟨v', rfl, hX, hf⟩; obtain ⟨g, hgb, rfl, hA⟩ := hag.out _ _ _ hX; clear hag; have hgb : w.heap.size + 2 ≤ g := (by simpa using hgb); have hA := Bx.mk hA; have hT := Bx.mk (hf.row0 hT0.out); have hZ := Bx.mk (hf.row0 hZ0.out); have hfr := Bx.mk (hfr0.out.trans hf); clear hf hX hT0 hZ0 hfr0))
  go_loopw [8] (fun c wr => ∃ k : Nat, k ≤ n ∧ c = I (k : Int) ∧ Bx (AG wr g n (upTo (copyN dc dr) (nd t.nodes) k)) ∧ Bx (Row wr w.heap.size 4 (tvC v t)) ∧ Bx (Row wr (w.heap.size + 1) 4 (tvC (.slice none 0 0) ⟨[], 0, 0, 0⟩)) ∧ Bx (Fr S0 w wr)) (fun c _ => n - (intOf c).toNat)
  case atStart => exact ⟨0, by omega, rfl, ⟨hA.out.congr (fun j _ => by unfold upTo; rw [if_neg (by omega)])⟩, hT, hZ, hfr⟩
  case round =>
    clear hA hT hZ hfr
    obtain ⟨k, hk, rfl, hA, hT, hZ, hfr⟩ := hrel
    have hk24 : k ≤ 24 := by omega
    cases hlt : decide ((k : Int) < (n : Int))
    · have hkn : k = n := by simp at hlt; omega
      have t1 := hT.out.cell 1 (by omega)
      have y0 := hZ.out.cell 0 (by omega)
      have y1 := hZ.out.cell 1 (by omega)
      have y2 := hZ.out.cell 2 (by omega)
      have y3 := hZ.out.cell 3 (by omega)
      have z0 := hZ.out.frozen 0
      have z1 := hZ.out.frozen 1
      have z2 := hZ.out.frozen 2
      have z3 := hZ.out.frozen 3
      have hl1 := hT.out.lt
      have hl2 := hZ.out.lt
      simp only [tvC] at t1 y0 y1 y2 y3
      go_wp2_with fail
      have hA2 := hA.out.congr (M := fun j => copyN dc dr (nd t.nodes j)) (fun j hj => by unfold upTo; rw [if_pos (by omega)])
      have e1 : TT = ⟨TT.nodes, t.root, 0, 0⟩ := by
        obtain ⟨a, b, c, d⟩ := TT
        obtain ⟨r1, r2, r3⟩ := hroot.out
        simp only at r1 r2 r3
        subst r1; subst r2; subst r3; rfl
      have fs : Fr (fun k => k = w.heap.size + 1) wr (sets wr (w.heap.size + 1) 0 (trA (sl g n n) ⟨TT.nodes, t.root, 0, 0⟩).toList) := sets_fr (S := fun k => k = w.heap.size + 1) (a := wr) (b := w.heap.size + 1) (.inl rfl) _ wr 0 (Fr.refl _ _)
      refine ret_tree (p := 6) (g := w.heap.size + 1) (v := sl g n n) (x := t.root) (y := 0) (z := 0) rfl rfl (Row.congr (tv_sets hZ.out (sl g n n) ⟨TT.nodes, t.root, 0, 0⟩) (by intro i hi; rcases i with _ | _ | _ | _ | i <;> first | rfl | omega)) rfl ⟨g, by omega, ?_, ?_, ?_⟩
      · show _ = Ending.returned (Value.agg #[_, I TT.root, I TT.err, I TT.pos]); rw [hlen.out, hroot.out.1, hroot.out.2.1, hroot.out.2.2]
      · rw [hlen.out]; exact hfin.out _ _ (hA2.fr fs (by show ¬ g = _; omega))
      · exact sets_fr (S := S0) (a := w) (b := w.heap.size + 1) (.inr (by omega)) (trA (sl g n n) ⟨TT.nodes, t.root, 0, 0⟩).toList wr 0 hfr.out
    · have hkn : k < n := by simp at hlt; omega
      obtain ⟨x, hxL⟩ : ∃ x, nd t.nodes k = x := ⟨_, rfl⟩
      have hEx := Bx.mk (fun wx => hE.out x wx ⟨k, hkn, hxL⟩)
      have hxL := Bx.mk hxL
      have hxk : Bx (upTo (copyN dc dr) (nd t.nodes) k k = x) := ⟨by rw [upTo_at, hxL.out]⟩
      obtain ⟨k0, k1, k2, k3, k4, k5, k6, k7, k8, k9, k10, k11, k12⟩ := hA.out.cells hkn hxk.out
      have hl1 := hA.out.lt
      generalize hy : copyN dc dr x = y at hEx
      have hy := Bx.mk hy
      go_wp2_with (first
        | (go_at_call 113; refine (hEx.out _).mono ?_; clear hEx; rintro e w2 ⟨rfl, hf2⟩; have hA := Bx.mk (hA.out.fr0 hf2); have hT := Bx.mk (hf2.row0 hT.out); have hZ := Bx.mk (hf2.row0 hZ.out); have hfr := Bx.mk (hfr.out.trans hf2); obtain ⟨k0, k1, k2, k3, k4, k5, k6, k7, k8, k9, k10, k11, k12⟩ := hA.out.cells hkn hxk.out; obtain ⟨z0, z1, z2, z3, z4, z5, z6, z7, z8, z9, z10, z11, z12⟩ := hA.out.fz k; have hl1 := hA.out.lt; clear hf2))
      go_roundw
      case rel =>
        have fs : Fr (fun k => k = g) w2 (sets w2 g (k * 13) (ndA y).toList) := sets_fr (S := fun k => k = g) (a := w2) (b := g) (.inl rfl) _ w2 (k * 13) (Fr.refl _ _)
        exact ⟨k + 1, by omega, by go_num, ⟨(hA.out.put k y).congr (fun j _ => upTo_upd _ _ _ (by rw [hxL.out]; exact hy.out) j)⟩, ⟨fs.row hT.out (by show ¬ _ = g; omega)⟩, ⟨fs.row hZ.out (by show ¬ _ = g; omega)⟩, ⟨sets_fr (S := S0) (a := w) (b := g) (.inr (by omega)) (ndA y).toList w2 (k * 13) hfr.out⟩⟩
      case measure => simp [intOf]; omega
end Go.Proofs.Qxb6500326aGreat
