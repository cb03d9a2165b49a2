import Derived.Test.Qxb6500326aGreatO2
import Derived.Test.Qxb6500326aGreatX0
namespace Go.Proofs.Qxb6500326aGreat
set_option maxRecDepth 100000
set_option linter.unusedVariables false
set_option linter.unusedSimpArgs false
open Go.RowKit Go.PlainAid

/-! ### nodes in memory, to be rewritten -/
def TG (w : World) (g : Nat) : Prop := ∃ arr, w.heap[g]? = some (.cells arr 149 (0, 0))
theorem TG.set {w : World} {g : Nat} (h : TG w g) (b k : Nat) (v : Value) : TG (w.setCell ⟨b, k, none⟩ v) g := by
  obtain ⟨arr, h⟩ := h
  by_cases e : g = b
  · subst e
    refine ⟨arr.setIfInBounds k v, ?_⟩
    simp only [World.setCell, Array.getElem?_modify, h]
    simp
  · exact ⟨arr, by rw [Below.heap_setCell _ _ _ _ e]; exact h⟩
theorem TG.sets {g : Nat} : ∀ (vs : List Value) (w : World) (b o : Nat), TG w g → TG (sets w b o vs) g
  | [], w, b, o, h => h
  | v :: vs, w, b, o, h => TG.sets vs _ b (o + 1) (h.set b o v)
theorem TG.fr {S : Nat → Prop} {w w' : World} {g : Nat} (h : TG w g) (f : Fr S w w') (hg : ¬ S g) : TG w' g := by
  obtain ⟨arr, h⟩ := h
  exact ⟨arr, by rw [f.block g (Array.getElem?_eq_some_iff.1 h).1 hg]; exact h⟩
structure AG (w : World) (g n : Nat) (L : Nat → Nd) : Prop where
  gr : Grid w g n 13 (fun j => ndC (L j))
  ty : TG w g
section
variable {w w' : World} {g n : Nat} {L : Nat → Nd}
theorem AG.fr (h : AG w g n L) {S : Nat → Prop} (f : Fr S w w') (hg : ¬ S g) : AG w' g n L := ⟨h.gr.of f hg, h.ty.fr f hg⟩
theorem AG.fr0 (h : AG w g n L) (f : Fr S0 w w') : AG w' g n L := h.fr f id
theorem AG.lt (h : AG w g n L) : g < w.heap.size := Row.lt h.gr
theorem AG.cells (h : AG w g n L) {j : Nat} (hj : j < n) {x : Nd} (hx : L j = x) :
    w.cell? ⟨g, j * 13, none⟩ = some (I x.kind) ∧ w.cell? ⟨g, j * 13 + 1, none⟩ = some (I x.op) ∧ w.cell? ⟨g, j * 13 + 2, none⟩ = some (I x.a) ∧ w.cell? ⟨g, j * 13 + 3, none⟩ = some (I x.b) ∧ w.cell? ⟨g, j * 13 + 4, none⟩ = some (I x.n) ∧ w.cell? ⟨g, j * 13 + 5, none⟩ = some (I x.r1.col) ∧ w.cell? ⟨g, j * 13 + 6, none⟩ = some (I x.r1.row) ∧ w.cell? ⟨g, j * 13 + 7, none⟩ = some (.bool x.r1.absC) ∧ w.cell? ⟨g, j * 13 + 8, none⟩ = some (.bool x.r1.absR) ∧ w.cell? ⟨g, j * 13 + 9, none⟩ = some (I x.r2.col) ∧ w.cell? ⟨g, j * 13 + 10, none⟩ = some (I x.r2.row) ∧ w.cell? ⟨g, j * 13 + 11, none⟩ = some (.bool x.r2.absC) ∧ w.cell? ⟨g, j * 13 + 12, none⟩ = some (.bool x.r2.absR) := by
  subst hx
  exact ⟨h.gr.cell0 j hj (by omega), h.gr.cell j 1 hj (by omega), h.gr.cell j 2 hj (by omega), h.gr.cell j 3 hj (by omega), h.gr.cell j 4 hj (by omega), h.gr.cell j 5 hj (by omega), h.gr.cell j 6 hj (by omega), h.gr.cell j 7 hj (by omega), h.gr.cell j 8 hj (by omega), h.gr.cell j 9 hj (by omega), h.gr.cell j 10 hj (by omega), h.gr.cell j 11 hj (by omega), h.gr.cell j 12 hj (by omega)⟩
theorem AG.fz (h : AG w g n L) (j : Nat) :
    w.frozen? ⟨g, j * 13, none⟩ = false ∧ w.frozen? ⟨g, j * 13 + 1, none⟩ = false ∧ w.frozen? ⟨g, j * 13 + 2, none⟩ = false ∧ w.frozen? ⟨g, j * 13 + 3, none⟩ = false ∧ w.frozen? ⟨g, j * 13 + 4, none⟩ = false ∧ w.frozen? ⟨g, j * 13 + 5, none⟩ = false ∧ w.frozen? ⟨g, j * 13 + 6, none⟩ = false ∧ w.frozen? ⟨g, j * 13 + 7, none⟩ = false ∧ w.frozen? ⟨g, j * 13 + 8, none⟩ = false ∧ w.frozen? ⟨g, j * 13 + 9, none⟩ = false ∧ w.frozen? ⟨g, j * 13 + 10, none⟩ = false ∧ w.frozen? ⟨g, j * 13 + 11, none⟩ = false ∧ w.frozen? ⟨g, j * 13 + 12, none⟩ = false :=
  ⟨h.gr.frozen _, h.gr.frozen _, h.gr.frozen _, h.gr.frozen _, h.gr.frozen _, h.gr.frozen _, h.gr.frozen _, h.gr.frozen _, h.gr.frozen _, h.gr.frozen _, h.gr.frozen _, h.gr.frozen _, h.gr.frozen _⟩
theorem AG.put (h : AG w g n L) (j : Nat) (x : Nd) : AG (sets w g (j * 13) (ndA x).toList) g n (upd L j x) :=
  ⟨Row.congr (Grid.put h.gr j (by omega) (ndA x).toList rfl (ndC x) (by intro k hk; rcases k with _ | _ | _ | _ | _ | _ | _ | _ | _ | _ | _ | _ | _ | k <;> first | rfl | omega)) (by intro i hi; simp only [upd]; split <;> rfl), TG.sets _ _ _ _ h.ty⟩
theorem AG.set1 (h : AG w g n L) (j k : Nat) (hk : k < 13) (v : Value) (x : Nd) (hx : ∀ i, i < 13 → ndC x i = if i = k then v else ndC (L j) i) : AG (w.setCell ⟨g, j * 13 + k, none⟩ v) g n (upd L j x) := by
  refine ⟨Row.congr (Row.set h.gr (j * 13 + k) v) (fun i hi => ?_), h.ty.set _ _ v⟩
  unfold upd
  simp only []
  by_cases e : i / 13 = j
  · rw [if_pos e, hx _ (Nat.mod_lt _ (by omega))]
    by_cases e2 : i = j * 13 + k
    · rw [if_pos e2, if_pos (by omega)]
    · rw [if_neg e2, if_neg (by omega), e]
  · rw [if_neg (by omega), if_neg e]
theorem AG.congr {M : Nat → Nd} (h : AG w g n L) (e : ∀ j, j < n → L j = M j) : AG w g n M :=
  ⟨Row.congr h.gr (fun i hi => by simp only []; rw [e _ (by omega)]), h.ty⟩
end
abbrev ep (g j : Nat) : Value := .pointer (some ⟨g, j * 13, none⟩)
set_option maxHeartbeats 1000000 in
theorem kill_any (g n j : Nat) (L : Nat → Nd) (w : World) (h : AG w g n L) (hj : j < n) : Calls Tryz.prog 136 #[ep g j] w fun e w' => e = .returned (.tuple #[]) ∧ AG w' g n (upd L j nBad) ∧ Fr (fun k => k = g) w w' := by
  have hN := Bx.mk (h.put j nBad)
  have hF := Bx.mk (sets_fr (S := fun k => k = g) (a := w) (b := g) (.inl rfl) (ndA nBad).toList w (j * 13) (Fr.refl _ _))
  have hlt := h.lt
  obtain ⟨k0, k1, k2, k3, k4, k5, k6, k7, k8, k9, k10, k11, k12⟩ := h.cells hj rfl
  obtain ⟨z0, z1, z2, z3, z4, z5, z6, z7, z8, z9, z10, z11, z12⟩ := h.fz j
  clear h
  go_enter Tryz.func136, Tryz.ntmps136
  go_wp2
  go_end0
  exact ⟨rfl, hN.out, hF.out⟩
theorem fr_g {g k : Nat} {w w1 : World} {v : Value} (h : Fr S0 w w1) : Fr (fun k => k = g) w (w1.setCell ⟨g, k, none⟩ v) := Fr.setCell (S := fun k => k = g) h.up (p := ⟨g, k, none⟩) (.inl rfl) v
/-! ### a single reference -/
theorem setAx_row (x : Nd) (v : Int) : ∀ i, i < 13 → ndC ⟨x.kind, x.op, x.a, x.b, x.n, setAx true x.r1 v, x.r2⟩ i = if i = 6 then I v else ndC x i := by
  intro i hi; rcases i with _ | _ | _ | _ | _ | _ | _ | _ | _ | _ | _ | _ | _ | i <;> first | rfl | omega
theorem setAx_col (x : Nd) (v : Int) : ∀ i, i < 13 → ndC ⟨x.kind, x.op, x.a, x.b, x.n, setAx false x.r1 v, x.r2⟩ i = if i = 5 then I v else ndC x i := by
  intro i hi; rcases i with _ | _ | _ | _ | _ | _ | _ | _ | _ | _ | _ | _ | _ | i <;> first | rfl | omega
theorem moveRf_span {rows ins : Bool} {at_ : Int} (ha : 0 ≤ at_) (han : at_ < nAx rows) {x : Nd} (hg : inGrid x.r1 = true) :
    moveRf rows ins at_ x = if (sgB rows ins at_ (ax rows x.r1) (ax rows x.r1)).1 ≤ (sgB rows ins at_ (ax rows x.r1) (ax rows x.r1)).2 then ⟨x.kind, x.op, x.a, x.b, x.n, setAx rows x.r1 (sgB rows ins at_ (ax rows x.r1) (ax rows x.r1)).1, x.r2⟩ else nBad := by
  obtain ⟨h0, h1⟩ := ax_in (rows := rows) hg
  obtain ⟨p1, p2⟩ := point_span (ins := ins) h0 h1 ha han
  unfold moveRf sgB
  split
  · rename_i hp; rw [if_neg (p1.1 hp)]
  · rename_i hp
    rw [if_pos (by apply Classical.byContradiction; intro hn; exact hp (p1.2 hn)), p2 (by omega)]
set_option maxHeartbeats 2000000 in
theorem shiftRef_any (rows ins : Bool) (at_ : Int) (g n j : Nat) (L : Nat → Nd) (w : World) (ha : 0 ≤ at_) (han : at_ < nAx rows) (h : AG w g n L) (hj : j < n) (hg : inGrid (L j).r1 = true) :
    Calls Tryz.prog 132 #[gpV rows ins at_, ep g j] w fun e w' => e = .returned (.tuple #[]) ∧ AG w' g n (upd L j (moveRf rows ins at_ (L j))) ∧ Fr (fun k => k = g) w w' := by
  rw [moveRf_span ha han hg]
  obtain ⟨p0, p1⟩ := ax_in (rows := rows) hg
  have hn6 := (nAx_bd rows).2
  have hS : Bx (∀ w, Calls Tryz.prog 162 #[gpV rows ins at_, I (ax rows (L j).r1), I (ax rows (L j).r1)] w fun e w' => e = .returned (.tuple #[I (sgB rows ins at_ (ax rows (L j).r1) (ax rows (L j).r1)).1, I (sgB rows ins at_ (ax rows (L j).r1) (ax rows (L j).r1)).2, .bool (decide ((sgB rows ins at_ (ax rows (L j).r1) (ax rows (L j).r1)).1 ≤ (sgB rows ins at_ (ax rows (L j).r1) (ax rows (L j).r1)).2))]) ∧ Fr S0 w w') := ⟨fun w => spanG_any rows ins at_ _ _ w p0 (by omega) p0 (by omega)⟩
  generalize sgB rows ins at_ (ax rows (L j).r1) (ax rows (L j).r1) = ab at *
  obtain ⟨a, b⟩ := ab
  simp only at *
  generalize hR : (if a ≤ b then (⟨(L j).kind, (L j).op, (L j).a, (L j).b, (L j).n, setAx rows (L j).r1 a, (L j).r2⟩ : Nd) else nBad) = R
  have hR := Bx.mk hR
  have hK : Bx (∀ w, AG w g n L → Calls Tryz.prog 136 #[ep g j] w fun e w' => e = .returned (.tuple #[]) ∧ AG w' g n (upd L j nBad) ∧ Fr (fun k => k = g) w w') := ⟨fun w h => kill_any g n j L w h hj⟩
  have hlt := h.lt
  have hA := Bx.mk (h.fr0 ((Fr.refl S0 w).alloc (.cells (gpA rows ins at_) 133)))
  have hfr := Bx.mk ((Fr.refl S0 w).alloc (.cells (gpA rows ins at_) 133))
  have hgp := Bx.mk (gp_new w rows ins at_ 133 rfl)
  have hng : Bx (∀ w1, AG w1 g n L → _) := ⟨fun w1 (h : AG w1 g n L) => And.intro (h.cells hj rfl) (h.fz j)⟩
  obtain ⟨k0, k1, k2, k3, k4, k5, k6, k7, k8, k9, k10, k11, k12⟩ := h.cells hj rfl
  clear h p0 p1 hn6 han
  have hx1 := Bx.mk (setAx_row (L j) a)
  have hx2 := Bx.mk (setAx_col (L j) a)
  cases rows <;> cases hok : decide (a ≤ b) <;> simp only [ax, if_true, if_false, Bool.false_eq_true] at hS <;> simp only [hok] at hS
  all_goals go_enter Tryz.func132, Tryz.ntmps132
  all_goals go_wp2_with (first
    | (go_at_call 162; refine (hS.out _).mono ?_; clear hS; rintro e w1 ⟨rfl, hf⟩; have hA := Bx.mk (hA.out.fr0 hf); have hgp := Bx.mk (hf.row0 hgp.out); obtain ⟨b0, b1, b2, b3⟩ := hgp.out.gp4; obtain ⟨⟨l0, l1, l2, l3, l4, l5, l6, l7, l8, l9, l10, l11, l12⟩, ⟨z0, z1, z2, z3, z4, z5, z6, z7, z8, z9, z10, z11, z12⟩⟩ := hng.out w1 hA.out; have hlt1 := hA.out.lt; have hfr := Bx.mk (hfr.out.trans hf); clear hf k0 k1 k2 k3 k4 k5 k6 k7 k8 k9 k10 k11 k12)
    | (go_at_call 136; refine (hK.out _ hA.out).mono ?_; clear hK; rintro e w2 ⟨rfl, hN2, hf2⟩; have hN2 := Bx.mk hN2; have hf2 := Bx.mk (hfr.out.up.trans hf2)))
  all_goals first | go_end0 | go_returns
  · exact ⟨rfl, by rw [← hR.out, if_neg (by simpa using hok)]; exact hN2.out, hf2.out⟩
  · exact ⟨rfl, by rw [← hR.out, if_pos (by simpa using hok)]; exact hA.out.set1 j 5 (by omega) _ _ hx2.out, fr_g hfr.out⟩
  · exact ⟨rfl, by rw [← hR.out, if_neg (by simpa using hok)]; exact hN2.out, hf2.out⟩
  · exact ⟨rfl, by rw [← hR.out, if_pos (by simpa using hok)]; exact hA.out.set1 j 6 (by omega) _ _ hx1.out, fr_g hfr.out⟩
end Go.Proofs.Qxb6500326aGreat
