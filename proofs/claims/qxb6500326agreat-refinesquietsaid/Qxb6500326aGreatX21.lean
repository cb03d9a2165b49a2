import Derived.Test.Qxb6500326aGreatX20
import Derived.Test.Qxb6500326aGreatY6
import Derived.Test.Qxb6500326aGreatW19
namespace Go.Proofs.Qxb6500326aGreat
set_option maxRecDepth 100000
set_option linter.unusedVariables false
set_option linter.unusedSimpArgs false
open Go.RowKit Go.PlainAid
set_option maxRecDepth 100000 in
set_option maxHeartbeats 1000000 in
/-- A copy of nodes that lie in a block. -/
theorem copyX (g cap : Nat) (L : List Nd) (w : World) (h0 : L ≠ []) (hl : L.length ≤ 100) (hsrc0 : ∀ wx, Fr S0 w wx → ∀ j v, (nds L)[j]? = some v → wx.cell? ((⟨g, 0, none⟩ : Addr).add j) = some v) :
    Calls Tryz.prog 110 #[sl g L.length cap] w fun e w' => e = .returned (sl w.heap.size L.length L.length) ∧ w'.heap[w.heap.size]? = some (.cells (nds L).toArray 149 (0, 0)) ∧ Fr S0 w w' := by
  obtain ⟨i0, hi0, hz0, hz1, hzb⟩ := info_parts Tryz.info149
  have hpos : 0 < L.length := by cases L; exact absurd rfl h0; simp
  have hd : ((L.length : Int) == 0) = false := by simp; omega
  have hd2 : (L.length == 0) = false := by simp; omega
  have hd3 : ¬ L = [] := h0
  have hb := Bx.mk hsrc0
  have hcs := Bx.mk (nds_len L)
  have hsz := Bx.mk Tryz.size149
  have hones := Bx.mk (nds_one' L)
  clear h0 hsrc0
  go_enter Tryz.func110, Tryz.ntmps110
  go_wp2_with (first
    | (at_make; refine wpList_make_full _ rfl _ _ 103 rfl w.heap.size 149 i0 (ndV ⟨0, 0, 0, 0, 0, rz, rz⟩) 13 Tryz.underlying103 hi0 hz0 hz1 .i64 .i64 (L.length : Int) (L.length : Int) L.length rfl rfl rfl rfl (by rw [hzb]; omega) (by unfold maxLen; omega) (Nat.le_refl _) ?_; intro w1 hown hgr; obtain ⟨cur, hcur, hcsz⟩ := made_row hown; have hfr1 := Fr.of_grown hgr; have hsrc := Bx.mk (hb.out w1 (hfr1.mono (fun k e => by cases e))); clear hown hgr)
    | (refine wpList_copy_wide rfl (.tmp 10) (.tmp 11) 103 103 (by rfl) 149 13 Tryz.underlying103 hsz.out w.heap.size L.length L.length ⟨g, 0, none⟩ L.length cap (by rfl) (by rfl) cur 149 hcur (nds L) L.length (by simp) hcs.out hsrc.out (by rw [hcs.out, hcsz]; exact Nat.le_refl _) hones.out ?_))
  go_ret
  refine ⟨rfl, ?_, ?_⟩
  · rw [setRow_heap w1 w.heap.size cur _ 149 (0, 0) hcur]
    rw [List.drop_of_length_le (by rw [hcs.out]; simp [hcsz])]
    simp
  · refine ⟨hfr1.os, hfr1.tape, hfr1.output, by have := hfr1.size; simpa using this, fun k hk _ => ?_⟩
    rw [setRow_other w1 _ _ _ (by omega)]
    exact hfr1.block k hk (by simp)
theorem ndC_get (x : Nd) (k : Nat) (hk : k < 13) : (ndL x)[k]? = some (ndC x k) := by
  have : k = 0 ∨ k = 1 ∨ k = 2 ∨ k = 3 ∨ k = 4 ∨ k = 5 ∨ k = 6 ∨ k = 7 ∨ k = 8 ∨ k = 9 ∨ k = 10 ∨ k = 11 ∨ k = 12 := by omega
  rcases this with e | e | e | e | e | e | e | e | e | e | e | e | e <;> subst e <;> rfl
/-- The cells of the arena's first nodes. -/
theorem FM.src {w : World} {B : FB} {F : Fmr} (h : FM w B F) (hn : F.nn ≤ 24) : ∀ j v, (nds ((List.range F.nn).map F.arena))[j]? = some v → w.cell? ((⟨B.a, 0, none⟩ : Addr).add j) = some v := by
  intro j v hv
  have hj : j < F.nn * 13 := by
    apply Classical.byContradiction
    intro c
    rw [List.getElem?_eq_none (by rw [nds_len]; simp; omega)] at hv
    cases hv
  have hdm := Nat.div_add_mod j 13
  have hlt := Nat.mod_lt j (show 13 > 0 by omega)
  have hi : j / 13 < F.nn := Nat.div_lt_of_lt_mul (by omega)
  rw [show j = j / 13 * 13 + j % 13 from by omega, nds_get _ _ _ (by simpa using hi) hlt] at hv
  rw [ndC_get _ _ hlt] at hv
  have hc := h.arena.cell (j / 13) (j % 13) (by omega) hlt
  rw [show (⟨B.a, 0, none⟩ : Addr).add j = ⟨B.a, j, none⟩ from by unfold Addr.add; split <;> simp_all]
  rw [show j / 13 * 13 + j % 13 = j from by omega] at hc
  rw [hc, ← hv]
  simp
/-- Between calls. -/
def FZ (w : World) (B : FB) : Prop := ∃ F, FM w B F ∧ F.nt = 0 ∧ F.nn = 0 ∧ F.nv = 0 ∧ F.no = 0
theorem FM.zero4 {w : World} {B : FB} {F : Fmr} (h : FM w B F) : FZ ((((w.setCell ⟨B.f, 1, none⟩ (I 0)).setCell ⟨B.f, 5, none⟩ (I 0)).setCell ⟨B.f, 7, none⟩ (I 0)).setCell ⟨B.f, 9, none⟩ (I 0)) B := by
  have h1 := h.set (F' := { F with nt := 0 }) 1 (I 0) (by intro i hi; rcases i with _ | _ | _ | _ | _ | _ | _ | _ | _ | _ | _ | _ | _ | _ | _ | _ | _ | i <;> first | rfl | omega) rfl rfl rfl rfl rfl rfl rfl
  have h2 := h1.set (F' := { F with nt := 0, nn := 0 }) 5 (I 0) (by intro i hi; rcases i with _ | _ | _ | _ | _ | _ | _ | _ | _ | _ | _ | _ | _ | _ | _ | _ | _ | i <;> first | rfl | omega) rfl rfl rfl rfl rfl rfl rfl
  have h3 := h2.set (F' := { F with nt := 0, nn := 0, nv := 0 }) 7 (I 0) (by intro i hi; rcases i with _ | _ | _ | _ | _ | _ | _ | _ | _ | _ | _ | _ | _ | _ | _ | _ | _ | i <;> first | rfl | omega) rfl rfl rfl rfl rfl rfl rfl
  have h4 := h3.set (F' := { F with nt := 0, nn := 0, nv := 0, no := 0 }) 9 (I 0) (by intro i hi; rcases i with _ | _ | _ | _ | _ | _ | _ | _ | _ | _ | _ | _ | _ | _ | _ | _ | _ | i <;> first | rfl | omega) rfl rfl rfl rfl rfl rfl rfl
  exact ⟨_, h4, rfl, rfl, rfl, rfl⟩
theorem FM.zero6 {w : World} {B : FB} {F : Fmr} (h : FM w B F) : FM ((((((w.setCell ⟨B.f, 2, none⟩ (I 0)).setCell ⟨B.f, 3, none⟩ (I 0)).setCell ⟨B.f, 10, none⟩ (.bool false)).setCell ⟨B.f, 11, none⟩ (.bool false)).setCell ⟨B.f, 12, none⟩ (I 0)).setCell ⟨B.f, 13, none⟩ (I 0)) B { F with k := 0, pos := 0, hav := false, done := false, err := 0, bad := 0 } := by
  have h1 := h.set (F' := { F with k := 0 }) 2 (I 0) (by intro i hi; rcases i with _ | _ | _ | _ | _ | _ | _ | _ | _ | _ | _ | _ | _ | _ | _ | _ | _ | i <;> first | rfl | omega) rfl rfl rfl rfl rfl rfl rfl
  have h2 := h1.set (F' := { F with k := 0, pos := 0 }) 3 (I 0) (by intro i hi; rcases i with _ | _ | _ | _ | _ | _ | _ | _ | _ | _ | _ | _ | _ | _ | _ | _ | _ | i <;> first | rfl | omega) rfl rfl rfl rfl rfl rfl rfl
  have h3 := h2.set (F' := { F with k := 0, pos := 0, hav := false }) 10 (.bool false) (by intro i hi; rcases i with _ | _ | _ | _ | _ | _ | _ | _ | _ | _ | _ | _ | _ | _ | _ | _ | _ | i <;> first | rfl | omega) rfl rfl rfl rfl rfl rfl rfl
  have h4 := h3.set (F' := { F with k := 0, pos := 0, hav := false, done := false }) 11 (.bool false) (by intro i hi; rcases i with _ | _ | _ | _ | _ | _ | _ | _ | _ | _ | _ | _ | _ | _ | _ | _ | _ | i <;> first | rfl | omega) rfl rfl rfl rfl rfl rfl rfl
  have h5 := h4.set (F' := { F with k := 0, pos := 0, hav := false, done := false, err := 0 }) 12 (I 0) (by intro i hi; rcases i with _ | _ | _ | _ | _ | _ | _ | _ | _ | _ | _ | _ | _ | _ | _ | _ | _ | i <;> first | rfl | omega) rfl rfl rfl rfl rfl rfl rfl
  exact h5.set (F' := { F with k := 0, pos := 0, hav := false, done := false, err := 0, bad := 0 }) 13 (I 0) (by intro i hi; rcases i with _ | _ | _ | _ | _ | _ | _ | _ | _ | _ | _ | _ | _ | _ | _ | _ | _ | i <;> first | rfl | omega) rfl rfl rfl rfl rfl rfl rfl
/-! ### The loop's measure and its end -/
def errDone (e d : Option Value) : Nat :=
  match e, d with
  | some (.int _ x), some (.bool y) => if x = 0 ∧ y = false then 1 else 0
  | _, _ => 0
def pM (w : World) (f : Nat) : Nat := (42 - cellN w ⟨f, 2, none⟩) * 2 + errDone (w.cell? ⟨f, 12, none⟩) (w.cell? ⟨f, 11, none⟩)
section
variable {w : World} {B : FB} {b : Nat → Int} {n nt k : Nat} {st : RS}
theorem AF.flags (h : AF w B b n nt k st) : w.cell? ⟨B.f, 12, none⟩ = some (I st.err) ∧ w.cell? ⟨B.f, 11, none⟩ = some (.bool st.done) ∧ w.cell? ⟨B.f, 10, none⟩ = some (.bool st.hav) ∧ w.cell? ⟨B.f, 13, none⟩ = some (I st.bad) ∧ w.cell? ⟨B.f, 2, none⟩ = some (I k) := by
  obtain ⟨F, hF, hR, rfl, rfl⟩ := h
  have c12 := hF.row.cell 12 (by omega)
  have c11 := hF.row.cell 11 (by omega)
  have c10 := hF.row.cell 10 (by omega)
  have c13 := hF.row.cell 13 (by omega)
  have c2 := hF.row.cell 2 (by omega)
  simp only [fmC] at c12 c11 c10 c13 c2
  rw [hR.err] at c12; rw [hR.done] at c11; rw [hR.hav] at c10; rw [hR.bad] at c13
  exact ⟨c12, c11, c10, c13, c2⟩
theorem AF.pM (h : AF w B b n nt k st) : pM w B.f = (42 - k) * 2 + (if st.err = 0 ∧ st.done = false then 1 else 0) := by
  obtain ⟨h1, h2, -, -, h5⟩ := h.flags
  unfold Qxb6500326aGreat.pM cellN
  rw [h1, h2, h5]
  simp [errDone]
theorem ends_stepX {t : Tr} (h : Ends b n st t) (he : st.err = 0) (hd : st.done = false) : Ends b n (st.step b n) t := by
  obtain ⟨m, hm⟩ := h
  cases m with
  | zero => unfold runN at hm; rw [if_neg (by rw [he, hd]; simp)] at hm; cases hm
  | succ m => unfold runN at hm; rw [if_neg (by rw [he, hd]; simp)] at hm; exact ⟨m, hm⟩
theorem ends_outX {t : Tr} (h : Ends b n st t) (he : st.err ≠ 0 ∨ st.done = true) : st.out = t := by
  obtain ⟨m, hm⟩ := h
  cases m with
  | zero => unfold runN at hm; rw [if_pos he] at hm; injection hm
  | succ m => unfold runN at hm; rw [if_pos he] at hm; injection hm
end
/-- The machine ends with the model's tree. -/
theorem parse_ends (b : Nat → Int) (n : Nat) (hn : n ≤ 40) : Ends b n rs0 (parseM b n) := by
  have h := real_ends (b := b) hn
  rcases parse_law b n with ⟨e, hT, -⟩ | ⟨e, -⟩
  · rw [if_pos e] at h
    rw [show parseM b n = ⟨(parseM b n).nodes, ((parseM b n).nodes.length : Int) - 1, 0, 0⟩ from by
      have h1 := hT.root; have h2 := hT.err; have h3 := hT.pos
      cases hp : parseM b n with
      | mk a r e p => rw [hp] at h1 h2 h3; simp at h1 h2 h3 ⊢; exact ⟨h1, h2, h3⟩]
    exact h
  · rw [if_neg e] at h; exact h
theorem Toks.rel {b : Nat → Int} {n : Nat} {T : Nat → Tok} {nt : Nat} (h : Toks b n T nt) (hn : n ≤ 40) {F : Fmr} (h1 : F.nn = 0) (h2 : F.nv = 0) (h3 : F.no = 0) : Rel b n { F with toks := T, nt := nt, k := 0, pos := 0, hav := false, done := false, err := 0, bad := 0 } rs0 :=
  ⟨rfl, Nat.zero_le _, h.first, h.pos, by have := h.le; show nt ≤ 41; omega, h.chain, h.ends, by show [] = (List.range F.nn).map F.arena; rw [h1]; rfl, by show F.nn ≤ 24; omega, by show [] = ((List.range F.nv).map F.opnd).reverse; rw [h2]; rfl, by show [] = ((List.range F.no).map F.ops).reverse; rw [h3]; rfl, rfl, rfl, rfl, rfl⟩
theorem hts0 : Hts 0 0 rs0 := ⟨rfl, Nat.le_refl _, Nat.le_refl _, fun v hv => (by cases hv), fun m hm => (by cases hm), trivial, fun m hm => (by cases hm)⟩
end Go.Proofs.Qxb6500326aGreat
