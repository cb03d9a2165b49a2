/-
  DERIVED. THE PLAIN LAW OF LAYER edit, 3: moves and copies are turnings (LM); a move never lengthens.
-/
import Derived.Test.Qxb6500326aGreatS2
namespace Go.Proofs.Qxb6500326aGreat
set_option linter.unusedVariables false
set_option linter.unusedSimpArgs false

theorem inGrid_iff {r : Ref} : inGrid r = true ↔ 0 ≤ r.col ∧ r.col < 4 ∧ 0 ≤ r.row ∧ r.row < 6 := by
  simp [inGrid, and_assoc]
theorem ax_in {rows : Bool} {r : Ref} (h : inGrid r = true) : 0 ≤ ax rows r ∧ ax rows r < nAx rows := by
  rw [inGrid_iff] at h
  cases rows <;> simp [ax, nAx] <;> omega
theorem setAx_in {rows : Bool} {r : Ref} {v : Int} (h : inGrid r = true) (h0 : 0 ≤ v) (h1 : v < nAx rows) : inGrid (setAx rows r v) = true := by
  rw [inGrid_iff] at h ⊢
  cases rows <;> simp [setAx, nAx] at h1 ⊢ <;> omega
theorem grid_in {r : Ref} (h : inGrid r = true) : refIn r := by
  rw [inGrid_iff] at h
  exact ⟨by omega, by omega, by omega, by omega⟩
theorem point_bd {x n at_ : Int} {ins : Bool} (h0 : 0 ≤ x) (hn : x < n) (ha : 0 ≤ at_) (han : at_ < n) : pointP x n at_ ins < n := by
  unfold pointP
  cases ins <;> simp <;> (repeat' split) <;> omega
theorem stretch_bd {lo hi n at_ : Int} {ins : Bool} (h0 : 0 ≤ lo) (hl : lo ≤ hi) (hn : hi < n) (ha : 0 ≤ at_) (han : at_ < n) (hp : 0 ≤ (stretchP lo hi n at_ ins).1) :
    (stretchP lo hi n at_ ins).1 ≤ (stretchP lo hi n at_ ins).2 ∧ (stretchP lo hi n at_ ins).2 < n := by
  revert hp
  unfold stretchP
  cases ins <;> simp <;> (repeat' split) <;> simp <;> omega
section
variable {rows ins : Bool} {at_ : Int}
/-- What becomes of a reference within the grid. -/
theorem moveN_ref (ha : 0 ≤ at_) (han : at_ < nAx rows) {r : Ref} (hg : inGrid r = true) :
    (pointP (ax rows r) (nAx rows) at_ ins < 0 ∧ moveN rows ins at_ (nRef r) = nBad) ∨
    (0 ≤ pointP (ax rows r) (nAx rows) at_ ins ∧ moveN rows ins at_ (nRef r) = nRef (setAx rows r (pointP (ax rows r) (nAx rows) at_ ins)) ∧ inGrid (setAx rows r (pointP (ax rows r) (nAx rows) at_ ins)) = true) := by
  have e : moveN rows ins at_ (nRef r) = moveRf rows ins at_ (nRef r) := by unfold moveN; rw [if_pos ⟨rfl, hg⟩]
  rw [e]
  unfold moveRf
  obtain ⟨h0, h1⟩ := ax_in (rows := rows) hg
  by_cases hp : pointP (ax rows r) (nAx rows) at_ ins < 0
  · exact .inl ⟨hp, if_pos hp⟩
  · exact .inr ⟨by omega, if_neg hp, setAx_in hg (by omega) (point_bd h0 h1 ha han)⟩
theorem moveN_out {r : Ref} (hg : inGrid r = false) : moveN rows ins at_ (nRef r) = nRef r := by
  unfold moveN
  rw [if_neg (by rw [show (nRef r).r1 = r from rfl, hg]; simp), if_neg (by show ¬ ((3 : Int) = 4 ∧ _); simp)]
theorem moveN_rout {r s : Ref} (hg : blockOK r s = false) : moveN rows ins at_ (nRange r s) = nRange r s := by
  unfold moveN
  rw [if_neg (by show ¬ ((4 : Int) = 3 ∧ _); simp), if_neg (by rw [show (nRange r s).r1 = r from rfl, show (nRange r s).r2 = s from rfl, hg]; simp)]
def moveRg2 (rows ins : Bool) (at_ : Int) (r s : Ref) : Nd :=
  if ax rows s < ax rows r then
    (if (stretchP (ax rows s) (ax rows r) (nAx rows) at_ ins).1 < 0 then nBad
     else nRange (setAx rows r (stretchP (ax rows s) (ax rows r) (nAx rows) at_ ins).2) (setAx rows s (stretchP (ax rows s) (ax rows r) (nAx rows) at_ ins).1))
  else
    (if (stretchP (ax rows r) (ax rows s) (nAx rows) at_ ins).1 < 0 then nBad
     else nRange (setAx rows r (stretchP (ax rows r) (ax rows s) (nAx rows) at_ ins).1) (setAx rows s (stretchP (ax rows r) (ax rows s) (nAx rows) at_ ins).2))
/-- What becomes of a range within the grid: its lower end lo, its upper end hi. -/
theorem moveN_range (ha : 0 ≤ at_) (han : at_ < nAx rows) {r s : Ref} (hg : blockOK r s = true) :
    ∃ lo hi : Int, lo = lesser (ax rows r) (ax rows s) ∧ hi = greater (ax rows r) (ax rows s) ∧
    (((stretchP lo hi (nAx rows) at_ ins).1 < 0 ∧ moveN rows ins at_ (nRange r s) = nBad) ∨
     (0 ≤ (stretchP lo hi (nAx rows) at_ ins).1 ∧ ∃ r' s', moveN rows ins at_ (nRange r s) = nRange r' s' ∧ inGrid r' = true ∧ inGrid s' = true ∧
       lesser (ax rows r') (ax rows s') = (stretchP lo hi (nAx rows) at_ ins).1 ∧ greater (ax rows r') (ax rows s') = (stretchP lo hi (nAx rows) at_ ins).2 ∧
       r'.absC = r.absC ∧ r'.absR = r.absR ∧ s'.absC = s.absC ∧ s'.absR = s.absR ∧ ax (!rows) r' = ax (!rows) r ∧ ax (!rows) s' = ax (!rows) s)) := by
  have e : moveN rows ins at_ (nRange r s) = moveRg2 rows ins at_ r s := by
    unfold moveN
    rw [if_neg (by show ¬ ((4 : Int) = 3 ∧ _); simp), if_pos ⟨rfl, hg⟩]
    rfl
  have hg2 : inGrid r = true ∧ inGrid s = true := by simpa [blockOK] using hg
  obtain ⟨h0, h1⟩ := ax_in (rows := rows) hg2.1
  obtain ⟨k0, k1⟩ := ax_in (rows := rows) hg2.2
  refine ⟨_, _, rfl, rfl, ?_⟩
  rw [e]
  unfold moveRg2
  have hset : ∀ (r : Ref) (v : Int), ax rows (setAx rows r v) = v ∧ ax (!rows) (setAx rows r v) = ax (!rows) r ∧ (setAx rows r v).absC = r.absC ∧ (setAx rows r v).absR = r.absR := by
    intro r v; cases rows <;> exact ⟨rfl, rfl, rfl, rfl⟩
  by_cases hlt : ax rows s < ax rows r
  · have el : lesser (ax rows r) (ax rows s) = ax rows s := by unfold lesser; rw [if_pos (by simpa using hlt)]
    have eg : greater (ax rows r) (ax rows s) = ax rows r := by unfold greater; rw [if_pos (by simpa using hlt)]
    rw [el, eg, if_pos hlt]
    by_cases hp : (stretchP (ax rows s) (ax rows r) (nAx rows) at_ ins).1 < 0
    · exact .inl ⟨hp, if_pos hp⟩
    · obtain ⟨b1, b2⟩ := stretch_bd (ins := ins) k0 (by omega) h1 ha han (by omega)
      refine .inr ⟨by omega, _, _, if_neg hp, setAx_in hg2.1 (by omega) b2, setAx_in hg2.2 (by omega) (by omega), ?_, ?_, (hset _ _).2.2.1, (hset _ _).2.2.2, (hset _ _).2.2.1, (hset _ _).2.2.2, (hset _ _).2.1, (hset _ _).2.1⟩
      · show lesser (ax rows (setAx rows r _)) (ax rows (setAx rows s _)) = _
        rw [(hset _ _).1, (hset _ _).1]; unfold lesser
        simp only [decide_eq_true_eq]; split <;> omega
      · show greater (ax rows (setAx rows r _)) (ax rows (setAx rows s _)) = _
        rw [(hset _ _).1, (hset _ _).1]; unfold greater
        simp only [decide_eq_true_eq]; split <;> omega
  · have el : lesser (ax rows r) (ax rows s) = ax rows r := by unfold lesser; rw [if_neg (by simpa using hlt)]
    have eg : greater (ax rows r) (ax rows s) = ax rows s := by unfold greater; rw [if_neg (by simpa using hlt)]
    rw [el, eg, if_neg hlt]
    by_cases hp : (stretchP (ax rows r) (ax rows s) (nAx rows) at_ ins).1 < 0
    · exact .inl ⟨hp, if_pos hp⟩
    · obtain ⟨b1, b2⟩ := stretch_bd (ins := ins) h0 (by omega) k1 ha han (by omega)
      refine .inr ⟨by omega, _, _, if_neg hp, setAx_in hg2.1 (by omega) (by omega), setAx_in hg2.2 (by omega) b2, ?_, ?_, (hset _ _).2.2.1, (hset _ _).2.2.2, (hset _ _).2.2.1, (hset _ _).2.2.2, (hset _ _).2.1, (hset _ _).2.1⟩
      · show lesser (ax rows (setAx rows r _)) (ax rows (setAx rows s _)) = _
        rw [(hset _ _).1, (hset _ _).1]; unfold lesser
        simp only [decide_eq_true_eq]; split <;> omega
      · show greater (ax rows (setAx rows r _)) (ax rows (setAx rows s _)) = _
        rw [(hset _ _).1, (hset _ _).1]; unfold greater
        simp only [decide_eq_true_eq]; split <;> omega
theorem moveN_lm (ha : 0 ≤ at_) (han : at_ < nAx rows) : LM (moveN rows ins at_) := by
  refine ⟨fun x h3 h4 => ?_, fun r hr => ?_, fun r s hr hs => ?_⟩
  · unfold moveN; rw [if_neg (fun e => h3 e.1), if_neg (fun e => h4 e.1)]
  · cases hg : inGrid r
    · exact .inl ⟨r, moveN_out hg, hr⟩
    · rcases moveN_ref (ins := ins) ha han hg with ⟨-, e⟩ | ⟨-, e, h⟩
      · exact .inr e
      · exact .inl ⟨_, e, grid_in h⟩
  · cases hg : blockOK r s
    · exact .inl ⟨r, s, moveN_rout hg, hr, hs⟩
    · obtain ⟨lo, hi, -, -, h⟩ := moveN_range (ins := ins) ha han hg
      rcases h with ⟨-, e⟩ | ⟨-, r', s', e, h1, h2, -⟩
      · exact .inr e
      · exact .inl ⟨r', s', e, grid_in h1, grid_in h2⟩
/-! ### a move never lengthens -/
theorem dec_len1 {v : Int} (h0 : 0 ≤ v) (h1 : v < 10) : (dec v).length = 1 := by
  unfold dec decF
  rw [if_pos (by omega)]
  rfl
theorem refTxt_grid {r : Ref} (h : inGrid r = true) : (refTxt r).length = 2 + (if r.absC = true then 1 else 0) + (if r.absR = true then 1 else 0) := by
  rw [inGrid_iff] at h
  unfold refTxt
  have := dec_len1 (v := r.row + 1) (by omega) (by omega)
  cases r.absC <;> cases r.absR <;> simp [this]
theorem decF_posM : ∀ (f v : Nat) (T : List Int), 0 < f → T.length < (decF f v T).length
  | 0, _, _, h => absurd h (by omega)
  | f + 1, v, T, _ => by
    unfold decF
    split
    · simp
    · rcases Nat.eq_zero_or_pos f with e | e
      · subst e; simp [decF]
      · have := decF_posM f (v / 10) (((48 + v % 10 : Nat) : Int) :: T) e
        simp only [List.length_cons] at this; omega
theorem refTxt_two (r : Ref) : 2 ≤ (refTxt r).length := by
  unfold refTxt dec
  have := decF_posM 20 (r.row + 1).toNat [] (by omega)
  simp only [List.length_nil] at this
  simp only [List.length_append, List.length_cons]
  omega
theorem moveN_len (ha : 0 ≤ at_) (han : at_ < nAx rows) {x : Nd} (hx : NdRef x) : (leafTxt (moveN rows ins at_ x)).length ≤ (leafTxt x).length := by
  rcases hx with ⟨r, rfl, hr⟩ | ⟨r, s, rfl, hr, hs⟩ | ⟨h3, h4, -, -⟩
  · cases hg : inGrid r
    · rw [moveN_out hg]; exact Nat.le_refl _
    · rcases moveN_ref (ins := ins) ha han hg with ⟨-, e⟩ | ⟨-, e, h⟩
      · rw [e]; exact refTxt_two r
      · rw [e]
        show (refTxt (setAx rows r (pointP (ax rows r) (nAx rows) at_ ins))).length ≤ (refTxt r).length
        rw [refTxt_grid h, refTxt_grid hg]
        cases rows <;> exact Nat.le_refl _
  · cases hg : blockOK r s
    · rw [moveN_rout hg]; exact Nat.le_refl _
    · have hg2 : inGrid r = true ∧ inGrid s = true := by simpa [blockOK] using hg
      obtain ⟨lo, hi, -, -, h⟩ := moveN_range (ins := ins) ha han hg
      rcases h with ⟨-, e⟩ | ⟨-, r', s', e, h1, h2, -, -, q1, q2, q3, q4, -, -⟩
      · rw [e]
        show 2 ≤ (refTxt r ++ 58 :: refTxt s).length
        have := refTxt_two r
        simp only [List.length_append, List.length_cons]; omega
      · rw [e]
        show (refTxt r' ++ 58 :: refTxt s').length ≤ (refTxt r ++ 58 :: refTxt s).length
        simp only [List.length_append, List.length_cons]
        rw [refTxt_grid h1, refTxt_grid h2, refTxt_grid hg2.1, refTxt_grid hg2.2, q1, q2, q3, q4]
        exact Nat.le_refl _
  · rw [(moveN_lm ha han).other x h3 h4]; exact Nat.le_refl _
end
/-- Texts of turned trees: no longer, if no leaf's is. -/
theorem args_le {g : Nd → Nd} (h : LM g) {L : List Nd} {s s' : Nat → Int → List Int} (hs : ∀ i need, (s' i need).length ≤ (s i need).length) (hn : ∀ j, NdRef (nd L j)) :
    ∀ (m i : Nat), (nd L i).kind = 9 ∨ True → (argsS s' (L.map g) m i).length ≤ (argsS s L m i).length := by
  intro m
  induction m with
  | zero => intro i _; exact Nat.le_refl _
  | succ m ih =>
    intro i _
    unfold argsS
    rw [nd_map h.bad]
    have hab : (g (nd L i)).a = (nd L i).a ∧ (g (nd L i)).b = (nd L i).b := by
      rcases hn i with ⟨r, e, hr⟩ | ⟨r, t, e, hr, ht⟩ | ⟨h3, h4, -, -⟩
      · rw [e]; rcases h.ref r hr with ⟨r', e, -⟩ | e <;> rw [e] <;> exact ⟨rfl, rfl⟩
      · rw [e]; rcases h.range r t hr ht with ⟨r', t', e, -⟩ | e <;> rw [e] <;> exact ⟨rfl, rfl⟩
      · rw [h.other _ h3 h4]; exact ⟨rfl, rfl⟩
    rw [hab.1, hab.2]
    split
    · exact hs _ _
    · simp only [List.length_append, List.length_cons]
      have := ih (nd L i).b.toNat (.inr trivial)
      have := hs (nd L i).a.toNat 1
      omega
theorem bracket_leM {lv need : Int} {s s' : List Int} (h : s'.length ≤ s.length) : (bracket lv need s').length ≤ (bracket lv need s).length := by
  unfold bracket; split
  · simp; omega
  · exact h
theorem show_le {g : Nd → Nd} (h : LM g) {L : List Nd} (hn : ∀ j, NdRef (nd L j)) (hl : ∀ x, NdRef x → (leafTxt (g x)).length ≤ (leafTxt x).length) :
    ∀ (f i : Nat) (need : Int), (showS (L.map g) f i need).length ≤ (showS L f i need).length := by
  intro f
  induction f with
  | zero => intro i need; exact Nat.le_refl _
  | succ f ih =>
    intro i need
    unfold showS
    simp only [nd_map h.bad, level_map h (hn i)]
    refine bracket_leM ?_
    rcases hn i with ⟨r, e, hr⟩ | ⟨r, t, e, hr, ht⟩ | ⟨h3, h4, -, -⟩
    · have hk : (g (nd L i)).kind = 3 ∨ (g (nd L i)).kind = 5 := by
        rw [e]; rcases h.ref r hr with ⟨r', e, -⟩ | e <;> rw [e]
        · exact .inl rfl
        · exact .inr rfl
      have hk2 : (nd L i).kind = 3 := by rw [e]; rfl
      rw [if_neg (by omega), if_neg (by omega), if_neg (by omega), if_neg (by omega), if_neg (by omega), if_neg (by omega)]
      exact hl _ (hn i)
    · have hk : (g (nd L i)).kind = 4 ∨ (g (nd L i)).kind = 5 := by
        rw [e]; rcases h.range r t hr ht with ⟨r', t', e, -⟩ | e <;> rw [e]
        · exact .inl rfl
        · exact .inr rfl
      have hk2 : (nd L i).kind = 4 := by rw [e]; rfl
      rw [if_neg (by omega), if_neg (by omega), if_neg (by omega), if_neg (by omega), if_neg (by omega), if_neg (by omega)]
      exact hl _ (hn i)
    · rw [h.other _ h3 h4]
      split
      · simp only [List.length_cons]; have := ih (nd L i).a.toNat 4; omega
      · split
        · simp only [List.length_append]
          have := ih (nd L i).a.toNat (leftNeed (level (nd L i)))
          have := ih (nd L i).b.toNat (level (nd L i) + 1)
          omega
        · split
          · simp only [List.length_append, List.length_cons]
            have := args_le h ih hn f (nd L i).a.toNat (.inr trivial)
            omega
          · exact Nat.le_refl _
theorem TreeOK.all_ref {t : Tr} (h : TreeOK t) (j : Nat) : NdRef (nd t.nodes j) := by
  rcases Nat.lt_or_ge j t.nodes.length with hj | hj
  · exact h.nodes_ref hj
  · unfold nd
    rw [List.getElem?_eq_none hj]
    exact .inr (.inr ⟨by decide, by decide, rfl, rfl⟩)
/-- A moved tree's text is no longer. -/
theorem print_move_le {rows ins : Bool} {at_ : Int} (ha : 0 ≤ at_) (han : at_ < nAx rows) {t : Tr} (ht : TreeOK t) : (printOf (mapT (moveN rows ins at_) t)).length ≤ (printOf t).length := by
  unfold printOf tx mapT
  simp only [List.length_map]
  exact show_le (moveN_lm ha han) ht.all_ref (fun x hx => moveN_len ha han hx) _ _ _
end Go.Proofs.Qxb6500326aGreat
