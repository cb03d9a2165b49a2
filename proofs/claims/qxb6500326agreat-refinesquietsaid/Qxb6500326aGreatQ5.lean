/-
  DERIVED. PLAIN: a lawful tree's text filled from its end is its text.
-/
import Derived.Test.Qxb6500326aGreatQ4
namespace Go.Proofs.Qxb6500326aGreat
set_option linter.unusedVariables false
set_option linter.unusedSimpArgs false
section
variable {L : List Nd}
/-- What fill knows of the nodes: the parent (or -1), in brackets. -/
abbrev Notes := Nat → Int × Bool
def setN (N : Notes) (k : Nat) (v : Int × Bool) : Notes := fun j => if j = k then v else N j
theorem setN_same (N : Notes) (k : Nat) (v : Int × Bool) : setN N k v k = v := by simp [setN]
theorem setN_other (N : Notes) {k j : Nat} (v : Int × Bool) (h : j ≠ k) : setN N k v j = N j := by simp [setN, h]
def kid (L : List Nd) (N : Notes) (c p : Nat) (need : Int) : Notes := setN N c ((p : Int), decide (level (nd L c) < need))
theorem kid_same (N : Notes) (c p : Nat) (need : Int) : kid L N c p need c = ((p : Int), decide (level (nd L c) < need)) := setN_same _ _ _
theorem kid_other (N : Notes) {c p j : Nat} (need : Int) (h : j ≠ c) : kid L N c p need j = N j := setN_other _ _ h
/-- Up from node c, whose text is whole in T: none if it does not end in m rounds, or a parent stands no later than its child. -/
def climbF (L : List Nd) (N : Notes) : Nat → Nat → List Int → Option (List Int)
  | 0, _, _ => none
  | m + 1, c, T =>
    if (N c).1 < 0 then some T
    else if (N c).1 ≤ (c : Int) ∨ (L.length : Int) ≤ (N c).1 then none
    else
      let p := (N c).1.toNat
      let x := nd L p
      let go := fun T => climbF L N m p (if (N p).2 = true then 40 :: T else T)
      if x.kind = 6 then go (45 :: T)
      else if x.kind = 7 then (if (c : Int) = x.b then some (opTxt x.op ++ T) else go T)
      else if x.kind = 9 then (if (c : Int) = x.a ∧ 0 ≤ x.b then some (44 :: T) else go T)
      else go (fnName x.op ++ 40 :: T)
structure FS where
  T : List Int
  N : Notes
/-- The turn of node i. -/
def Turn (L : List Nd) (i : Nat) (s s' : FS) : Prop :=
  let x := nd L i
  let T1 := if (s.N i).2 = true ∨ x.kind = 8 then 41 :: s.T else s.T
  if x.kind = 6 then s' = ⟨T1, kid L s.N x.a.toNat i 4⟩
  else if x.kind = 7 then s' = ⟨T1, kid L (kid L s.N x.b.toNat i (strength x.op + 1)) x.a.toNat i (leftNeed (strength x.op))⟩
  else if x.kind = 8 then s' = ⟨T1, kid L s.N x.a.toNat i 1⟩
  else if x.kind = 9 then s' = ⟨T1, if 0 ≤ x.b then kid L (kid L s.N x.a.toNat i 1) x.b.toNat i 1 else kid L s.N x.a.toNat i 1⟩
  else s'.N = s.N ∧ ∃ m, climbF L s.N m i (leafTxt x ++ T1) = some s'.T
/-- The turns of the k nodes from lo on, the last first. -/
def Fill (L : List Nd) (lo : Nat) : Nat → FS → FS → Prop
  | 0, s, s' => s = s'
  | k + 1, s, s' => ∃ s1, Turn L (lo + k) s s1 ∧ Fill L lo k s1 s'
theorem fill_app {lo : Nat} : ∀ (k1 k2 : Nat) {s s1 s2 : FS}, Fill L (lo + k2) k1 s s1 → Fill L lo k2 s1 s2 → Fill L lo (k1 + k2) s s2
  | 0, k2, s, s1, s2, h1, h2 => by
    have : s = s1 := h1
    rw [this, Nat.zero_add]; exact h2
  | k1 + 1, k2, s, s1, s2, h1, h2 => by
    obtain ⟨u, h3, h4⟩ := h1
    rw [show k1 + 1 + k2 = (k1 + k2) + 1 from by omega]
    exact ⟨u, by rw [show lo + (k1 + k2) = lo + k2 + k1 from by omega]; exact h3, fill_app k1 k2 h4 h2⟩
/-- Only what stands from c on is looked at. -/
theorem climb_congr {N N' : Notes} : ∀ (m c : Nat) (T : List Int), (∀ j, c ≤ j → N j = N' j) → climbF L N m c T = climbF L N' m c T
  | 0, _, _, _ => rfl
  | m + 1, c, T, h => by
    unfold climbF
    rw [← h c (Nat.le_refl _)]
    by_cases h1 : (N c).1 < 0
    · rw [if_pos h1, if_pos h1]
    rw [if_neg h1, if_neg h1]
    by_cases h2 : (N c).1 ≤ (c : Int) ∨ (L.length : Int) ≤ (N c).1
    · rw [if_pos h2, if_pos h2]
    rw [if_neg h2, if_neg h2]
    have hp : c ≤ (N c).1.toNat := by omega
    have hg : ∀ T, climbF L N m (N c).1.toNat T = climbF L N' m (N c).1.toNat T := fun T => climb_congr m _ T (fun j hj => h j (by omega))
    simp only [← h _ hp, hg]
/-- One step up. -/
theorem climb_up {N : Notes} {c i m : Nat} {T : List Int} {br : Bool} (hN : N c = ((i : Int), br)) (hci : c < i) (hi : i < L.length) :
    climbF L N (m + 1) c T = (
      let go := fun T => climbF L N m i (if (N i).2 = true then 40 :: T else T)
      if (nd L i).kind = 6 then go (45 :: T)
      else if (nd L i).kind = 7 then (if (c : Int) = (nd L i).b then some (opTxt (nd L i).op ++ T) else go T)
      else if (nd L i).kind = 9 then (if (c : Int) = (nd L i).a ∧ 0 ≤ (nd L i).b then some (44 :: T) else go T)
      else go (fnName (nd L i).op ++ 40 :: T)) := by
  conv => lhs; unfold climbF
  rw [hN, if_neg (by show ¬ (i : Int) < 0; omega), if_neg (by show ¬ ((i : Int) ≤ c ∨ (L.length : Int) ≤ i); omega)]
  simp only [show ((i : Int)).toNat = i from by omega]

def Agree (N N' : Notes) (lo i : Nat) : Prop := ∀ j, (j < lo ∨ i ≤ j) → N' j = N j
theorem brk_txt {lv need : Int} {X T : List Int} : (if decide (lv < need) = true then 40 :: (X ++ (if decide (lv < need) = true then 41 :: T else T)) else X ++ (if decide (lv < need) = true then 41 :: T else T)) = bracket lv need X ++ T := by
  unfold bracket
  by_cases h : lv < need
  · simp [h]
  · simp [h]
def FillOK (L : List Nd) (i lo : Nat) : Prop := ∀ (need : Int) (up : Int) (T T' : List Int) (N : Notes) (m : Nat), need ≤ 5 → N i = (up, decide (level (nd L i) < need)) →
  climbF L N m i (tx L i need ++ T) = some T' → ∃ N', Agree N N' lo i ∧ Fill L lo (i + 1 - lo) ⟨T, N⟩ ⟨T', N'⟩
def FillLk (L : List Nd) (i lo : Nat) : Prop := ∀ (up : Int) (T T' : List Int) (N : Notes) (m : Nat), N i = (up, false) →
  climbF L N m i (axt L i ++ T) = some T' → ∃ N', Agree N N' lo i ∧ Fill L lo (i + 1 - lo) ⟨T, N⟩ ⟨T', N'⟩
theorem level_one (x : Nd) : decide (level x < 1) = false := by
  have : 1 ≤ level x := by unfold level; repeat' split
                           all_goals decide
  simp; omega
theorem fill_leaf {i : Nat} {arg : Bool} (hl : Leaf (nd L i) arg) : FillOK L i i := by
  intro need up T T' N m hn hN hc
  obtain ⟨h1, h2, h3, h4⟩ := leaf_kind hl
  have h9 : (nd L i).kind ≠ 9 := by
    rcases hl with ⟨v, e, _⟩ | e | e | ⟨r, e, _⟩ | e | ⟨_, r, s, e, _⟩ <;> rw [e] <;> (intro hh; cases hh)
  rw [tx_leaf hl hn] at hc
  refine ⟨N, fun j _ => rfl, ?_⟩
  rw [show i + 1 - i = 0 + 1 from by omega]
  refine ⟨⟨T', N⟩, ?_, rfl⟩
  unfold Turn
  simp only [Nat.add_zero]
  rw [if_neg h1, if_neg h2, if_neg h3, if_neg h9]
  refine ⟨trivial, m, ?_⟩
  rw [if_neg (by rw [hN]; simp [h4, h3]; omega)]
  exact hc
theorem fill_one {i lo : Nat} (hlo : lo ≤ i) {s s1 s2 : FS} (h1 : Turn L i s s1) (h2 : Fill L lo (i - lo) s1 s2) : Fill L lo (i + 1 - lo) s s2 := by
  rw [show i + 1 - lo = (i - lo) + 1 from by omega]
  exact ⟨s1, by rw [show lo + (i - lo) = i from by omega]; exact h1, h2⟩
theorem fill_neg {i lo : Nat} (hi : i < L.length) (h1 : 1 ≤ i) (h2 : nd L i = nNeg ((i : Int) - 1)) (hlo : lo ≤ i - 1) (hc : FillOK L (i - 1) lo) : FillOK L i lo := by
  intro need up T T' N m hn hN hcl
  have hk : (nd L i).kind = 6 := by rw [h2]; rfl
  have ha : (nd L i).a = (i : Int) - 1 := by rw [h2]; rfl
  have hlev : level (nd L i) = 4 := by rw [h2]; rfl
  have hT : Turn L i ⟨T, N⟩ ⟨if decide (level (nd L i) < need) = true then 41 :: T else T, kid L N (i - 1) i 4⟩ := by
    unfold Turn
    simp only []
    rw [if_pos hk, ha, show ((i : Int) - 1).toNat = i - 1 from by omega, hN, hk]
    simp
  have hNi : kid L N (i - 1) i 4 i = N i := setN_other _ _ (by omega)
  have hup : climbF L (kid L N (i - 1) i 4) (m + 1) (i - 1) (tx L (i - 1) 4 ++ (if decide (level (nd L i) < need) = true then 41 :: T else T)) = some T' := by
    rw [climb_up (i := i) (kid_same _ _ _ _) (by omega) hi]
    simp only []
    rw [if_pos hk, hNi, hN]
    rw [climb_congr (N := kid L N (i - 1) i 4) m i _ (N' := N) (fun j hj => kid_other N 4 (by omega))]
    rw [← hcl, tx_neg h1 h2, hlev, ← brk_txt]
    rfl
  obtain ⟨N', hA, hF⟩ := hc 4 i _ T' _ (m + 1) (by decide) (setN_same _ _ _) hup
  refine ⟨N', fun j hj => ?_, fill_one (by omega) hT (by rw [show i - lo = i - 1 + 1 - lo from by omega]; exact hF)⟩
  rw [hA j (by omega)]
  exact setN_other _ _ (by omega)
theorem fill_bin {i m lo : Nat} {f : Nat} {op : Int} (hi : i < L.length) (h1 : 1 ≤ i) (hm : 1 ≤ m) (h5 : nd L i = nBin op ((m : Int) - 1) ((i : Int) - 1)) (h6 : Sp L f (i - 1) m false) (h7 : Sp L f (m - 1) lo false)
    (hB : FillOK L (i - 1) m) (hA : FillOK L (m - 1) lo) : FillOK L i lo := by
  intro need up T T' N k hn hN hcl
  have hk : (nd L i).kind = 7 := by rw [h5]; rfl
  have ha : (nd L i).a = (m : Int) - 1 := by rw [h5]; rfl
  have hb : (nd L i).b = (i : Int) - 1 := by rw [h5]; rfl
  have ho : (nd L i).op = op := by rw [h5]; rfl
  have hlev : level (nd L i) = strength op := by rw [h5]; rfl
  have hle6 := Sp.le _ _ _ _ h6
  have hle7 := Sp.le _ _ _ _ h7
  have hnd := bin_need op ((m : Int) - 1) ((i : Int) - 1)
  rw [← h5, hlev] at hnd
  generalize hT1 : (if decide (level (nd L i) < need) = true then 41 :: T else T) = T1
  generalize hN2 : kid L (kid L N (i - 1) i (strength op + 1)) (m - 1) i (leftNeed (strength op)) = N2
  have hT : Turn L i ⟨T, N⟩ ⟨T1, N2⟩ := by
    unfold Turn
    simp only []
    rw [if_neg (by rw [hk]; decide), if_pos hk, ha, hb, ho, show ((i : Int) - 1).toNat = i - 1 from by omega, show ((m : Int) - 1).toNat = m - 1 from by omega, hN, hk, hN2, ← hT1]
    simp
  have hNB : N2 (i - 1) = ((i : Int), decide (level (nd L (i - 1)) < strength op + 1)) := by
    rw [← hN2]; unfold kid; rw [setN_other _ _ (by omega), setN_same]
  have hNA : N2 (m - 1) = ((i : Int), decide (level (nd L (m - 1)) < leftNeed (strength op))) := by rw [← hN2]; exact setN_same _ _ _
  have hNo : ∀ j, j ≠ i - 1 → j ≠ m - 1 → N2 j = N j := by
    intro j g1 g2; rw [← hN2]; unfold kid; rw [setN_other _ _ g2, setN_other _ _ g1]
  have hupB : climbF L N2 (0 + 1) (i - 1) (tx L (i - 1) (strength op + 1) ++ T1) = some (opTxt op ++ (tx L (i - 1) (strength op + 1) ++ T1)) := by
    rw [climb_up (i := i) hNB (by omega) hi]
    simp only []
    rw [if_neg (by rw [hk]; decide), if_pos hk, if_pos (by rw [hb]; omega), ho]
  obtain ⟨N3, hA3, hF3⟩ := hB _ i _ _ _ _ hnd.2 hNB hupB
  have hN3A : N3 (m - 1) = ((i : Int), decide (level (nd L (m - 1)) < leftNeed (strength op))) := by rw [hA3 _ (by omega), hNA]
  have hN3i : ∀ j, i ≤ j → N3 j = N j := by
    intro j hj; rw [hA3 _ (by omega), hNo _ (by omega) (by omega)]
  have hupA : climbF L N3 (k + 1) (m - 1) (tx L (m - 1) (leftNeed (strength op)) ++ (opTxt op ++ (tx L (i - 1) (strength op + 1) ++ T1))) = some T' := by
    rw [climb_up (i := i) hN3A (by omega) hi]
    simp only []
    rw [if_neg (by rw [hk]; decide), if_pos hk, if_neg (by rw [hb]; omega), hN3i i (Nat.le_refl _), hN]
    rw [← hcl, tx_bin h1 hm h5 h6 h7, ← brk_txt, hT1, hlev]
    rw [climb_congr k i _ (N' := N) hN3i]
    simp only [List.append_assoc]
  obtain ⟨N4, hA4, hF4⟩ := hA _ i _ T' _ (k + 1) hnd.1 hN3A hupA
  refine ⟨N4, fun j hj => ?_, fill_one (by omega) hT ?_⟩
  · rw [hA4 j (by omega)]
    rcases hj with hj | hj
    · rw [hA3 j (by omega), hNo j (by omega) (by omega)]
    · exact hN3i j hj
  · rw [show i - lo = (i - 1 + 1 - m) + (m - 1 + 1 - lo) from by omega]
    exact fill_app _ _ (by rw [show lo + (m - 1 + 1 - lo) = m from by omega]; exact hF3) hF4
theorem fill_call {i lo : Nat} {f kk : Nat} {op k : Int} {rg : Bool} (hi : i < L.length) (h1 : 1 ≤ i) (h2 : nd L i = nCall op ((i : Int) - 1) k) (h4 : Lk (Sp L f) L rg kk (i - 1) lo) (hlo : lo ≤ i - 1) (hc : FillLk L (i - 1) lo) (hk9 : (nd L (i - 1)).kind = 9) : FillOK L i lo := by
  intro need up T T' N m hn hN hcl
  have hk : (nd L i).kind = 8 := by rw [h2]; rfl
  have ha : (nd L i).a = (i : Int) - 1 := by rw [h2]; rfl
  have ho : (nd L i).op = op := by rw [h2]; rfl
  have hlev : level (nd L i) = 5 := by rw [h2]; rfl
  have hT : Turn L i ⟨T, N⟩ ⟨41 :: T, kid L N (i - 1) i 1⟩ := by
    unfold Turn
    simp only []
    rw [if_neg (by rw [hk]; decide), if_neg (by rw [hk]; decide), if_pos hk, ha, show ((i : Int) - 1).toNat = i - 1 from by omega, if_pos (.inr hk)]
  have hNi : kid L N (i - 1) i 1 i = N i := setN_other _ _ (by omega)
  have hNc : kid L N (i - 1) i 1 (i - 1) = ((i : Int), false) := by unfold kid; rw [setN_same, level_one]
  have hup : climbF L (kid L N (i - 1) i 1) (m + 1) (i - 1) (axt L (i - 1) ++ 41 :: T) = some T' := by
    rw [climb_up (i := i) hNc (by omega) hi]
    simp only []
    rw [if_neg (by rw [hk]; decide), if_neg (by rw [hk]; decide), if_neg (by rw [hk]; decide), hNi, hN, ho]
    rw [if_neg (by simp [hlev]; omega)]
    rw [← hcl, tx_call h1 h2 h4 hn]
    rw [climb_congr (N := kid L N (i - 1) i 1) m i _ (N' := N) (fun j hj => kid_other N 1 (by omega))]
    simp
  obtain ⟨N', hA, hF⟩ := hc i _ T' _ (m + 1) hNc hup
  refine ⟨N', fun j hj => ?_, fill_one (by omega) hT (by rw [show i - lo = i - 1 + 1 - lo from by omega]; exact hF)⟩
  rw [hA j (by omega)]
  exact setN_other _ _ (by omega)
theorem fill_links {f : Nat} {rg : Bool} (hS : ∀ i lo a, Sp L f i lo a → FillOK L i lo) : ∀ (k i lo : Nat), Lk (Sp L f) L rg k i lo → FillLk L i lo
  | 0, _, _, h => h.elim
  | k + 1, i, lo, h => by
    obtain ⟨a1, a2, m, h3, h4⟩ := h
    have hle := Sp.le _ _ _ _ h3
    intro up T T' N q hN hcl
    have hNa : ∀ N : Notes, kid L N (i - 1) i 1 (i - 1) = ((i : Int), decide (level (nd L (i - 1)) < 1)) := fun N => setN_same _ _ _
    rcases h4 with ⟨_, e, el⟩ | ⟨_, hm, e, d⟩
    · have hk : (nd L i).kind = 9 := by rw [e]; rfl
      have ha : (nd L i).a = (i : Int) - 1 := by rw [e]; rfl
      have hb : (nd L i).b = -1 := by rw [e]; rfl
      have hT : Turn L i ⟨T, N⟩ ⟨T, kid L N (i - 1) i 1⟩ := by
        unfold Turn
        simp only []
        rw [if_neg (by rw [hk]; decide), if_neg (by rw [hk]; decide), if_neg (by rw [hk]; decide), if_pos hk, ha, hb, show ((i : Int) - 1).toNat = i - 1 from by omega, if_neg (by rw [hN, hk]; simp), if_neg (by decide)]
      have hup : climbF L (kid L N (i - 1) i 1) (q + 1) (i - 1) (tx L (i - 1) 1 ++ T) = some T' := by
        rw [climb_up (i := i) (hNa N) (by omega) a2]
        simp only []
        rw [if_neg (by rw [hk]; decide), if_neg (by rw [hk]; decide), if_pos hk, if_neg (by rw [hb]; omega), show kid L N (i - 1) i 1 i = N i from setN_other _ _ (by omega), hN]
        rw [← hcl, axt_one a1 e]
        rw [climb_congr (N := kid L N (i - 1) i 1) q i _ (N' := N) (fun j hj => kid_other N 1 (by omega))]
        rfl
      obtain ⟨N', hA, hF⟩ := hS _ _ _ h3 1 i _ T' _ (q + 1) (by decide) (hNa N) hup
      subst el
      refine ⟨N', fun j hj => ?_, fill_one (by omega) hT (by rw [show i - lo = i - 1 + 1 - lo from by omega]; exact hF)⟩
      rw [hA j (by omega)]
      exact setN_other _ _ (by omega)
    · have hk : (nd L i).kind = 9 := by rw [e]; rfl
      have ha : (nd L i).a = (i : Int) - 1 := by rw [e]; rfl
      have hb : (nd L i).b = (m : Int) - 1 := by rw [e]; rfl
      have hlo := Lk.le (Sp.le f) _ _ _ d
      generalize hN2 : kid L (kid L N (i - 1) i 1) (m - 1) i 1 = N2
      have hT : Turn L i ⟨T, N⟩ ⟨T, N2⟩ := by
        unfold Turn
        simp only []
        rw [if_neg (by rw [hk]; decide), if_neg (by rw [hk]; decide), if_neg (by rw [hk]; decide), if_pos hk, ha, hb, show ((i : Int) - 1).toNat = i - 1 from by omega, show ((m : Int) - 1).toNat = m - 1 from by omega, if_neg (by rw [hN, hk]; simp), if_pos (by omega), hN2]
      have hNB : N2 (i - 1) = ((i : Int), decide (level (nd L (i - 1)) < 1)) := by
        rw [← hN2]; unfold kid; rw [setN_other _ _ (by omega), setN_same]
      have hNA : N2 (m - 1) = ((i : Int), false) := by rw [← hN2]; unfold kid; rw [setN_same, level_one]
      have hNo : ∀ j, j ≠ i - 1 → j ≠ m - 1 → N2 j = N j := by
        intro j g1 g2; rw [← hN2]; unfold kid; rw [setN_other _ _ g2, setN_other _ _ g1]
      have hupB : climbF L N2 (0 + 1) (i - 1) (tx L (i - 1) 1 ++ T) = some (44 :: (tx L (i - 1) 1 ++ T)) := by
        rw [climb_up (i := i) hNB (by omega) a2]
        simp only []
        rw [if_neg (by rw [hk]; decide), if_neg (by rw [hk]; decide), if_pos hk, if_pos ⟨by rw [ha]; omega, by rw [hb]; omega⟩]
      obtain ⟨N3, hA3, hF3⟩ := hS _ _ _ h3 1 i _ _ _ _ (by decide) hNB hupB
      have hN3A : N3 (m - 1) = ((i : Int), false) := by rw [hA3 _ (by omega), hNA]
      have hN3i : ∀ j, i ≤ j → N3 j = N j := by
        intro j hj; rw [hA3 _ (by omega), hNo _ (by omega) (by omega)]
      have hupA : climbF L N3 (q + 1) (m - 1) (axt L (m - 1) ++ 44 :: (tx L (i - 1) 1 ++ T)) = some T' := by
        rw [climb_up (i := i) hN3A (by omega) a2]
        simp only []
        rw [if_neg (by rw [hk]; decide), if_neg (by rw [hk]; decide), if_pos hk, if_neg (by rw [ha]; omega), hN3i i (Nat.le_refl _), hN]
        rw [← hcl, axt_more a1 hm hle e d]
        rw [climb_congr q i _ (N' := N) hN3i]
        simp
      obtain ⟨N4, hA4, hF4⟩ := fill_links hS k _ _ d i _ T' _ (q + 1) hN3A hupA
      refine ⟨N4, fun j hj => ?_, fill_one (by omega) hT ?_⟩
      · rw [hA4 j (by omega)]
        rcases hj with hj | hj
        · rw [hA3 j (by omega), hNo j (by omega) (by omega)]
        · exact hN3i j hj
      · rw [show i - lo = (i - 1 + 1 - m) + (m - 1 + 1 - lo) from by omega]
        exact fill_app _ _ (by rw [show lo + (m - 1 + 1 - lo) = m from by omega]; exact hF3) hF4
theorem lk_kind {S : Nat → Nat → Bool → Prop} {rg : Bool} {k i lo : Nat} (h : Lk S L rg k i lo) : (nd L i).kind = 9 := by
  cases k with
  | zero => exact h.elim
  | succ k =>
    obtain ⟨_, _, m, _, h4⟩ := h
    rcases h4 with ⟨_, e, _⟩ | ⟨_, _, e, _⟩ <;> rw [e] <;> rfl
theorem fill_ok : ∀ (f i lo : Nat) (a : Bool), Sp L f i lo a → FillOK L i lo
  | 0, _, _, _, h => h.elim
  | f + 1, i, lo, a, h => by
    obtain ⟨h0, h⟩ := h
    rcases h with ⟨e, hl⟩ | ⟨a1, a2, a3⟩ | ⟨op, m, a1, a2, a3, a4, a5, a6, a7⟩ | ⟨op, k, a1, a2, a3, a4⟩
    · rw [e]; exact fill_leaf hl
    · exact fill_neg h0 a1 a2 (Sp.le _ _ _ _ a3) (fill_ok f _ _ _ a3)
    · exact fill_bin h0 a3 a4 a5 a6 a7 (fill_ok f _ _ _ a6) (fill_ok f _ _ _ a7)
    · exact fill_call h0 a1 a2 a4 (Nat.le_of_lt (Lk.le (Sp.le f) _ _ _ a4)) (fill_links (fill_ok f) _ _ _ a4) (lk_kind a4)
/-- The text filled from its end. -/
theorem fill_all {f : Nat} (h : Sp L f (L.length - 1) 0 false) (N : Notes) : ∃ N', Fill L 0 L.length ⟨[], setN N (L.length - 1) (-1, false)⟩ ⟨tx L (L.length - 1) 1, N'⟩ := by
  have hl := h.lt
  obtain ⟨N', _, hF⟩ := fill_ok f _ _ _ h 1 (-1) [] (tx L (L.length - 1) 1) (setN N (L.length - 1) (-1, false)) 1 (by decide) (by rw [setN_same, level_one]) (by
    unfold climbF; rw [setN_same, if_pos (by decide)]; simp)
  rw [show L.length - 1 + 1 - 0 = L.length from by omega] at hF
  exact ⟨N', hF⟩
/-- Nothing that is put is taken back. -/
theorem climb_grows {N : Notes} : ∀ (m c : Nat) (T T' : List Int), climbF L N m c T = some T' → ∃ U, T' = U ++ T
  | 0, c, T, T', h => by simp [climbF] at h
  | m + 1, c, T, T', h => by
    unfold climbF at h
    simp only [] at h
    by_cases h1 : (N c).1 < 0
    · rw [if_pos h1] at h; cases h; exact ⟨[], rfl⟩
    rw [if_neg h1] at h
    by_cases h2 : (N c).1 ≤ (c : Int) ∨ (L.length : Int) ≤ (N c).1
    · rw [if_pos h2] at h; cases h
    rw [if_neg h2] at h
    have hg : ∀ V, climbF L N m (N c).1.toNat (if (N (N c).1.toNat).2 = true then 40 :: (V ++ T) else V ++ T) = some T' → ∃ U, T' = U ++ T := by
      intro V hV
      obtain ⟨U, hU⟩ := climb_grows m _ _ _ hV
      by_cases hb : (N (N c).1.toNat).2 = true
      · rw [if_pos hb] at hU; exact ⟨U ++ 40 :: V, by rw [hU]; simp⟩
      · rw [if_neg hb] at hU; exact ⟨U ++ V, by rw [hU]; simp⟩
    split at h
    · exact hg [45] h
    · split at h
      · split at h
        · cases h; exact ⟨_, rfl⟩
        · exact hg [] h
      · split at h
        · split at h
          · cases h; exact ⟨[44], rfl⟩
          · exact hg [] h
        · exact hg (fnName (nd L (N c).1.toNat).op ++ [40]) (by simpa using h)
theorem turn_grows {i : Nat} {s s' : FS} (h : Turn L i s s') : ∃ U, s'.T = U ++ s.T := by
  unfold Turn at h
  simp only [] at h
  have hT : ∃ V, (if (s.N i).2 = true ∨ (nd L i).kind = 8 then 41 :: s.T else s.T) = V ++ s.T := by
    by_cases hb : (s.N i).2 = true ∨ (nd L i).kind = 8
    · rw [if_pos hb]; exact ⟨[41], rfl⟩
    · rw [if_neg hb]; exact ⟨[], rfl⟩
  obtain ⟨V, hV⟩ := hT
  rw [hV] at h
  split at h
  · rw [h]; exact ⟨V, rfl⟩
  · split at h
    · rw [h]; exact ⟨V, rfl⟩
    · split at h
      · rw [h]; exact ⟨V, rfl⟩
      · split at h
        · rw [h]; exact ⟨V, rfl⟩
        · obtain ⟨_, m, hm⟩ := h
          obtain ⟨U, hU⟩ := climb_grows _ _ _ _ hm
          exact ⟨U ++ leafTxt (nd L i) ++ V, by rw [hU]; simp⟩
theorem fill_grows {lo : Nat} : ∀ (k : Nat) {s s' : FS}, Fill L lo k s s' → ∃ U, s'.T = U ++ s.T
  | 0, s, s', h => by have : s = s' := h; rw [this]; exact ⟨[], rfl⟩
  | k + 1, s, s', h => by
    obtain ⟨s1, h1, h2⟩ := h
    obtain ⟨U, hU⟩ := turn_grows h1
    obtain ⟨W, hW⟩ := fill_grows k h2
    exact ⟨W ++ U, by rw [hW, hU]; simp⟩
end
end Go.Proofs.Qxb6500326aGreat
