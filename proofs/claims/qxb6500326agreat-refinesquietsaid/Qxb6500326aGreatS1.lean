/-
  DERIVED. THE PLAIN LAW OF LAYER edit, 1: a tree whose references are turned one by one.
-/
import Derived.Test.Qxb6500326aGreatQ3
import Derived.Test.Qxb6500326aGreatA3
namespace Go.Proofs.Qxb6500326aGreat
set_option linter.unusedVariables false
set_option linter.unusedSimpArgs false

/-- g turns references and ranges alone, and each into one of its kind or into a dead one. -/
structure LM (g : Nd → Nd) : Prop where
  other : ∀ x : Nd, x.kind ≠ 3 → x.kind ≠ 4 → g x = x
  ref : ∀ r, refIn r → (∃ r', g (nRef r) = nRef r' ∧ refIn r') ∨ g (nRef r) = nBad
  range : ∀ r s, refIn r → refIn s → (∃ r' s', g (nRange r s) = nRange r' s' ∧ refIn r' ∧ refIn s') ∨ g (nRange r s) = nBad
theorem nd_map {g : Nd → Nd} (hb : g nBad = nBad) (L : List Nd) (i : Nat) : nd (L.map g) i = g (nd L i) := by
  unfold nd
  rw [List.getElem?_map]
  cases L[i]? with
  | none => simp [hb]
  | some x => rfl
theorem LM.bad {g : Nd → Nd} (h : LM g) : g nBad = nBad := h.other _ (by decide) (by decide)
theorem LM.leaf {g : Nd → Nd} (h : LM g) {x : Nd} {a : Bool} (hx : Leaf x a) : Leaf (g x) a := by
  rcases hx with ⟨v, rfl, h1, h2⟩ | rfl | rfl | ⟨r, rfl, hr⟩ | rfl | ⟨ha, r, s, rfl, hr, hs⟩
  · rw [h.other _ (by show (1 : Int) ≠ 3; decide) (by show (1 : Int) ≠ 4; decide)]; exact .inl ⟨v, rfl, h1, h2⟩
  · rw [h.other _ (by decide) (by decide)]; exact .inr (.inl rfl)
  · rw [h.other _ (by decide) (by decide)]; exact .inr (.inr (.inl rfl))
  · rcases h.ref r hr with ⟨r', e, h1⟩ | e
    · rw [e]; exact .inr (.inr (.inr (.inl ⟨r', rfl, h1⟩)))
    · rw [e]; exact .inr (.inr (.inr (.inr (.inl rfl))))
  · rw [h.bad]; exact .inr (.inr (.inr (.inr (.inl rfl))))
  · rcases h.range r s hr hs with ⟨r', s', e, h1, h2⟩ | e
    · rw [e]; exact .inr (.inr (.inr (.inr (.inr ⟨ha, r', s', rfl, h1, h2⟩))))
    · rw [e]; exact .inr (.inr (.inr (.inr (.inl rfl))))
theorem LM.lk {g : Nd → Nd} (h : LM g) {L : List Nd} {S S' : Nat → Nat → Bool → Prop} {rg : Bool} (hS : ∀ i lo a, S i lo a → S' i lo a) : ∀ (k i lo : Nat), Lk S L rg k i lo → Lk S' (L.map g) rg k i lo
  | 0, _, _, h' => h'
  | k + 1, i, lo, h' => by
    obtain ⟨h1, h2, m, h3, h4⟩ := h'
    refine ⟨h1, by simpa using h2, m, hS _ _ _ h3, ?_⟩
    rw [nd_map h.bad]
    rcases h4 with ⟨e1, e2, e3⟩ | ⟨a, b, c, d⟩
    · refine .inl ⟨e1, ?_, e3⟩
      rw [e2, h.other _ (by show (9 : Int) ≠ 3; decide) (by show (9 : Int) ≠ 4; decide)]
    · refine .inr ⟨a, b, ?_, h.lk hS k _ _ d⟩
      rw [c, h.other _ (by show (9 : Int) ≠ 3; decide) (by show (9 : Int) ≠ 4; decide)]
theorem LM.sp {g : Nd → Nd} (h : LM g) {L : List Nd} : ∀ (f i lo : Nat) (a : Bool), Sp L f i lo a → Sp (L.map g) f i lo a
  | 0, _, _, _, h' => h'
  | f + 1, i, lo, a, h' => by
    obtain ⟨h0, h'⟩ := h'
    refine ⟨by simpa using h0, ?_⟩
    rw [nd_map h.bad]
    rcases h' with ⟨e, hl⟩ | ⟨h1, h2, h3⟩ | ⟨op, m, h1, h2, h3, h4, h5, h6, h7⟩ | ⟨op, k, h1, h2, h3, h4⟩
    · exact .inl ⟨e, h.leaf hl⟩
    · refine .inr (.inl ⟨h1, ?_, h.sp f _ _ _ h3⟩)
      rw [h2, h.other _ (by show (6 : Int) ≠ 3; decide) (by show (6 : Int) ≠ 4; decide)]
    · refine .inr (.inr (.inl ⟨op, m, h1, h2, h3, h4, ?_, h.sp f _ _ _ h6, h.sp f _ _ _ h7⟩))
      rw [h5, h.other _ (by show (7 : Int) ≠ 3; decide) (by show (7 : Int) ≠ 4; decide)]
    · refine .inr (.inr (.inr ⟨op, k, h1, ?_, h3, h.lk (h.sp f) _ _ _ h4⟩))
      rw [h2, h.other _ (by show (8 : Int) ≠ 3; decide) (by show (8 : Int) ≠ 4; decide)]
/-- The tree whose nodes are turned. -/
def mapT (g : Nd → Nd) (t : Tr) : Tr := ⟨t.nodes.map g, t.root, 0, 0⟩
/-- What stands in a lawful tree is a leaf, or bears no reference. -/
theorem refIn_z : refIn rz := ⟨by decide, by decide, by decide, by decide⟩
def NdRef (x : Nd) : Prop := (∃ r, x = nRef r ∧ refIn r) ∨ (∃ r s, x = nRange r s ∧ refIn r ∧ refIn s) ∨ (x.kind ≠ 3 ∧ x.kind ≠ 4 ∧ x.r1 = rz ∧ x.r2 = rz)
theorem leaf_ref {x : Nd} {a : Bool} (h : Leaf x a) : NdRef x := by
  rcases h with ⟨v, rfl, -⟩ | rfl | rfl | ⟨r, rfl, hr⟩ | rfl | ⟨-, r, s, rfl, hr, hs⟩
  · exact .inr (.inr ⟨by show (1 : Int) ≠ 3; decide, by show (1 : Int) ≠ 4; decide, rfl, rfl⟩)
  · exact .inr (.inr ⟨by decide, by decide, rfl, rfl⟩)
  · exact .inr (.inr ⟨by decide, by decide, rfl, rfl⟩)
  · exact .inl ⟨r, rfl, hr⟩
  · exact .inr (.inr ⟨by decide, by decide, rfl, rfl⟩)
  · exact .inr (.inl ⟨r, s, rfl, hr, hs⟩)
theorem lk_nodes {L : List Nd} {S : Nat → Nat → Bool → Prop} {rg : Bool} (hS : ∀ i lo a, S i lo a → lo ≤ i ∧ ∀ j, lo ≤ j → j ≤ i → NdRef (nd L j)) : ∀ (k i lo : Nat), Lk S L rg k i lo → lo ≤ i ∧ ∀ j, lo ≤ j → j ≤ i → NdRef (nd L j)
  | 0, _, _, h' => h'.elim
  | k + 1, i, lo, h' => by
    obtain ⟨h1, h2, m, h3, h4⟩ := h'
    obtain ⟨a1, a2⟩ := hS _ _ _ h3
    have hi : NdRef (nd L i) := by
      rcases h4 with ⟨-, e, -⟩ | ⟨-, -, e, -⟩ <;> rw [e] <;> exact .inr (.inr ⟨by show (9 : Int) ≠ 3; decide, by show (9 : Int) ≠ 4; decide, rfl, rfl⟩)
    rcases h4 with ⟨-, -, rfl⟩ | ⟨-, hm, -, d⟩
    · refine ⟨by omega, fun j hj1 hj2 => ?_⟩
      by_cases e : j = i
      · subst e; exact hi
      · exact a2 j hj1 (by omega)
    · obtain ⟨b1, b2⟩ := lk_nodes hS k _ _ d
      refine ⟨by omega, fun j hj1 hj2 => ?_⟩
      by_cases e : j = i
      · subst e; exact hi
      · by_cases e2 : m ≤ j
        · exact a2 j e2 (by omega)
        · exact b2 j hj1 (by omega)
theorem sp_nodes {L : List Nd} : ∀ (f i lo : Nat) (a : Bool), Sp L f i lo a → lo ≤ i ∧ ∀ j, lo ≤ j → j ≤ i → NdRef (nd L j)
  | 0, _, _, _, h' => h'.elim
  | f + 1, i, lo, a, h' => by
    obtain ⟨h0, h'⟩ := h'
    rcases h' with ⟨e, hl⟩ | ⟨h1, h2, h3⟩ | ⟨op, m, h1, h2, h3, h4, h5, h6, h7⟩ | ⟨op, k, h1, h2, h3, h4⟩
    · subst e
      exact ⟨Nat.le_refl _, fun j h1 h2 => by rw [show j = lo from by omega]; exact leaf_ref hl⟩
    · obtain ⟨a1, a2⟩ := sp_nodes f _ _ _ h3
      refine ⟨by omega, fun j hj1 hj2 => ?_⟩
      by_cases e : j = i
      · subst e; rw [h2]; exact .inr (.inr ⟨by show (6 : Int) ≠ 3; decide, by show (6 : Int) ≠ 4; decide, rfl, rfl⟩)
      · exact a2 j hj1 (by omega)
    · obtain ⟨a1, a2⟩ := sp_nodes f _ _ _ h6
      obtain ⟨b1, b2⟩ := sp_nodes f _ _ _ h7
      refine ⟨by omega, fun j hj1 hj2 => ?_⟩
      by_cases e : j = i
      · subst e; rw [h5]; exact .inr (.inr ⟨by show (7 : Int) ≠ 3; decide, by show (7 : Int) ≠ 4; decide, rfl, rfl⟩)
      · by_cases e2 : m ≤ j
        · exact a2 j e2 (by omega)
        · exact b2 j hj1 (by omega)
    · obtain ⟨a1, a2⟩ := lk_nodes (sp_nodes f) _ _ _ h4
      refine ⟨by omega, fun j hj1 hj2 => ?_⟩
      by_cases e : j = i
      · subst e; rw [h2]; exact .inr (.inr ⟨by show (8 : Int) ≠ 3; decide, by show (8 : Int) ≠ 4; decide, rfl, rfl⟩)
      · exact a2 j hj1 (by omega)
theorem TreeOK.nodes_ref {t : Tr} (h : TreeOK t) {j : Nat} (hj : j < t.nodes.length) : NdRef (nd t.nodes j) := (sp_nodes _ _ _ _ h.sp).2 j (Nat.zero_le _) (by have := h.one; omega)
theorem TreeOK.mem_ref {t : Tr} (h : TreeOK t) {x : Nd} (hx : x ∈ t.nodes) : NdRef x := by
  obtain ⟨j, hj, rfl⟩ := List.getElem_of_mem hx
  have := h.nodes_ref hj
  unfold nd at this
  rw [List.getElem?_eq_getElem hj] at this
  exact this
theorem LM.refs {g : Nd → Nd} (h : LM g) {x : Nd} (hx : NdRef x) : refIn (g x).r1 ∧ refIn (g x).r2 := by
  rcases hx with ⟨r, rfl, hr⟩ | ⟨r, s, rfl, hr, hs⟩ | ⟨h1, h2, h3, h4⟩
  · rcases h.ref r hr with ⟨r', e, h1⟩ | e
    · rw [e]; exact ⟨h1, refIn_z⟩
    · rw [e]; exact ⟨refIn_z, refIn_z⟩
  · rcases h.range r s hr hs with ⟨r', s', e, h1, h2⟩ | e
    · rw [e]; exact ⟨h1, h2⟩
    · rw [e]; exact ⟨refIn_z, refIn_z⟩
  · rw [h.other x h1 h2, h3, h4]; exact ⟨refIn_z, refIn_z⟩
/-- A turned tree is lawful. -/
theorem LM.tree {g : Nd → Nd} (h : LM g) {t : Tr} (ht : TreeOK t) : TreeOK (mapT g t) := by
  have h1 := ht.one
  have h2 := ht.max
  have hs := h.sp _ _ _ _ ht.sp
  have := treeOK_of_sp (L := t.nodes.map g) (f := t.nodes.length) (by simpa using h1) (by simpa using h2) (fun x hx => by
    obtain ⟨y, hy, rfl⟩ := List.mem_map.1 hx
    exact h.refs (ht.mem_ref hy)) (by simpa using hs)
  unfold mapT
  rw [ht.root]
  simpa using this

/-! ### the text -/
theorem level_map {g : Nd → Nd} (h : LM g) {x : Nd} (hx : NdRef x) : level (g x) = level x := by
  rcases hx with ⟨r, rfl, hr⟩ | ⟨r, s, rfl, hr, hs⟩ | ⟨h1, h2, -, -⟩
  · rcases h.ref r hr with ⟨r', e, h1⟩ | e <;> rw [e] <;> rfl
  · rcases h.range r s hr hs with ⟨r', s', e, h1, h2⟩ | e <;> rw [e] <;> rfl
  · rw [h.other x h1 h2]
end Go.Proofs.Qxb6500326aGreat
