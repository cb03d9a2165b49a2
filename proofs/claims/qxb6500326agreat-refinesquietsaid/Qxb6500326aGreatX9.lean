import Derived.Test.Qxb6500326aGreatX8
namespace Go.Proofs.Qxb6500326aGreat
set_option maxRecDepth 100000
set_option linter.unusedVariables false
set_option linter.unusedSimpArgs false
open Go.RowKit Go.PlainAid
/-! ### What the plain machine keeps -/
/-- All operands stand in the arena. -/
def Vin (st : RS) : Prop := ∀ v ∈ st.V, v < (st.nodes.length : Int)
/-- The kind on top. -/
def topk0 : List Mk → Int
  | [] => 0
  | m :: _ => m.kind
/-- The kind on top; 1 also for '*' and '/'. -/
def topk : List Mk → Int
  | [] => 0
  | m :: _ => if m.kind = 2 ∧ strength m.op = 3 then 1 else m.kind
theorem topk_ne {m : Mk} {O : List Mk} (h : topk (m :: O) ≠ 1) : m.kind ≠ 1 ∧ topOf (m :: O) ≠ 3 := by
  have h : (if m.kind = 2 ∧ strength m.op = 3 then 1 else m.kind) ≠ 1 := h
  show m.kind ≠ 1 ∧ (if m.kind = 2 then strength m.op else 0) ≠ 3
  by_cases e : m.kind = 2
  · rw [if_pos e]
    by_cases e2 : strength m.op = 3
    · rw [if_pos ⟨e, e2⟩] at h; exact absurd rfl h
    · exact ⟨by omega, e2⟩
  · rw [if_neg (fun c => e c.1)] at h; rw [if_neg e]; exact ⟨h, by decide⟩
theorem topk_not3 {O : List Mk} (h : topk O ≠ 1) : topOf O ≠ 3 := by
  cases O with
  | nil => show (0 : Int) ≠ 3; decide
  | cons m O => exact (topk_ne h).2
theorem topk_of {O : List Mk} (h : topk0 O ≠ 1) (h2 : topOf O ≠ 3) : topk O ≠ 1 := by
  cases O with
  | nil => show (0 : Int) ≠ 1; decide
  | cons m O =>
    have h : m.kind ≠ 1 := h
    have h2 : (if m.kind = 2 then strength m.op else 0) ≠ 3 := h2
    show (if m.kind = 2 ∧ strength m.op = 3 then 1 else m.kind) ≠ 1
    split
    · rename_i e; rw [if_pos e.1] at h2; exact absurd e.2 h2
    · exact h
/-- An operator lies on no sign, and only on what binds less. -/
def okO : List Mk → Prop
  | [] => True
  | m :: O => (m.kind = 2 → topk O ≠ 1 ∧ topOf O < strength m.op) ∧ okO O
/-- The heights. extra: whether an operand stands. -/
structure Hts (k : Nat) (e : Nat) (st : RS) : Prop where
  len : st.V.length = bins st.O + e
  vk : st.V.length ≤ k
  ok : st.O.length ≤ k
  vin : Vin st
  mn : ∀ m ∈ st.O, 0 ≤ m.n ∧ m.n ≤ (k : Int)
  so : okO st.O
  kd : ∀ m ∈ st.O, 1 ≤ m.kind ∧ m.kind ≤ 4
section
variable {b : Nat → Int} {n : Nat}
theorem fail_V (st : RS) (e p : Int) : (st.fail e p).V = st.V ∧ (st.fail e p).O = st.O ∧ (st.fail e p).nodes = st.nodes ∧ (st.fail e p).pos = st.pos ∧ (st.fail e p).hav = st.hav ∧ (st.fail e p).done = st.done := by
  unfold RS.fail; split <;> exact ⟨rfl, rfl, rfl, rfl, rfl, rfl⟩
theorem fail_errR (st : RS) {e : Int} (he : e ≠ 0) (p : Int) : (st.fail e p).err ≠ 0 := by
  unfold RS.fail; split
  · exact he
  · assumption
theorem look_V (st : RS) : (st.look b n).V = st.V ∧ (st.look b n).O = st.O ∧ (st.look b n).nodes = st.nodes ∧ (st.look b n).pos = (lex b n st.pos).st ∧ (st.look b n).hav = st.hav ∧ (st.look b n).done = st.done := by
  unfold RS.look RS.lookAt
  split
  · exact fail_V _ _ _
  · exact ⟨rfl, rfl, rfl, rfl, rfl, rfl⟩
theorem look_tok {st : RS} (h : st.pos ≤ n) : lex b n (st.look b n).pos = lex b n st.pos := by rw [(look_V st).2.2.2.1, lex_look h]
theorem Hts.fail {k e : Nat} {st : RS} (h : Hts k e st) (c p : Int) : Hts k e (st.fail c p) := by
  obtain ⟨h1, h2, h3, -⟩ := fail_V st c p
  exact ⟨by rw [h1, h2]; exact h.len, by rw [h1]; exact h.vk, by rw [h2]; exact h.ok, by unfold Vin; rw [h1, h3]; exact h.vin, by rw [h2]; exact h.mn, by rw [h2]; exact h.so, by rw [h2]; exact h.kd⟩
theorem Hts.look {k e : Nat} {st : RS} (h : Hts k e st) : Hts k e (st.look b n) := by
  obtain ⟨h1, h2, h3, -⟩ := look_V (b := b) (n := n) st
  exact ⟨by rw [h1, h2]; exact h.len, by rw [h1]; exact h.vk, by rw [h2]; exact h.ok, by unfold Vin; rw [h1, h3]; exact h.vin, by rw [h2]; exact h.mn, by rw [h2]; exact h.so, by rw [h2]; exact h.kd⟩
theorem Hts.take {k e : Nat} {st : RS} (h : Hts k e st) : Hts (k + 1) e (st.take b n) := ⟨h.len, Nat.le_succ_of_le h.vk, Nat.le_succ_of_le h.ok, h.vin, fun m hm => by have := h.mn m hm; omega, h.so, h.kd⟩
theorem Hts.mono {k k' e : Nat} {st : RS} (h : Hts k e st) (hk : k ≤ k') : Hts k' e st := ⟨h.len, Nat.le_trans h.vk hk, Nat.le_trans h.ok hk, h.vin, fun m hm => by have := h.mn m hm; omega, h.so, h.kd⟩
theorem add_nodes (st : RS) (x : Nd) : (st.add x).2 < ((st.add x).1.nodes.length : Int) ∧ st.nodes.length ≤ (st.add x).1.nodes.length := by
  unfold RS.add
  split
  · exact ⟨by show (-1 : Int) < _; omega, Nat.le_refl _⟩
  · split
    · rw [(fail_V st 7 st.pos).2.2.1]; exact ⟨by show (-1 : Int) < _; omega, Nat.le_refl _⟩
    · simp only [List.length_append, List.length_singleton]; exact ⟨by omega, by omega⟩
theorem vin_add {st : RS} {V' : List Int} {O' : List Mk} (x : Nd) (h : ∀ v ∈ V', v < (st.nodes.length : Int)) : Vin ((st.add x).1.vo ((st.add x).2 :: V') O') := by
  have h1 := add_nodes st x
  intro v hv
  show v < ((st.add x).1.nodes.length : Int)
  have hv : v ∈ (st.add x).2 :: V' := hv
  rw [List.mem_cons] at hv
  rcases hv with rfl | hv
  · exact h1.1
  · have := h v hv; omega
theorem vin_add0 {st : RS} (x : Nd) {V' : List Int} {O' : List Mk} (h : ∀ v ∈ V', v < (st.nodes.length : Int)) : Vin ((st.add x).1.vo V' O') := by
  have h1 := add_nodes st x
  intro v hv
  have := h v hv
  show v < ((st.add x).1.nodes.length : Int)
  omega
theorem Hts.push {k e : Nat} {st : RS} (h : Hts k e st) (m : Mk) (ho : st.O.length < k) (hm : m.kind ≠ 2) (hn : 0 ≤ m.n ∧ m.n ≤ (k : Int)) (hkd : 1 ≤ m.kind ∧ m.kind ≤ 4) : Hts k e (st.push m) :=
  ⟨by show st.V.length = (if m.kind = 2 then 1 else 0) + bins st.O + e; rw [if_neg hm, h.len]; omega, h.vk, by show (m :: st.O).length ≤ k; simp; omega, h.vin, fun m' hm' => by
    have hm' : m' ∈ m :: st.O := hm'
    rw [List.mem_cons] at hm'
    rcases hm' with rfl | hm'
    · exact hn
    · exact h.mn m' hm', ⟨fun e => absurd e hm, h.so⟩, fun m' hm' => by
    have hm' : m' ∈ m :: st.O := hm'
    rw [List.mem_cons] at hm'
    rcases hm' with rfl | hm'
    · exact hkd
    · exact h.kd m' hm'⟩
theorem negs_hts : ∀ (O : List Mk) (st : RS) (k : Nat), st.O = O → Hts k 1 st → Hts k 1 (negs O st)
  | [], st, k, _, h => h
  | m :: O', st, k, hO, h => by
    by_cases hk : m.kind = 1
    · cases hV : st.V with
      | nil => have := h.len; rw [hV] at this; simp at this
      | cons a V' =>
        rw [negs_cons hk hV]
        refine negs_hts O' _ k rfl ⟨?_, ?_, ?_, vin_add _ (fun v hv => h.vin v (by rw [hV]; exact List.mem_cons_of_mem _ hv)), fun m' hm' => h.mn m' (by rw [hO]; exact List.mem_cons_of_mem _ hm'), by have := h.so; rw [hO] at this; exact this.2, fun m' hm' => h.kd m' (by rw [hO]; exact List.mem_cons_of_mem _ hm')⟩
        · show (_ :: V').length = bins O' + 1
          have := h.len
          rw [hV, hO] at this
          have e : bins (m :: O') = bins O' := by show (if m.kind = 2 then 1 else 0) + bins O' = _; rw [if_neg (by omega)]; omega
          rw [e] at this; simpa using this
        · have := h.vk; rw [hV] at this; show (_ :: V').length ≤ k; simpa using this
        · have := h.ok; rw [hO] at this; simp at this; show O'.length ≤ k; omega
    · rw [negs_stop hk]; exact h
theorem negs_top : ∀ (O : List Mk) (st : RS) (k : Nat), st.O = O → Hts k 1 st → topk0 (negs O st).O ≠ 1
  | [], st, k, hO, h => by show topk0 st.O ≠ 1; rw [hO]; show (0 : Int) ≠ 1; decide
  | m :: O', st, k, hO, h => by
    by_cases hk : m.kind = 1
    · cases hV : st.V with
      | nil => have := h.len; rw [hV] at this; simp at this
      | cons a V' =>
        rw [negs_cons hk hV]
        refine negs_top O' _ k rfl ⟨?_, ?_, ?_, vin_add _ (fun v hv => h.vin v (by rw [hV]; exact List.mem_cons_of_mem _ hv)), fun m' hm' => h.mn m' (by rw [hO]; exact List.mem_cons_of_mem _ hm'), by have := h.so; rw [hO] at this; exact this.2, fun m' hm' => h.kd m' (by rw [hO]; exact List.mem_cons_of_mem _ hm')⟩
        · show (_ :: V').length = bins O' + 1
          have := h.len
          rw [hV, hO] at this
          have e : bins (m :: O') = bins O' := by show (if m.kind = 2 then 1 else 0) + bins O' = _; rw [if_neg (by omega)]; omega
          rw [e] at this; simpa using this
        · have := h.vk; rw [hV] at this; show (_ :: V').length ≤ k; simpa using this
        · have := h.ok; rw [hO] at this; simp at this; show O'.length ≤ k; omega
    · rw [negs_stop hk]
      show topk0 st.O ≠ 1
      rw [hO]; exact hk
theorem join_top {st : RS} {k : Nat} (h : Hts k 1 st) (ht : topOf st.O ≠ 0) : topk st.join.O ≠ 1 := by
  cases hO : st.O with
  | nil => rw [hO] at ht; exact absurd rfl ht
  | cons m O' =>
    have hm : m.kind = 2 := by
      rw [hO] at ht
      have : (if m.kind = 2 then strength m.op else 0) ≠ 0 := ht
      by_cases e : m.kind = 2
      · exact e
      · rw [if_neg e] at this; exact absurd rfl this
    have hso := h.so
    rw [hO] at hso
    have hl := h.len
    rw [hO] at hl
    have e : bins (m :: O') = 1 + bins O' := by show (if m.kind = 2 then 1 else 0) + bins O' = _; rw [if_pos hm]
    rw [e] at hl
    cases hV : st.V with
    | nil => rw [hV] at hl; simp at hl
    | cons y V1 =>
      cases V1 with
      | nil => rw [hV] at hl; simp at hl
      | cons x V' =>
        rw [join_eq hO hV]
        exact (hso.1 hm).1
theorem join_hts {st : RS} {k : Nat} (h : Hts k 1 st) (ht : topOf st.O ≠ 0) : Hts k 1 st.join := by
  cases hO : st.O with
  | nil => rw [hO] at ht; exact absurd rfl ht
  | cons m O' =>
    have hm : m.kind = 2 := by
      rw [hO] at ht
      have : (if m.kind = 2 then strength m.op else 0) ≠ 0 := ht
      by_cases e : m.kind = 2
      · exact e
      · rw [if_neg e] at this; exact absurd rfl this
    have hl := h.len
    rw [hO] at hl
    have e : bins (m :: O') = 1 + bins O' := by show (if m.kind = 2 then 1 else 0) + bins O' = _; rw [if_pos hm]
    rw [e] at hl
    cases hV : st.V with
    | nil => rw [hV] at hl; simp at hl
    | cons y V1 =>
      cases V1 with
      | nil => rw [hV] at hl; simp at hl
      | cons x V' =>
        rw [join_eq hO hV]
        refine ⟨?_, ?_, ?_, vin_add _ (fun v hv => h.vin v (by rw [hV]; exact List.mem_cons_of_mem _ (List.mem_cons_of_mem _ hv))), fun m' hm' => h.mn m' (by rw [hO]; exact List.mem_cons_of_mem _ hm'), by have := h.so; rw [hO] at this; exact this.2, fun m' hm' => h.kd m' (by rw [hO]; exact List.mem_cons_of_mem _ hm')⟩
        · show (_ :: V').length = bins O' + 1
          rw [hV] at hl; simp at hl ⊢; omega
        · have := h.vk; rw [hV] at this; simp at this; show (_ :: V').length ≤ k; simp; omega
        · have := h.ok; rw [hO] at this; simp at this; show O'.length ≤ k; omega
theorem join_twoR {st : RS} {k : Nat} (h : Hts k 1 st) (ht : topOf st.O ≠ 0) : ∃ m O' y x V', st.O = m :: O' ∧ st.V = y :: x :: V' := by
  cases hO : st.O with
  | nil => rw [hO] at ht; exact absurd rfl ht
  | cons m O' =>
    have hm : m.kind = 2 := by
      rw [hO] at ht
      have : (if m.kind = 2 then strength m.op else 0) ≠ 0 := ht
      by_cases e : m.kind = 2
      · exact e
      · rw [if_neg e] at this; exact absurd rfl this
    have hl := h.len
    rw [hO] at hl
    have e : bins (m :: O') = 1 + bins O' := by show (if m.kind = 2 then 1 else 0) + bins O' = _; rw [if_pos hm]
    rw [e] at hl
    cases hV : st.V with
    | nil => rw [hV] at hl; simp at hl
    | cons y V1 =>
      cases V1 with
      | nil => rw [hV] at hl; simp at hl
      | cons x V' => exact ⟨m, O', y, x, V', rfl, rfl⟩
theorem join_topOf {st : RS} {k : Nat} (h : Hts k 1 st) (ht : topOf st.O ≠ 0) : topOf st.join.O < topOf st.O := by
  obtain ⟨m, O', y, x, V', hO, hV⟩ := join_twoR h ht
  have hm : m.kind = 2 := by
    rw [hO] at ht
    have : (if m.kind = 2 then strength m.op else 0) ≠ 0 := ht
    by_cases e : m.kind = 2
    · exact e
    · rw [if_neg e] at this; exact absurd rfl this
  have hso := h.so
  rw [hO] at hso
  rw [join_eq hO hV, hO]
  show topOf O' < (if m.kind = 2 then strength m.op else 0)
  rw [if_pos hm]
  exact (hso.1 hm).2
theorem settle_hts {st : RS} {k : Nat} (h : Hts k 1 st) : Hts k 1 st.settle ∧ st.settle.hav = true ∧ topk st.settle.O ≠ 1 := by
  rw [settle_eq]
  have h1 := negs_hts st.O st k rfl h
  have h0 := negs_top st.O st k rfl h
  generalize negs st.O st = N at *
  have h2 : Hts k 1 (if topOf N.O = 3 then N.join else N) := by
    split
    · rename_i e; exact join_hts h1 (by omega)
    · exact h1
  refine ⟨⟨h2.len, h2.vk, h2.ok, h2.vin, h2.mn, h2.so, h2.kd⟩, rfl, ?_⟩
  show topk (if topOf N.O = 3 then N.join else N).O ≠ 1
  split
  · rename_i e; exact join_top h1 (by omega)
  · rename_i e; exact topk_of h0 e
theorem whole_hts {st : RS} {k : Nat} (h : Hts k 0 st) (hv : st.V.length < k) (x : Nd) : Hts k 1 (st.whole x) ∧ (st.whole x).hav = true ∧ topk (st.whole x).O ≠ 1 := by
  unfold RS.whole
  rw [addTo_eq]
  apply settle_hts
  refine ⟨?_, ?_, h.ok, vin_add _ h.vin, h.mn, h.so, h.kd⟩
  · show (_ :: st.V).length = bins st.O + 1; have := h.len; simp; omega
  · show (_ :: st.V).length ≤ k; simp; omega
end
/-- What one turn of the machine leaves: the k-th token at hand. -/
abbrev Turned (w : World) (B : FB) (b : Nat → Int) (n nt k : Nat) (st st' : RS) : Ending → World → Prop := fun e w' => e = .returned (.tuple #[]) ∧ (∃ k', AF w' B b n nt k' st' ∧ k ≤ k' ∧ (st'.err = 0 → (st'.done = false → k < k') ∧ Hts k' (if st'.hav = true then 1 else 0) st' ∧ (st'.hav = true → topk st'.O ≠ 1))) ∧ Fr (FmS B) w w'
end Go.Proofs.Qxb6500326aGreat
