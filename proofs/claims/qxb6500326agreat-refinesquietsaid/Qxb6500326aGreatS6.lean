/-
  DERIVED. THE PLAIN LAW OF LAYER edit, 6: copies.
-/
import Derived.Test.Qxb6500326aGreatS5
namespace Go.Proofs.Qxb6500326aGreat
set_option linter.unusedVariables false
set_option linter.unusedSimpArgs false

def slideP (dc dr : Int) (r : Ref) : Ref := ⟨if r.absC = true then r.col else r.col + dc, if r.absR = true then r.row else r.row + dr, r.absC, r.absR⟩
def inSheet (r : Ref) : Bool := decide (0 ≤ r.col) && decide (r.col ≤ 25) && decide (0 ≤ r.row) && decide (r.row ≤ 98)
theorem inSheet_iff {r : Ref} : inSheet r = true ↔ refIn r := by simp [inSheet, refIn, and_assoc]
def copyN (dc dr : Int) (x : Nd) : Nd :=
  if x.kind = 3 then (if inSheet (slideP dc dr x.r1) = true then ⟨x.kind, x.op, x.a, x.b, x.n, slideP dc dr x.r1, x.r2⟩ else nBad)
  else if x.kind = 4 then (if inSheet (slideP dc dr x.r1) = true ∧ inSheet (slideP dc dr x.r2) = true then ⟨x.kind, x.op, x.a, x.b, x.n, slideP dc dr x.r1, slideP dc dr x.r2⟩ else nBad)
  else x
section
variable {dc dr : Int}
theorem copyN_ref (r : Ref) : copyN dc dr (nRef r) = if inSheet (slideP dc dr r) = true then nRef (slideP dc dr r) else nBad := by
  unfold copyN; rw [if_pos (by rfl)]; rfl
theorem copyN_range (r s : Ref) : copyN dc dr (nRange r s) = if inSheet (slideP dc dr r) = true ∧ inSheet (slideP dc dr s) = true then nRange (slideP dc dr r) (slideP dc dr s) else nBad := by
  unfold copyN; rw [if_neg (by show ¬ (4 : Int) = 3; decide), if_pos (by rfl)]; rfl
theorem copyN_lm : LM (copyN dc dr) := by
  refine ⟨fun x h3 h4 => ?_, fun r hr => ?_, fun r s hr hs => ?_⟩
  · unfold copyN; rw [if_neg h3, if_neg h4]
  · rw [copyN_ref]
    split
    · rename_i h; exact .inl ⟨_, rfl, inSheet_iff.1 h⟩
    · exact .inr rfl
  · rw [copyN_range]
    split
    · rename_i h; exact .inl ⟨_, _, rfl, inSheet_iff.1 h.1, inSheet_iff.1 h.2⟩
    · exact .inr rfl
/-- No reference of the node moves. -/
def Pinned (x : Nd) : Prop := (x.kind = 3 ∨ x.kind = 4 → x.r1.absC = true ∧ x.r1.absR = true) ∧ (x.kind = 4 → x.r2.absC = true ∧ x.r2.absR = true)
def Loose (x : Nd) : Prop := (x.kind = 3 ∨ x.kind = 4 → x.r1.absC = false ∧ x.r1.absR = false) ∧ (x.kind = 4 → x.r2.absC = false ∧ x.r2.absR = false)
theorem slide_pin {r : Ref} (h : r.absC = true ∧ r.absR = true) : slideP dc dr r = r := by
  obtain ⟨c, w, ac, ar⟩ := r
  simp only at h
  obtain ⟨rfl, rfl⟩ := h
  rfl
theorem slide_loose {r : Ref} (h : r.absC = false ∧ r.absR = false) : slideP dc dr r = ⟨r.col + dc, r.row + dr, false, false⟩ := by
  obtain ⟨c, w, ac, ar⟩ := r
  simp only at h
  obtain ⟨rfl, rfl⟩ := h
  rfl
theorem copyN_pin {x : Nd} (hx : NdRef x) (hp : Pinned x) : copyN dc dr x = x := by
  rcases hx with ⟨r, rfl, hr⟩ | ⟨r, s, rfl, hr, hs⟩ | ⟨h3, h4, -, -⟩
  · have h := hp.1 (.inl rfl)
    rw [copyN_ref, slide_pin (r := r) h, if_pos (inSheet_iff.2 hr)]
  · have h := hp.1 (.inr rfl)
    have h2 := hp.2 rfl
    rw [copyN_range, slide_pin (r := r) h, slide_pin (r := s) h2, if_pos ⟨inSheet_iff.2 hr, inSheet_iff.2 hs⟩]
  · exact copyN_lm.other x h3 h4
theorem copy_pinned {t : Tr} (ht : TreeOK t) (hp : ∀ j, j < t.nodes.length → Pinned (nd t.nodes j)) : mapT (copyN dc dr) t = t := by
  have e : t.nodes.map (copyN dc dr) = t.nodes := by
    apply List.ext_getElem?
    intro j
    rw [List.getElem?_map]
    rcases Nat.lt_or_ge j t.nodes.length with hj | hj
    · have h1 := hp j hj
      have h2 := ht.nodes_ref hj
      unfold nd at h1 h2
      rw [List.getElem?_eq_getElem hj] at h1 h2 ⊢
      simp only [Option.getD_some] at h1 h2
      rw [Option.map_some, copyN_pin h2 h1]
    · rw [List.getElem?_eq_none hj]; rfl
  have h1 := ht.err
  have h2 := ht.pos
  unfold mapT
  rw [e]
  obtain ⟨L, r, er, p⟩ := t
  simp only at h1 h2
  subst h1 h2
  rfl
/-- A cell that a loose node reads, slid. -/
theorem read_copy {x : Nd} (hx : NdRef x) (hl : Loose x) (hs : ∀ i : Nat, (rdN x).getLsbD i = true → 0 ≤ (i : Int) % 4 + dc ∧ (i : Int) % 4 + dc < 4 ∧ 0 ≤ (i : Int) / 4 + dr ∧ (i : Int) / 4 + dr < 6) {i : Nat} (hi : (rdN x).getLsbD i = true) :
    (rdN (copyN dc dr x)).getLsbD (((i : Int) / 4 + dr) * 4 + ((i : Int) % 4 + dc)).toNat = true := by
  have hb := hs i hi
  rcases hx with ⟨r, rfl, hr⟩ | ⟨r, s, rfl, hr, hs2⟩ | ⟨h3, h4, -, -⟩
  · cases hg : inGrid r
    · rw [rd_out hg] at hi; simp at hi
    · have e := slide_loose (dc := dc) (dr := dr) (r := r) (hl.1 (.inl rfl))
      rw [mem_ref hg] at hi
      have hg' : inGrid (slideP dc dr r) = true := by rw [e, inGrid_iff]; simp only; omega
      rw [copyN_ref, if_pos (inSheet_iff.2 (grid_in hg')), mem_ref hg', e]
      simp only
      omega
  · cases hg : blockOK r s
    · rw [rd_rout hg] at hi; simp at hi
    · have hg2 : inGrid r = true ∧ inGrid s = true := by simpa [blockOK] using hg
      have er := slide_loose (dc := dc) (dr := dr) (r := r) (hl.1 (.inr rfl))
      have es := slide_loose (dc := dc) (dr := dr) (r := s) (hl.2 rfl)
      have gr := inGrid_iff.1 hg2.1
      have gs := inGrid_iff.1 hg2.2
      have corner : ∀ q : Ref, inGrid q = true → (q = r ∨ q = s) → (rdN (nRange r s)).getLsbD (cellOf q).toNat = true := by
        intro q hq hqe
        have hqg := inGrid_iff.1 hq
        rw [mem_range hg]
        have e1 : ((cellOf q).toNat : Int) / 4 = q.row ∧ ((cellOf q).toNat : Int) % 4 = q.col := by unfold cellOf; omega
        rw [e1.1, e1.2]
        unfold lesser greater
        simp only [decide_eq_true_eq]
        rcases hqe with rfl | rfl <;> refine ⟨⟨?_, ?_⟩, ?_, ?_⟩ <;> split <;> omega
      have hcr := hs _ (corner r hg2.1 (.inl rfl))
      have hcs := hs _ (corner s hg2.2 (.inr rfl))
      have e1 : ((cellOf r).toNat : Int) / 4 = r.row ∧ ((cellOf r).toNat : Int) % 4 = r.col := by unfold cellOf; omega
      have e2 : ((cellOf s).toNat : Int) / 4 = s.row ∧ ((cellOf s).toNat : Int) % 4 = s.col := by unfold cellOf; omega
      rw [e1.1, e1.2] at hcr
      rw [e2.1, e2.2] at hcs
      have hgr : inGrid (slideP dc dr r) = true := by rw [er, inGrid_iff]; simp only; omega
      have hgs : inGrid (slideP dc dr s) = true := by rw [es, inGrid_iff]; simp only; omega
      rw [mem_range hg] at hi
      rw [copyN_range, if_pos ⟨inSheet_iff.2 (grid_in hgr), inSheet_iff.2 (grid_in hgs)⟩, mem_range (by simp [blockOK, hgr, hgs]), er, es]
      have e3 : ((((i : Int) / 4 + dr) * 4 + ((i : Int) % 4 + dc)).toNat : Int) / 4 = (i : Int) / 4 + dr ∧ ((((i : Int) / 4 + dr) * 4 + ((i : Int) % 4 + dc)).toNat : Int) % 4 = (i : Int) % 4 + dc := by omega
      rw [e3.1, e3.2]
      unfold lesser greater at hi ⊢
      simp only [decide_eq_true_eq] at hi ⊢
      refine ⟨⟨?_, ?_⟩, ?_, ?_⟩
      · split <;> split at hi <;> omega
      · split <;> split at hi <;> omega
      · split <;> split at hi <;> omega
      · split <;> split at hi <;> omega
  · rw [rd_other h3 h4] at hi; simp at hi
theorem rdT_copy {t : Tr} (ht : TreeOK t) (hl : ∀ j, j < t.nodes.length → Loose (nd t.nodes j)) (hs : ∀ i : Nat, (rdT t).getLsbD i = true → 0 ≤ (i : Int) % 4 + dc ∧ (i : Int) % 4 + dc < 4 ∧ 0 ≤ (i : Int) / 4 + dr ∧ (i : Int) / 4 + dr < 6) {i : Nat} (hi : (rdT t).getLsbD i = true) :
    (rdT (mapT (copyN dc dr) t)).getLsbD (((i : Int) / 4 + dr) * 4 + ((i : Int) % 4 + dc)).toNat = true := by
  unfold rdT mapT at *
  simp only [List.length_map] at *
  obtain ⟨j, h1, h2⟩ := (mem_rdS _ _ _).1 hi
  rw [mem_rdS]
  refine ⟨j, h1, ?_⟩
  rw [nd_map copyN_lm.bad]
  exact read_copy (ht.all_ref j) (hl j h1) (fun k hk => hs k ((mem_rdS _ _ _).2 ⟨j, h1, hk⟩)) h2
end
end Go.Proofs.Qxb6500326aGreat
