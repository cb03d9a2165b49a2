import Derived.Test.Qxb6500326aGreatW2
import Derived.Laws.AppendOwn
namespace Go.Proofs.Qxb6500326aGreat
set_option maxRecDepth 100000
set_option linter.unusedVariables false
set_option linter.unusedSimpArgs false
open Go.RowKit Go.PlainAid
/-- The cells of a node, in a row. -/
def ndL (x : Nd) : List Value := [I x.kind, I x.op, I x.a, I x.b, I x.n, I x.r1.col, I x.r1.row, .bool x.r1.absC, .bool x.r1.absR, I x.r2.col, I x.r2.row, .bool x.r2.absC, .bool x.r2.absR]
def nds (l : List Nd) : List Value := l.flatMap ndL
/-- The cells of a reader. -/
def rdC (s : ByteArray) (v : Value) (st : PS) : Nat → Value
  | 0 => .string s
  | 1 => I st.i
  | 2 => v
  | 3 => I st.err
  | _ => I st.pos
/-- The reader at block r: its own nodes lie in later blocks. -/
structure RD (w : World) (r : Nat) (s : ByteArray) (st : PS) (v : Value) : Prop where
  row : Row w r 5 (rdC s v st)
  own : w.ownsRow (r + 1) 149 13 v st.n.length (nds st.n)
abbrev Up (r : Nat) : Nat → Prop := fun k => r ≤ k
theorem RD.setPS {w : World} {r : Nat} {s : ByteArray} {st st' : PS} {v : Value} (h : RD w r s st v) (k : Nat) (x : Value) (hk : k < 5) (hn : st'.n = st.n) (hx : ∀ i, i < 5 → upd (rdC s v st) k x i = rdC s v st' i) :
    RD (w.setCell ⟨r, k, none⟩ x) r s st' v := by
  refine ⟨(h.row.set k x).congr hx, ?_⟩
  rw [hn]
  obtain ⟨h1, h2⟩ := h.own
  refine ⟨h1, ?_⟩
  rcases h2 with h2 | ⟨g, cap, cur, e, hb, hg, rest⟩
  · exact .inl h2
  · refine .inr ⟨g, cap, cur, e, hb, ?_, rest⟩
    rw [Below.heap_setCell _ _ _ _ (by show g ≠ r; omega)]; exact hg
theorem RD.fr0 {w w' : World} {r : Nat} {s : ByteArray} {st : PS} {v : Value} (h : RD w r s st v) (f : Fr S0 w w') : RD w' r s st v := by
  refine ⟨f.row0 h.row, ?_⟩
  obtain ⟨h1, h2⟩ := h.own
  refine ⟨h1, ?_⟩
  rcases h2 with h2 | ⟨g, cap, cur, e, hb, hg, rest⟩
  · exact .inl h2
  · refine .inr ⟨g, cap, cur, e, hb, ?_, rest⟩
    rw [f.block g (Array.getElem?_eq_some_iff.1 hg).1 (by simp)]; exact hg
abbrev At1 (r : Nat) : Nat → Prop := fun k => k = r
theorem Fr.up1 {r : Nat} {w w' : World} (h : Fr (At1 r) w w') : Fr (Up r) w w' := h.mono (fun k e => by show r ≤ k; rw [show k = r from e]; exact Nat.le_refl r)
theorem Fr.inc1 {r : Nat} {w w' : World} (h : Fr (At1 r) w w') (k : Nat) (x : Value) : Fr (At1 r) w (w'.setCell ⟨r, k, none⟩ x) := h.setCell (p := ⟨r, k, none⟩) (.inl rfl) x
set_option maxHeartbeats 400000 in
theorem fail_one (r : Nat) (s : ByteArray) (st : PS) (v : Value) (c : Int) (p : Nat) (w : World) (h : RD w r s st v) :
    Calls Tryz.prog 144 #[pt r, I c, I p] w fun e w' => e = .returned (I (-1)) ∧ RD w' r s (st.fail c p) v ∧ Fr (At1 r) w w' := by
  have h3 := h.row.cell 3 (by omega)
  have z3 := h.row.frozen 3
  have z4 := h.row.frozen 4
  simp only [rdC] at h3
  by_cases he : st.err = 0
  · have hed : (st.err == 0) = true := by simpa using he
    have hf : st.fail c p = ⟨st.i, st.n, c, p⟩ := fail_ok he c p
    have h1 := h.setPS (st' := ⟨st.i, st.n, c, st.pos⟩) 3 (I c) (by omega) rfl (by intro i hi; rcases i with _ | _ | _ | _ | _ | i <;> simp [upd, rdC] <;> omega)
    have h4 := h1.row.cell 4 (by omega)
    have z4' := h1.row.frozen 4
    have h2 := h1.setPS (st' := ⟨st.i, st.n, c, p⟩) 4 (I p) (by omega) rfl (by intro i hi; rcases i with _ | _ | _ | _ | _ | i <;> simp [upd, rdC] <;> omega)
    have hh := Bx.mk h
    have hh2 := Bx.mk h2
    clear h h1 h2 he
    simp only [rdC] at h4
    go_enter Tryz.func144, Tryz.ntmps144
    go_wp2
    go_ret
    rw [hf]
    exact ⟨rfl, hh2.out, ((Fr.refl (At1 r) _).inc1 _ _).inc1 _ _⟩
  · have hed : (st.err == 0) = false := by simpa using he
    have hf : st.fail c p = st := fail_err he c p
    have hh := Bx.mk h
    clear h he
    go_enter Tryz.func144, Tryz.ntmps144
    go_wp2
    go_ret
    rw [hf]
    exact ⟨rfl, hh.out, Fr.refl _ _⟩
theorem fail_any (r : Nat) (s : ByteArray) (st : PS) (v : Value) (c : Int) (p : Nat) (w : World) (h : RD w r s st v) :
    Calls Tryz.prog 144 #[pt r, I c, I p] w fun e w' => e = .returned (I (-1)) ∧ RD w' r s (st.fail c p) v ∧ Fr (Up r) w w' :=
  (fail_one r s st v c p w h).mono (fun e w' g => ⟨g.1, g.2.1, g.2.2.up1⟩)
/-- Where the blanks have been passed over up to i. -/
theorem skip_step {b : Nat → Int} {n i : Nat} (h : i < n) (h2 : b i = 32) : skip b n i = skip b n (i + 1) := by
  unfold skip
  rw [show n - i = (n - (i + 1)) + 1 from by omega]
  conv => lhs; unfold skipF
  rw [if_pos ⟨h, h2⟩]
theorem RD.go {w : World} {r : Nat} {s : ByteArray} {st : PS} {v : Value} (h : RD w r s st v) (i : Nat) : RD (w.setCell ⟨r, 1, none⟩ (I i)) r s (st.go i) v :=
  h.setPS 1 (I i) (by omega) rfl (by intro j hj; rcases j with _ | _ | _ | _ | _ | j <;> simp [upd, rdC, PS.go])
end Go.Proofs.Qxb6500326aGreat
