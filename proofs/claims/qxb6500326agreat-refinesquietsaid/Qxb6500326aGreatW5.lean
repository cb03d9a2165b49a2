import Derived.Test.Qxb6500326aGreatW4
import Derived.Deep.RegionLaw
import Derived.Deep.AppendLies
import Derived.OwnWalk
namespace Go.Proofs.Qxb6500326aGreat
set_option maxRecDepth 100000
set_option linter.unusedVariables false
set_option linter.unusedSimpArgs false
open Go.RowKit Go.PlainAid
theorem nds_append (a b : List Nd) : nds (a ++ b) = nds a ++ nds b := by simp [nds]
theorem nds_one (x : Nd) : nds [x] = ndL x := by simp [nds]
theorem nds_len (L : List Nd) : (nds L).length = L.length * 13 := by
  induction L with
  | nil => rfl
  | cons x t ih => simp only [nds, List.flatMap_cons, List.length_append] at *; rw [ih]; simp [ndL]; omega
theorem nds_get : ∀ (L : List Nd) (j k : Nat) (h : j < L.length), k < 13 → (nds L)[j * 13 + k]? = (ndL L[j])[k]?
  | [], j, k, h, _ => absurd h (by simp)
  | x :: t, 0, k, h, hk => by
    simp only [nds, List.flatMap_cons]
    rw [List.getElem?_append_left (by simp [ndL]; omega)]; simp
  | x :: t, j + 1, k, h, hk => by
    simp only [nds, List.flatMap_cons]
    rw [List.getElem?_append_right (by simp [ndL]; omega)]
    have := nds_get t j k (by simpa using h) hk
    simp only [nds] at this
    rw [show (j + 1) * 13 + k - (ndL x).length = j * 13 + k from by simp [ndL]; omega, this]
    simp
theorem Tryz.info149 : (Tryz.prog.info? 149).map (fun i => (i.zero, i.size, i.bytes)) = some (some (ndV ⟨0, 0, 0, 0, 0, rz, rz⟩), 13, 88) := by kernel_rfl
theorem RD.alloc {w : World} {r : Nat} {s : ByteArray} {st : PS} {v : Value} (h : RD w r s st v) (o : Obj) : RD (w.alloc o) r s st v := h.fr0 ((Fr.refl _ _).alloc o)
theorem RD.drew {w : World} {r : Nat} {s : ByteArray} {st : PS} {v : Value} (h : RD w r s st v) : RD w.drew r s st v := ⟨h.row, h.own⟩
/-- The cells of a node as an array, written out. -/
abbrev ndA (x : Nd) : Array Value := #[I x.kind, I x.op, I x.a, I x.b, I x.n, I x.r1.col, I x.r1.row, .bool x.r1.absC, .bool x.r1.absR, I x.r2.col, I x.r2.row, .bool x.r2.absC, .bool x.r2.absR]
theorem add_row {r : Nat} {s : ByteArray} {st : PS} {v : Value} {w0 w w1 : World} {x : Nd} {g cap n : Nat} (h : RD w r s st v) (hn : st.n.length = n)
    (hfr : Fr (Up r) w0 w)
    (hown : w1.ownsRow (r + 1) 149 13 (.slice (some ⟨g, 0, none⟩) (n + 1) cap) (n + 1) (nds st.n ++ (ndA x).toList)) (hg : w.grownBy w1 v.ownBlock) :
    (w1.cell? ⟨r, 2, none⟩ = some v ∧ w1.frozen? ⟨r, 2, none⟩ = false) ∧
    RD (w1.setCell ⟨r, 2, none⟩ (.slice (some ⟨g, 0, none⟩) (n + 1) cap)) r s { st with n := st.n ++ [x] } (.slice (some ⟨g, 0, none⟩) (n + 1) cap) ∧
    Fr (Up r) w0 (w1.setCell ⟨r, 2, none⟩ (.slice (some ⟨g, 0, none⟩) (n + 1) cap)) := by
  have hF := Fr.of_grown hg
  have hlt : ∀ k, some k = v.ownBlock → r + 1 ≤ k := fun k h' => (h.own.lt k h'.symm).1
  have hrow : Row w1 r 5 (rdC s v st) := hF.row h.row (fun h' => by have := hlt _ h'; omega)
  refine ⟨⟨hrow.cell 2 (by omega), hrow.frozen 2⟩, ⟨(hrow.set 2 _).congr (by intro i hi; rcases i with _ | _ | _ | _ | _ | i <;> simp [upd, rdC]), ?_⟩, ?_⟩
  · subst hn
    obtain ⟨h1, h2⟩ := hown
    have e : nds (st.n ++ [x]) = nds st.n ++ (ndA x).toList := by rw [nds_append, nds_one]; rfl
    show World.ownsRow _ _ _ _ _ (st.n ++ [x]).length (nds (st.n ++ [x]))
    rw [e, show (st.n ++ [x]).length = st.n.length + 1 from by simp]
    refine ⟨h1, ?_⟩
    rcases h2 with h2 | ⟨g', cap', cur, e', hb, hg', rest⟩
    · exact .inl h2
    · refine .inr ⟨g', cap', cur, e', hb, ?_, rest⟩
      rw [Below.heap_setCell _ _ _ _ (by show g' ≠ r; omega)]; exact hg'
  · refine Fr.setCell (hfr.step hF (fun k hk => .inl (by have := hlt k hk; show r ≤ k; omega))) (.inl (Nat.le_refl r)) _
set_option maxRecDepth 100000 in
set_option maxHeartbeats 2000000 in
theorem add_any (r : Nat) (s : ByteArray) (st : PS) (v : Value) (x : Nd) (w : World) (h : RD w r s st v) (hi : st.i ≤ 40) :
    Calls Tryz.prog 173 #[pt r, ndV x] w fun e w' => ∃ v', e = .returned (I (st.add x).2) ∧ RD w' r s (st.add x).1 v' ∧ Fr (Up r) w w' := by
  have hA : Fr S0 w (w.alloc (.cells (ndA x) 149)) := (Fr.refl _ _).alloc _
  have h1 := h.fr0 hA
  have c1 := h1.row.cell 1 (by omega)
  have c2 := h1.row.cell 2 (by omega)
  have c3 := h1.row.cell 3 (by omega)
  simp only [rdC] at c1 c2 c3
  have hb := Bx.mk h1
  have hlt := h.row.lt
  by_cases he : st.err = 0
  · have hed : (st.err != 0) = false := by simpa using he
    obtain ⟨a, n, c, hv, hna, hnc⟩ : ∃ a n c, v = .slice a n c ∧ n = st.n.length ∧ (n = 0 ∨ a ≠ none) := by
      rcases h.own.2 with ⟨e1, e2⟩ | ⟨g, cap, cur, e1, e2, _⟩
      · exact ⟨_, _, _, e1, e2.symm, .inl rfl⟩
      · exact ⟨_, _, _, e1, rfl, .inr (by simp)⟩
    by_cases hn : 24 ≤ n
    · have hnd : decide ((24 : Int) ≤ (n : Int)) = true := by simp; omega
      have hadd : Bx (st.add x = (st.fail 7 st.i, -1)) := Bx.mk (by unfold PS.add; rw [if_neg (by simpa using he), if_pos (by omega)])
      subst hv
      clear he h h1 hn hna hnc
      go_enter Tryz.func173, Tryz.ntmps173
      go_wp2_with (first | (go_at_call 144; refine (fail_any r s st _ 7 st.i _ hb.out).mono ?_; rintro e w' ⟨rfl, hR2, hf2⟩))
      go_ret
      rw [hadd.out]
      exact ⟨_, rfl, hR2, hA.up.trans hf2⟩
    · have hnd : decide ((24 : Int) ≤ (n : Int)) = false := by simp; omega
      have hn24 : n < 24 := by omega
      have hadd : Bx (st.add x = ({ st with n := st.n ++ [x] }, (n : Int))) := Bx.mk (by unfold PS.add; rw [if_neg (by simpa using he), if_neg (by omega), hna])
      obtain ⟨i0, hi0, hz0, hz1, hzb⟩ := info_parts Tryz.info149
      have hb2 := Bx.mk (show st.n.length = n from hna.symm)
      subst hv
      have hb3 := Bx.mk ((h1.alloc (.cells (ndA x) 149)).drew)
      have hown0 : Bx ((((w.alloc (.cells (ndA x) 149)).alloc (.cells (ndA x) 149)).drew).ownsRow (r + 1) 149 13 (.slice a n c) n (nds st.n)) := Bx.mk (hb2.out ▸ hb3.out.own)
      have hnews : Bx (∀ j u, (ndA x).toList[j]? = some u → (((w.alloc (.cells (ndA x) 149)).alloc (.cells (ndA x) 149)).drew).cell? ((⟨w.heap.size + 1, 0, none⟩ : Addr).add j) = some u) :=
        Bx.mk (World.news_of_block (cs := ndA x) (fr := (0, 0)) (t := 149) (by have := heap_alloc_new (w.alloc (.cells (ndA x) 149)) (.cells (ndA x) 149); rw [show (w.alloc (.cells (ndA x) 149)).heap.size = w.heap.size + 1 from by simp] at this; exact this))
      have hones : Bx (∀ u ∈ (ndA x).toList, u.oneCell' = true) := Bx.mk (by
        intro u hu
        simp only [List.mem_cons, List.not_mem_nil, or_false] at hu
        rcases hu with h | h | h | h | h | h | h | h | h | h | h | h | h <;> subst h <;> rfl)
      clear he h h1 hn hna hnc
      go_enter Tryz.func173, Tryz.ntmps173
      go_wp2_with fail
      go_region_law (refine step_append_lies _ rfl (.tmp 26) (.tmp 28) 103 (by rfl) (r + 1) 149 i0 (ndV ⟨0, 0, 0, 0, 0, rz, rz⟩) 13 88 Tryz.underlying103 hi0 hz0 hz1 hzb rfl (by decide) (.slice a n c) n (nds st.n) (by simp [Act.eval, Act.put]) hown0.out ⟨w.heap.size + 1, 0, none⟩ 1 1 (ndA x).toList (by simp [Act.eval, Act.put]) rfl hnews.out hones.out (by decide) (by unfold maxLen; omega) (by omega) (by simp; omega) _ rfl ?_; intro g cap w1 hown hgrow hat hlt1; have hR := add_row hb3.out hb2.out (((hA.alloc (.cells (ndA x) 149)).drew).up) hown hgrow; have q1 := hR.1.1; have q2 := hR.1.2; have hR2 := Bx.mk hR.2; clear hown hgrow hat hR)
      all_goals go_wp2
      all_goals go_ret
      all_goals (rw [hadd.out]; exact ⟨_, rfl, hR2.out.1, hR2.out.2⟩)
  · have hed : (st.err != 0) = true := by simpa using he
    have hadd : Bx (st.add x = (st, -1)) := Bx.mk (add_err he x)
    clear he h h1
    go_enter Tryz.func173, Tryz.ntmps173
    go_wp2
    go_ret
    rw [hadd.out]
    exact ⟨v, rfl, hb.out, hA.up⟩
end Go.Proofs.Qxb6500326aGreat
