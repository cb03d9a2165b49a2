import Derived.Test.Qxb6500326aGreatW17
namespace Go.Proofs.Qxb6500326aGreat
set_option maxRecDepth 100000
set_option linter.unusedVariables false
set_option linter.unusedSimpArgs false
open Go.RowKit Go.PlainAid
/-- copy over elements of several cells, to a row's head. -/
theorem run_copy_wide {P : Program} (w : World) (dT sT ty elem : TypeId) (g dLen dCap : Nat) (a : Addr) (sLen sCap : Nat) (cur : Array Value) (t : TypeId) (cs : List Value) (n size : Nat)
    (hu : P.underlying dT = some (.slice elem)) (hs : (P.info? elem).map (·.size) = some size)
    (hg : w.heap[g]? = some (.cells cur t (0, 0))) (hn : n = Nat.min sLen dLen) (hc : cs.length = n * size)
    (hsrc : ∀ j v, cs[j]? = some v → w.cell? (a.add j) = some v) (hfit : cs.length ≤ cur.size) (h1 : ∀ v ∈ cs, v.oneCell' = true) :
    (Builtin.copy_ #[dT, sT] ty #[.slice (some ⟨g, 0, none⟩) dLen dCap, .slice (some a) sLen sCap]).run P w =
      .ok (goInt n) (w.setRow g (cs ++ cur.toList.drop cs.length).toArray) := by
  have hl := run_loadCells_list (P := P) w a cs hsrc
  have hst := run_storeCells_at P g 0 t cs 0 cur w hg (by simpa using hfit) h1
  cases hq : P.info? elem with
  | none => simp [hq] at hs
  | some i =>
    have hi : i.size = size := by simpa [hq] using hs
    simp [Builtin.copy_, run_underlying hu, Builtin.lenOf, Builtin.firstCells, sizeOf, typeInfo, hq, hi, ← hn, ← hc, hl]
    simp at hst
    simp [hst]
theorem wpList_copy_wide {P : Program} {w : World} {ops : Array Oper} {rest : List Oper} {o : Oper} {a : Act} {Q : Exit → Act → World → Prop} (hgd : o.guard = none) (d s : Operand) (dT sT : TypeId)
    (ho : o.op = .call { callee := .builtin .copy, args := #[d, s], argTypes := #[dT, sT] }) (elem : TypeId) (size : Nat) (hu : P.underlying dT = some (.slice elem)) (hsz : (P.info? elem).map (·.size) = some size)
    (g dLen dCap : Nat) (ad : Addr) (sLen sCap : Nat) (hd : a.eval d = .slice (some ⟨g, 0, none⟩) dLen dCap) (hs : a.eval s = .slice (some ad) sLen sCap)
    (cur : Array Value) (t : TypeId) (hg : w.heap[g]? = some (.cells cur t (0, 0))) (cs : List Value) (n : Nat) (hn : n = Nat.min sLen dLen) (hc : cs.length = n * size)
    (hsrc : ∀ j v, cs[j]? = some v → w.cell? (ad.add j) = some v) (hfit : cs.length ≤ cur.size) (h1 : ∀ v ∈ cs, v.oneCell' = true)
    (h : wpList P ops Q rest (a.put o.dst (goInt n)) (w.setRow g (cs ++ cur.toList.drop cs.length).toArray)) : wpList P ops Q (o :: rest) a w := by
  refine wpList_plain hgd fun K hK => ?_
  have hrun := run_copy_wide (P := P) w dT sT o.type elem g dLen dCap ad sLen sCap cur t cs n size hu hsz hg hn hc hsrc hfit h1
  unfold Oper.wp
  simp [execOp, ho, resolve, invoke, builtin, hd, hs, hrun, Result.andThen]
  exact hK _ _ h
/-- v is a list of nodes. -/
def NL (w : World) (v : Value) (L : List Nd) : Prop := w.ownsRow 0 149 13 v L.length (nds L)
/-- A list of its own: nil, or its block is at B or behind it and its capacity is its length. -/
def XL (w : World) (B : Nat) (v : Value) (L : List Nd) : Prop :=
  (L = [] ∧ v = .slice none 0 0) ∨ (L ≠ [] ∧ ∃ g, B ≤ g ∧ v = sl g L.length L.length ∧ w.heap[g]? = some (.cells (nds L).toArray 149 (0, 0)))
theorem NL.base {w : World} {v : Value} {L : List Nd} {B : Nat} (h : w.ownsRow B 149 13 v L.length (nds L)) : NL w v L := by
  refine ⟨h.1, ?_⟩
  rcases h.2 with h2 | ⟨g, cap, cur, e, hb, hg, rest⟩
  · exact .inl h2
  · exact .inr ⟨g, cap, cur, e, Nat.zero_le _, hg, rest⟩
theorem XL.nl {w : World} {B : Nat} {v : Value} {L : List Nd} (h : XL w B v L) (hl : L.length ≤ 100) : NL w v L := by
  refine ⟨nds_len L, ?_⟩
  rcases h with ⟨rfl, rfl⟩ | ⟨h0, g, hb, rfl, hg⟩
  · exact .inl ⟨rfl, rfl⟩
  · exact .inr ⟨g, L.length, _, rfl, Nat.zero_le _, hg, Nat.le_refl _, by unfold maxLen; omega, by simp [nds_len], by simp [← nds_len]⟩
theorem NL.slice {w : World} {v : Value} {L : List Nd} (h : NL w v L) : ∃ a c, v = .slice a L.length c := by
  rcases h.2 with ⟨e1, e2⟩ | ⟨g, cap, cur, e1, e2, _⟩
  · exact ⟨none, 0, by rw [e1, e2]⟩
  · exact ⟨_, _, e1⟩
theorem NL.fr {S : Nat → Prop} {w w' : World} {v : Value} {L : List Nd} (h : NL w v L) (f : Fr S w w') (hS : ∀ k, v.ownBlock = some k → ¬ S k) : NL w' v L := by
  refine ⟨h.1, ?_⟩
  rcases h.2 with h2 | ⟨g, cap, cur, e, hb, hg, rest⟩
  · exact .inl h2
  · refine .inr ⟨g, cap, cur, e, hb, ?_, rest⟩
    rw [f.block g (Array.getElem?_eq_some_iff.1 hg).1 (hS g (by rw [e]; rfl))]; exact hg
theorem NL.fr0 {w w' : World} {v : Value} {L : List Nd} (h : NL w v L) (f : Fr S0 w w') : NL w' v L := h.fr f (fun _ _ => id)
theorem NL.drewN {w : World} {v : Value} {L : List Nd} (h : NL w v L) (n : Nat) : NL (w.drewN n) v L := h
theorem NL.pos {w : World} {v : Value} {L : List Nd} (h : NL w v L) (hl : L ≠ []) : ∃ g cap, v = .slice (some ⟨g, 0, none⟩) L.length cap ∧ g < w.heap.size ∧ v.ownBlock = some g := by
  obtain ⟨g, cap, e, _, hg⟩ := World.ownsRow.form h (by cases L; exact absurd rfl hl; simp)
  exact ⟨g, cap, e, hg, by rw [e]; rfl⟩
theorem NL.cell {w : World} {g n cap : Nat} {L : List Nd} (h : NL w (.slice (some ⟨g, 0, none⟩) n cap) L) (j k : Nat) (hj : j < L.length) (hk : k < 13) (x : Value) (hx : (ndL L[j])[k]? = some x) : w.cell? ⟨g, j * 13 + k, none⟩ = some x := by
  have := World.ownsRow.cells h (g := g) rfl (j * 13 + k) x (by rw [nds_get L j k hj hk]; exact hx)
  rw [show (⟨g, 0, none⟩ : Addr).add (j * 13 + k) = ⟨g, j * 13 + k, none⟩ from by unfold Addr.add; split <;> simp_all] at this
  exact this
theorem nds_one' (L : List Nd) : ∀ u ∈ nds L, u.oneCell' = true := by
  intro u hu
  simp only [nds, List.mem_flatMap] at hu
  obtain ⟨x, -, hu⟩ := hu
  simp only [ndL, List.mem_cons, List.not_mem_nil, or_false] at hu
  rcases hu with h | h | h | h | h | h | h | h | h | h | h | h | h <;> subst h <;> rfl
theorem setRow_fr {w : World} {S : Nat → Prop} {g : Nat} {cs : Array Value} (hS : S g) : Fr S w (w.setRow g cs) :=
  ⟨rfl, rfl, rfl, by simp, fun k _ hk => setRow_other w g k _ (fun e => hk (by rw [e]; exact hS))⟩
theorem Tryz.size149 : (Tryz.prog.info? 149).map (·.size) = some 13 := by kernel_rfl
theorem made_row {w : World} {B n : Nat} {xs : List Value} {b : Nat} (h : w.ownsRow b 149 13 (.slice (some ⟨B, 0, none⟩) n n) n xs) : ∃ cur, w.heap[B]? = some (.cells cur 149 (0, 0)) ∧ cur.size = n * 13 := by
  rcases h.2 with ⟨e, _⟩ | ⟨g, cap, cur, e, hb, hg, h1, h2, h3, h4⟩
  · cases e
  · injection e with e1 e2 e3
    injection e1 with e1
    injection e1 with e1
    subst e1; subst e3
    exact ⟨cur, hg, h3⟩
theorem made_src {w w1 : World} {g n cap : Nat} {L : List Nd} (h : NL w (.slice (some ⟨g, 0, none⟩) n cap) L) (hg : w.grownBy w1 none) : ∀ j v, (nds L)[j]? = some v → w1.cell? ((⟨g, 0, none⟩ : Addr).add j) = some v := by
  have h1 := World.ownsRow.kept h hg (.inr (by simp [Value.ownBlock]))
  exact fun j v hv => World.ownsRow.cells h1 rfl j v hv
set_option maxRecDepth 100000 in
set_option maxHeartbeats 1000000 in
theorem copy_any (v : Value) (L : List Nd) (w : World) (h : NL w v L) (hl : L.length ≤ 100) :
    Calls Tryz.prog 110 #[v] w fun e w' => ∃ v', e = .returned v' ∧ XL w' w.heap.size v' L ∧ Fr S0 w w' := by
  by_cases h0 : L = []
  · obtain ⟨a, c, rfl⟩ := h.slice
    subst h0
    clear h
    go_enter Tryz.func110, Tryz.ntmps110
    go_wp2
    go_ret
    exact ⟨_, rfl, .inl ⟨rfl, rfl⟩, Fr.refl _ _⟩
  · obtain ⟨g, cap, rfl, hg, -⟩ := h.pos h0
    obtain ⟨i0, hi0, hz0, hz1, hzb⟩ := info_parts Tryz.info149
    have hpos : 0 < L.length := by cases L; exact absurd rfl h0; simp
    have hd : ((L.length : Int) == 0) = false := by simp; omega
    have hd2 : (L.length == 0) = false := by simp; omega
    have hd3 : ¬ L = [] := h0
    have hb := Bx.mk h
    have hcs := Bx.mk (nds_len L)
    have hsz := Bx.mk Tryz.size149
    have hones := Bx.mk (nds_one' L)
    clear h h0
    go_enter Tryz.func110, Tryz.ntmps110
    go_wp2_with (first
      | (at_make; refine wpList_make_full _ rfl _ _ 103 rfl w.heap.size 149 i0 (ndV ⟨0, 0, 0, 0, 0, rz, rz⟩) 13 Tryz.underlying103 hi0 hz0 hz1 .i64 .i64 (L.length : Int) (L.length : Int) L.length rfl rfl rfl rfl (by rw [hzb]; omega) (by unfold maxLen; omega) (Nat.le_refl _) ?_; intro w1 hown hgr; obtain ⟨cur, hcur, hcsz⟩ := made_row hown; have hsrc := Bx.mk (made_src hb.out hgr); have hfr1 := Fr.of_grown hgr; clear hown hgr)
      | (refine wpList_copy_wide rfl (.tmp 10) (.tmp 11) 103 103 (by rfl) 149 13 Tryz.underlying103 hsz.out w.heap.size L.length L.length ⟨g, 0, none⟩ L.length cap (by rfl) (by rfl) cur 149 hcur (nds L) L.length (by simp) hcs.out hsrc.out (by rw [hcs.out, hcsz]; exact Nat.le_refl _) hones.out ?_))
    go_ret
    refine ⟨_, rfl, .inr ⟨hd3, w.heap.size, Nat.le_refl _, rfl, ?_⟩, ?_⟩
    · rw [setRow_heap w1 w.heap.size cur _ 149 (0, 0) hcur]
      rw [List.drop_of_length_le (by rw [hcs.out]; simp [hcsz])]
      simp
    · refine ⟨hfr1.os, hfr1.tape, hfr1.output, by have := hfr1.size; simpa using this, fun k hk _ => ?_⟩
      rw [setRow_other w1 _ _ _ (by omega)]
      exact hfr1.block k hk (by simp)
end Go.Proofs.Qxb6500326aGreat
