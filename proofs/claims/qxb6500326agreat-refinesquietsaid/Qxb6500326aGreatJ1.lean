import Derived.Test.Qxb6500326aGreatH6
import Derived.ArgAppend
namespace Go.Proofs.Qxb6500326aGreat
set_option maxRecDepth 100000
set_option linter.unusedVariables false
set_option linter.unusedSimpArgs false
open Go.RowKit Go.PlainAid

theorem Tryz.info38 : (Tryz.prog.info? 38).map (fun i => (i.zero, i.size, i.bytes)) = some (some (.slice none 0 0), 1, 24) := by kernel_rfl
/-! ### lists of snapshots in memory -/
structure SLc (w : World) (ao : Option Addr) (b off cap : Nat) (ks : List Value) : Prop where
  le : ks.length ≤ cap
  addr : 0 < cap → ao = some ⟨b, off, none⟩
  nil : cap = 0 → ao = none
  lt : 0 < cap → b < w.heap.size
  cel : ∀ j, j < cap → (w.cell? ⟨b, off + j, none⟩).isSome = true
  fz : 0 < cap → ∀ j, w.frozen? ⟨b, j, none⟩ = false
  olds : ∀ j u, ks[j]? = some u → w.cell? ⟨b, off + j, none⟩ = some u
section
variable {w w' : World} {ao : Option Addr} {b off cap : Nat} {ks : List Value}
theorem SLc.fr (h : SLc w ao b off cap ks) {S : Nat → Prop} (f : Fr S w w') (hb : 0 < cap → ¬ S b) : SLc w' ao b off cap ks := by
  rcases Nat.eq_zero_or_pos cap with h0 | h0
  · have : ks = [] := List.eq_nil_of_length_eq_zero (by have := h.le; omega)
    subst this
    exact ⟨h.le, h.addr, h.nil, fun g => by omega, fun j hj => by omega, fun g => by omega, fun j u hj => by simp at hj⟩
  · have hl := h.lt h0
    have hbl := f.block b hl (hb h0)
    have hc : ∀ j, w'.cell? ⟨b, j, none⟩ = w.cell? ⟨b, j, none⟩ := fun j => f.cell (a := ⟨b, j, none⟩) hl (hb h0)
    refine ⟨h.le, h.addr, h.nil, fun g => by have := f.size; omega, fun j hj => by rw [hc]; exact h.cel j hj, fun g j => ?_, fun j u hj => by rw [hc]; exact h.olds j u hj⟩
    rw [World.frozen?_of_block (a := ⟨b, j, none⟩) hbl]; exact h.fz h0 j
theorem slc_nil (w : World) (b off : Nat) : SLc w none b off 0 [] := ⟨Nat.le_refl _, fun g => by omega, fun _ => rfl, fun g => by omega, fun j hj => by omega, fun g => by omega, fun j u hj => by simp at hj⟩
theorem SLc.own {g : Nat} {e : TypeId} {cur : Array Value} {cap' : Nat} (hg : w.heap[g]? = some (.cells cur e (0, 0))) (hn : ks.length ≤ cap') (hp : 0 < cap') (hs : cur.size = cap') (ht : cur.toList.take ks.length = ks) : SLc w (some ⟨g, 0, none⟩) g 0 cap' ks := by
  have hc : ∀ j, w.cell? ⟨g, j, none⟩ = cur[j]? := fun j => cell_of_row w g j cur e (0, 0) hg
  refine ⟨hn, fun _ => rfl, fun h => by omega, fun _ => (Array.getElem?_eq_some_iff.1 hg).1, fun j hj => ?_, fun _ j => ?_, fun j u hj => ?_⟩
  · rw [Nat.zero_add, hc, Array.getElem?_eq_getElem (by omega)]; rfl
  · simp [World.frozen?, hg]
  · rw [Nat.zero_add, hc]
    have hjl : j < ks.length := (List.getElem?_eq_some_iff.1 hj).1
    rw [← ht, List.getElem?_take, if_pos hjl] at hj
    simpa using hj
theorem SLc.room {x : Value} (h : SLc w ao b off cap ks) (hr : ks.length < cap) : SLc (w.setCell ⟨b, off + ks.length, none⟩ x) ao b off cap (ks ++ [x]) := by
  have hl := h.lt (by omega)
  refine ⟨by simp; omega, h.addr, h.nil, fun g => by have := (Fr.refl (fun k => k = b) w).setCell (p := ⟨b, off + ks.length, none⟩) (.inl rfl) x; have := this.size; omega, fun j hj => ?_, fun g j => ?_, fun j u hj => ?_⟩
  · by_cases e : j = ks.length
    · subst e; rw [World.cell?_setCell_same' _ _ _ (h.cel _ hj)]; rfl
    · rw [World.cell?_setCell_other _ _ _ _ (by intro e2; have := congrArg Addr.off e2; simp at this; omega)]; exact h.cel j hj
  · rw [World.frozen?_setCell]; exact h.fz (by omega) j
  · rcases Nat.lt_or_ge j ks.length with hj2 | hj2
    · rw [List.getElem?_append_left hj2] at hj
      rw [World.cell?_setCell_other _ _ _ _ (by intro e2; have := congrArg Addr.off e2; simp at this; omega)]; exact h.olds j u hj
    · rw [List.getElem?_append_right hj2] at hj
      have e : j = ks.length := by
        have := (List.getElem?_eq_some_iff.1 hj).1; simp at this; omega
      subst e
      simp at hj
      subst hj
      exact World.cell?_setCell_same' _ _ _ (h.cel _ hr)
theorem SLc.take (h : SLc w ao b off cap ks) (n : Nat) (hn : n ≤ ks.length) : SLc w ao b off cap (ks.take n) :=
  ⟨by have := h.le; rw [List.length_take]; omega, h.addr, h.nil, h.lt, h.cel, h.fz, fun j u hj => by
    rw [List.getElem?_take] at hj
    split at hj
    · exact h.olds j u hj
    · cases hj⟩
theorem SLc.drop1 (h : SLc w ao b off cap ks) (hc : 1 < cap) (hk : 1 ≤ ks.length) : SLc w (some ⟨b, off + 1, none⟩) b (off + 1) (cap - 1) (ks.drop 1) :=
  ⟨by have := h.le; rw [List.length_drop]; omega, fun _ => rfl, fun g => by omega, fun _ => h.lt (by omega), fun j hj => by rw [show off + 1 + j = off + (1 + j) from by omega]; exact h.cel _ (by omega), fun _ => h.fz (by omega), fun j u hj => by
    rw [List.getElem?_drop] at hj
    rw [show off + 1 + j = off + (1 + j) from by omega]; exact h.olds _ u hj⟩
theorem SLc.set (h : SLc w ao b off cap ks) {i : Nat} (hi : i < ks.length) (x : Value) : SLc (w.setCell ⟨b, off + i, none⟩ x) ao b off cap (ks.set i x) := by
  have hle := h.le
  have hl := h.lt (by omega)
  refine ⟨by simpa using h.le, h.addr, h.nil, fun g => by have := (Fr.refl (fun k => k = b) w).setCell (p := ⟨b, off + i, none⟩) (.inl rfl) x; have := this.size; omega, fun j hj => ?_, fun g j => ?_, fun j u hj => ?_⟩
  · by_cases e : j = i
    · subst e; rw [World.cell?_setCell_same' _ _ _ (h.cel _ hj)]; rfl
    · rw [World.cell?_setCell_other _ _ _ _ (by intro e2; have := congrArg Addr.off e2; simp at this; omega)]; exact h.cel j hj
  · rw [World.frozen?_setCell]; exact h.fz (by omega) j
  · rw [List.getElem?_set] at hj
    split at hj
    · rename_i e
      subst e
      cases hj
      exact World.cell?_setCell_same' _ _ _ (h.cel _ (by omega))
    · rename_i e
      rw [World.cell?_setCell_other _ _ _ _ (by intro e2; have := congrArg Addr.off e2; simp at this; omega)]; exact h.olds j u hj
end
/-- A list's value; its array has the colour c. -/
def LV (w : World) (ρ : Nat → Nat) (c : Nat) (v : Value) (ks : List Value) : Prop := ∃ ao b off cap, v = .slice ao ks.length cap ∧ SLc w ao b off cap ks ∧ (0 < cap → ρ b = c)
section
variable {w w' : World} {ρ ρ' : Nat → Nat} {c : Nat} {v : Value} {ks : List Value}
theorem LV.fr (h : LV w ρ c v ks) {S : Nat → Prop} (f : Fr S w w') (hS : ∀ k, ρ k = c → ¬ S k) (hx : Ext w ρ ρ') : LV w' ρ' c v ks := by
  obtain ⟨ao, b, off, cap, e, h1, h2⟩ := h
  exact ⟨ao, b, off, cap, e, h1.fr f (fun g => hS b (h2 g)), fun g => (hx b (h1.lt g)).trans (h2 g)⟩
theorem lv_nil (w : World) (ρ : Nat → Nat) (c : Nat) : LV w ρ c (.slice none 0 0) [] := ⟨none, 0, 0, 0, rfl, slc_nil w 0 0, fun g => by omega⟩
theorem wpList_append_lv {ops : Array Oper} {rest : List Oper} {o : Oper} {a : Act} {Q : Exit → Act → World → Prop} (hgd : o.guard = none) (s x : Operand) (w : World)
    (ho : o.op = .call { callee := .builtin .append, args := #[s, x], argTypes := #[49, 49] })
    (h : LV w ρ c v ks) (hs : a.eval s = v) (hlen : ks.length ≤ 100) (gd : Nat) (cx : Nat) (u : Value) (hx : a.eval x = .slice (some ⟨gd, 0, none⟩) 1 cx) (hu : w.cell? ⟨gd, 0, none⟩ = some u) (h1 : u.oneCell' = true)
    (hK : ∀ v' w' ρ', Ext w ρ ρ' → LV w' ρ' c v' (ks ++ [u]) → Fr (Cq ρ c) w w' → wpList Tryz.prog ops Q rest (a.put o.dst v') w') : wpList Tryz.prog ops Q (o :: rest) a w := by
  obtain ⟨i0, hi, hz0, hz1, hzb⟩ := info_parts Tryz.info38
  obtain ⟨ao, b, off, cap, rfl, hc, hcol⟩ := h
  have hle := hc.le
  have hnews : ∀ j v, [u][j]? = some v → w.cell? ((⟨gd, 0, none⟩ : Addr).add j) = some v := fun j v hj => by
    cases j with
    | zero => simp at hj; subst hj; rw [Addr.add_lit]; exact hu
    | succ j => simp at hj
  by_cases hr : ks.length + 1 ≤ cap
  · have hao := hc.addr (by omega)
    refine wpList_append_arg w hgd s x 49 ho 38 i0 (.slice none 0 0) 1 24 Tryz.underlying49 hi hz0 hz1 hzb rfl (by decide) b off ks.length cap ks (by rw [hs, hao]) (by omega) hc.olds ⟨gd, 0, none⟩ 1 cx [u] hx rfl hnews (by intro z hz; simp at hz; subst hz; exact h1)
      (fun _ j hj => ?_) (by unfold maxLen; omega) (by omega) (fun _ => ?_) (fun g => absurd g (by omega))
    · simp at hj; subst hj
      exact ⟨by rw [Nat.mul_one]; exact hc.cel _ (by omega), by rw [Nat.mul_one]; exact hc.fz (by omega) _⟩
    · have hw : w.setCells b (off + ks.length * 1) [u] = w.setCell ⟨b, off + ks.length, none⟩ u := by rw [Nat.mul_one]; rfl
      rw [hw]
      refine hK _ _ ρ (Ext.refl _ _) ⟨ao, b, off, cap, by rw [hao]; simp, hc.room (by omega), hcol⟩ ?_
      exact (Fr.refl _ w).setCell (p := ⟨b, off + ks.length, none⟩) (.inl (hcol (by omega))) u
  · refine wpList_append_grows w hgd s x 49 ho 38 i0 (.slice none 0 0) 1 24 Tryz.underlying49 hi hz0 hz1 hzb rfl (by decide) ao ks.length cap ks hs (fun g => ?_) (by omega) (fun b' g j z hj => ?_) ⟨gd, 0, none⟩ 1 cx [u] hx rfl hnews (by intro z hz; simp at hz; subst hz; exact h1) (by omega) (by unfold maxLen; omega) (by omega) (fun v' w' hown hgr => ?_)
    · rcases Nat.eq_zero_or_pos cap with h0 | h0
      · exact ⟨by omega, h0⟩
      · rw [hc.addr h0] at g; cases g
    · have hp : 0 < cap := by have := (List.getElem?_eq_some_iff.1 hj).1; omega
      rw [hc.addr hp] at g
      cases g
      rw [Addr.add_lit]; exact hc.olds j z hj
    · have hfr : Fr S0 w w' := (Fr.of_grown hgr).mono (fun k hk => by cases hk)
      obtain ⟨hlen2, hcase⟩ := hown
      rcases hcase with ⟨_, h0⟩ | ⟨g, cap', cur, rfl, hb, hg, hn, _, hsz, htk⟩
      · omega
      · refine hK _ _ (ext ρ w.heap.size g c) (ext_Ext _ _ _ _) ⟨some ⟨g, 0, none⟩, g, 0, cap', by simp, SLc.own hg (by simpa using hn) (by omega) (by omega) (by simpa using htk), fun _ => ext_new hb⟩ hfr.up
end
/-- A list of snapshots; these have the colour 0. -/
structure Sn (w : World) (ρ : Nat → Nat) (v : Value) (T : Tx) : Prop where
  ex : ∃ k, v = sl k 24 24 ∧ ρ k = 0 ∧ Row w k 24 (fun j => .string (T j))
theorem Sn.fr {w w' : World} {ρ ρ' : Nat → Nat} {v : Value} {T : Tx} (h : Sn w ρ v T) {S : Nat → Prop} (f : Fr S w w') (hS : ∀ k, ρ k = 0 → ¬ S k) (hx : Ext w ρ ρ') : Sn w' ρ' v T := by
  obtain ⟨k, e, hk, hr⟩ := h.ex
  exact ⟨⟨k, e, (hx k hr.lt).trans hk, f.row hr (hS k hk)⟩⟩
def LT (w : World) (ρ : Nat → Nat) (c : Nat) (v : Value) (L : List Tx) : Prop := ∃ ks, LV w ρ c v ks ∧ ks.length = L.length ∧ ∀ (i : Nat) (T : Tx), L[i]? = some T → ∃ u, ks[i]? = some u ∧ Sn w ρ u T
section
variable {w w' : World} {ρ ρ' : Nat → Nat} {c : Nat} {v : Value} {L : List Tx}
theorem LT.fr (h : LT w ρ c v L) {S : Nat → Prop} (f : Fr S w w') (hS : ∀ k, ρ k = c ∨ ρ k = 0 → ¬ S k) (hx : Ext w ρ ρ') : LT w' ρ' c v L := by
  obtain ⟨ks, h1, h2, h3⟩ := h
  exact ⟨ks, h1.fr f (fun k hk => hS k (.inl hk)) hx, h2, fun i T hi => by
    obtain ⟨u, hu, hs⟩ := h3 i T hi
    exact ⟨u, hu, hs.fr f (fun k hk => hS k (.inr hk)) hx⟩⟩
theorem lt_nil (w : World) (ρ : Nat → Nat) (c : Nat) : LT w ρ c (.slice none 0 0) [] := ⟨[], lv_nil w ρ c, rfl, fun i T h => by simp at h⟩
/-- What an append leaves. -/
theorem LT.push {u : Value} {T : Tx} {ks : List Value} {v' : Value} (h2 : ks.length = L.length) (h3 : ∀ (i : Nat) (T : Tx), L[i]? = some T → ∃ u, ks[i]? = some u ∧ Sn w ρ u T) (hu : Sn w ρ u T) (hx : Ext w ρ ρ') (hl : LV w' ρ' c v' (ks ++ [u])) (f : Fr (Cq ρ c) w w') (hc : c ≠ 0) : LT w' ρ' c v' (L ++ [T]) := by
  have hS : ∀ k, ρ k = 0 → ¬ Cq ρ c k := fun k hk e => hc (e.symm.trans hk)
  refine ⟨_, hl, by simp [h2], fun i Ti hi => ?_⟩
  rcases Nat.lt_or_ge i L.length with hi2 | hi2
  · rw [List.getElem?_append_left hi2] at hi
    obtain ⟨z, hz, hs⟩ := h3 i Ti hi
    exact ⟨z, by rw [List.getElem?_append_left (by omega)]; exact hz, hs.fr f hS hx⟩
  · rw [List.getElem?_append_right hi2] at hi
    have e : i = L.length := by have := (List.getElem?_eq_some_iff.1 hi).1; simp at this; omega
    subst e
    simp at hi; subst hi
    exact ⟨u, by rw [← h2, List.getElem?_append_right (Nat.le_refl _)]; simp, hu.fr f hS hx⟩
/-- A list that is not empty, laid open. -/
structure Op1 (w : World) (ρ : Nat → Nat) (c : Nat) (v : Value) (L : List Tx) (b off n cap : Nat) : Prop where
  e : v = .slice (some ⟨b, off, none⟩) n cap
  len : L.length = n
  cn : n ≤ cap
  lt : b < w.heap.size
  col : ρ b = c
  el : ∀ (i : Nat) (T : Tx), L[i]? = some T → ∃ k, w.cell? ⟨b, off + i, none⟩ = some (sl k 24 24) ∧ ρ k = 0 ∧ Row w k 24 (fun j => .string (T j))
theorem LT.open1 (h : LT w ρ c v L) (h0 : 0 < L.length) : ∃ b off cap, Op1 w ρ c v L b off L.length cap := by
  obtain ⟨ks, ⟨ao, b, off, cap, rfl, h1, hcol⟩, h2, h3⟩ := h
  have hle := h1.le
  have hp : 0 < cap := by omega
  refine ⟨b, off, cap, by rw [h1.addr hp, h2], rfl, by omega, h1.lt hp, hcol hp, fun i T hi => ?_⟩
  obtain ⟨u, hu, hs⟩ := h3 i T hi
  obtain ⟨k, rfl, hk, hr⟩ := hs.ex
  exact ⟨k, h1.olds i _ hu, hk, hr⟩
theorem LT.take {b off n cap : Nat} (h : LT w ρ c (.slice (some ⟨b, off, none⟩) n cap) L) (m : Nat) (hm : m ≤ L.length) : LT w ρ c (.slice (some ⟨b, off, none⟩) m cap) (L.take m) := by
  obtain ⟨ks, ⟨ao, b', off', cap', e, h1, hcol⟩, h2, h3⟩ := h
  cases e
  refine ⟨ks.take m, ⟨_, b', off', cap, ?_, h1.take m (by omega), hcol⟩, by simp; omega, fun i T hi => ?_⟩
  · rw [List.length_take, Nat.min_eq_left (by omega)]
  · rw [List.getElem?_take] at hi
    split at hi
    · rename_i hi2
      obtain ⟨u, hu, hs⟩ := h3 i T hi
      exact ⟨u, by rw [List.getElem?_take, if_pos hi2]; exact hu, hs⟩
    · cases hi
theorem LT.drop1 {b off n cap : Nat} (h : LT w ρ c (.slice (some ⟨b, off, none⟩) n cap) L) (hL : 2 ≤ L.length) : LT w ρ c (.slice (some ⟨b, off + 1, none⟩) (n - 1) (cap - 1)) (L.drop 1) := by
  obtain ⟨ks, ⟨ao, b', off', cap', e, h1, hcol⟩, h2, h3⟩ := h
  cases e
  have hle := h1.le
  have he := h1.addr (by omega)
  cases he
  refine ⟨ks.drop 1, ⟨_, b, off + 1, cap - 1, by simp, h1.drop1 (by omega) (by omega), fun _ => hcol (by omega)⟩, by simp; omega, fun i T hi => ?_⟩
  rw [List.getElem?_drop] at hi
  obtain ⟨u, hu, hs⟩ := h3 _ T hi
  exact ⟨u, by rw [List.getElem?_drop]; exact hu, hs⟩
end
end Go.Proofs.Qxb6500326aGreat
