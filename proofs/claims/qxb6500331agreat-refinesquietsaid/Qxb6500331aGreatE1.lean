import Derived.Test.Qxb6500331aGreatR18
import Derived.Test.Qxb6500331aGreatR19
import Derived.Test.Qxb6500331aGreatD6
import Derived.Test.Qxb6500331aGreatN6
namespace Go.Proofs.Qxb6500331aGreat
set_option maxRecDepth 100000
set_option linter.unusedVariables false
set_option linter.unusedSimpArgs false
open Go.RowKit Go.PlainAid

theorem Tryz.info47 : (Tryz.prog.info? 47).map (fun i => (i.zero, i.size, i.bytes)) = some (some (vV v0), 3, 32) := by kernel_rfl
/-- n values from a function. -/
abbrev EL (w : World) (g n : Nat) (env : Nat → Vl) : Prop := Grid w g n 3 (fun c => vC (env c))
def evs (n : Nat) (env : Nat → Vl) : List Value := (List.range (n * 3)).map (fun j => vC (env (j / 3)) (j % 3))
theorem evs_len (n : Nat) (env : Nat → Vl) : (evs n env).length = n * 3 := by simp [evs]
theorem evs_get {n : Nat} {env : Nat → Vl} {j : Nat} (h : j < n * 3) : (evs n env)[j]? = some (vC (env (j / 3)) (j % 3)) := by
  unfold evs; rw [List.getElem?_map, List.getElem?_range h]; rfl
theorem vC_one (x : Vl) (k : Nat) : (vC x k).oneCell' = true := by
  unfold vC; split <;> rfl
theorem evs_one (n : Nat) (env : Nat → Vl) : ∀ u ∈ evs n env, u.oneCell' = true := by
  intro u hu
  simp only [evs, List.mem_map] at hu
  obtain ⟨j, -, rfl⟩ := hu
  exact vC_one _ _
theorem add0 (g j : Nat) : (⟨g, 0, none⟩ : Addr).add j = ⟨g, j, none⟩ := by unfold Addr.add; split <;> simp_all
theorem EL.src {w : World} {g n m : Nat} {env : Nat → Vl} (h : EL w g n env) (hm : m ≤ n) : ∀ j v, (evs m env)[j]? = some v → w.cell? ((⟨g, 0, none⟩ : Addr).add j) = some v := by
  intro j v hv
  have hj : j < m * 3 := by
    rcases Nat.lt_or_ge j (m * 3) with h | h
    · exact h
    · rw [List.getElem?_eq_none (by rw [evs_len]; exact h)] at hv; cases hv
  rw [evs_get hj] at hv
  rw [add0, Row.cell h j (by omega), hv]
def M47 (n : Nat) : Array Value := madeCells (vV v0).cells (n * 3)
theorem M47_made (n : Nat) : Made (M47 n) n 3 (vC v0) := made_of rfl (by intro k hk; rcases k with _ | _ | _ | k <;> first | rfl | omega) (by omega)
theorem mk47 (n : Nat) (hn : n ≤ 100) : ∀ u : World, (Instr.makeSlice 35 (.int .i64 (n : Int)) (.int .i64 (n : Int))).run Tryz.prog u = .ok (sl u.heap.size n n) (u.alloc (.cells (M47 n) 47)) := mkOf Tryz.underlying35 Tryz.info47 n (by omega) (by omega)
/-- The first m of n places take env's values, the rest is as it was. -/
theorem EL.copied (w : World) (H n m : Nat) (env : Nat → Vl) (hm : m ≤ n) (hH : w.heap[H]? = some (.cells (M47 n) 47 (0, 0))) : EL (w.setRow H (evs m env ++ (M47 n).toList.drop (evs m env).length).toArray) H n (fun c => if c < m then env c else v0) := by
  obtain ⟨hs, hc⟩ := M47_made n
  refine ⟨_, 47, setRow_heap w H (M47 n) _ 47 (0, 0) hH, ?_, ?_⟩
  · simp [evs_len, hs]; omega
  · intro j hj
    simp only [List.getElem?_toArray]
    by_cases e : j < m * 3
    · rw [List.getElem?_append_left (by rw [evs_len]; exact e), evs_get e]
      rw [if_pos (by omega)]
    · rw [List.getElem?_append_right (by rw [evs_len]; omega), List.getElem?_drop, evs_len, show m * 3 + (j - m * 3) = j from by omega]
      have := hc j hj
      rw [← Array.getElem?_toList] at this
      rw [this, if_neg (by omega)]
theorem heap_made (w : World) (n : Nat) : (w.alloc (.cells (M47 n) 47)).heap[w.heap.size]? = some (.cells (M47 n) 47 (0, 0)) := by
  show (w.heap.push _)[w.heap.size]? = _; simp
theorem EL.fr_copied (w : World) (n : Nat) (cs : Array Value) : Fr S0 w ((w.alloc (.cells (M47 n) 47)).setRow w.heap.size cs) := by
  refine ⟨rfl, rfl, rfl, by simp, fun k hk _ => ?_⟩
  rw [setRow_other _ _ _ _ (by omega)]
  exact Below.heap_alloc _ _ _ hk
set_option maxHeartbeats 2000000 in
theorem copyVals_nil (a : Option Addr) (c : Nat) (w : World) : Calls Tryz.prog 40 #[.slice a 0 c] w fun e w' => e = .returned (.slice none 0 0) ∧ w = w' := by
  go_enter Tryz.func40, Tryz.ntmps40
  go_wp2
  go_ret
  exact ⟨rfl, rfl⟩
set_option maxHeartbeats 2000000 in
theorem copyVals_any (g n c : Nat) (env : Nat → Vl) (w : World) (h : EL w g n env) (hn : 0 < n) (hn2 : n ≤ 100) : Calls Tryz.prog 40 #[.slice (some ⟨g, 0, none⟩) n c] w fun e w' => e = .returned (sl w.heap.size n n) ∧ EL w' w.heap.size n env ∧ Fr S0 w w' := by
  have hd : ((n : Int) == 0) = false := by simp; omega
  have hmk := mk47 n hn2
  have hsrc := Bx.mk (EL.src (w := w.alloc (.cells (M47 n) 47)) (h.of (S := S0) ((Fr.refl S0 _).alloc _) (by simp)) (Nat.le_refl n))
  have hcur := Bx.mk (heap_made w n)
  have hsz := Bx.mk Tryz.size47
  have hM := Bx.mk (M47_made n).1
  clear h
  go_enter Tryz.func40, Tryz.ntmps40
  go_wp2_with (first
    | (refine wpList_copy_wide rfl (.tmp 10) (.tmp 11) 35 35 (by rfl) 47 3 Tryz.underlying35 hsz.out w.heap.size n n ⟨g, 0, none⟩ n c (by rfl) (by rfl) (M47 n) 47 hcur.out (evs n env) n (by simp) (evs_len n env) hsrc.out (by rw [evs_len, hM.out]; exact Nat.le_refl _) (evs_one n env) ?_))
  go_ret
  refine ⟨rfl, Row.congr (EL.copied _ w.heap.size n n env (Nat.le_refl _) hcur.out) ?_, EL.fr_copied w n _⟩
  intro j hj
  simp only []
  rw [if_pos (by omega)]
def rsz (n : Int) : Nat := if n < 0 then 0 else if 25 < n then 25 else n.toNat
set_option maxHeartbeats 4000000 in
theorem resized_any (g n : Nat) (a : Int) (env : Nat → Vl) (w : World) (h : EL w g n env) (hn2 : n ≤ 100) : Calls Tryz.prog 15 #[.slice (some ⟨g, 0, none⟩) n n, I a] w fun e w' => e = .returned (sl w.heap.size (rsz a) (rsz a)) ∧ EL w' w.heap.size (rsz a) (fun c => if c < n then env c else v0) ∧ Fr S0 w w' := by
  obtain ⟨m, hm⟩ : ∃ m, Bx (rsz a = m) := ⟨_, ⟨rfl⟩⟩
  have hm25 : m ≤ 25 := by rw [← hm.out]; unfold rsz; split; omega; split <;> omega
  obtain ⟨k, hk⟩ : ∃ k, Bx (k = Nat.min n m) := ⟨_, ⟨rfl⟩⟩
  have hkn : k ≤ n := by rw [hk.out]; exact Nat.min_le_left _ _
  have hkm : k ≤ m := by rw [hk.out]; exact Nat.min_le_right _ _
  have hmk := mk47 m (by omega)
  have hsrc := Bx.mk (EL.src (w := w.alloc (.cells (M47 m) 47)) (h.of (S := S0) ((Fr.refl S0 _).alloc _) (by simp)) hkn)
  have hcur := Bx.mk (heap_made w m)
  have hsz := Bx.mk Tryz.size47
  have hM := Bx.mk (M47_made m).1
  have hfin : Bx (EL ((w.alloc (.cells (M47 m) 47)).setRow w.heap.size (evs k env ++ (M47 m).toList.drop (evs k env).length).toArray) w.heap.size m (fun c => if c < n then env c else v0)) := ⟨by
    refine Row.congr (EL.copied _ w.heap.size m k env hkm hcur.out) ?_
    intro j hj
    simp only []
    by_cases e : j / 3 < k
    · rw [if_pos e, if_pos (by omega)]
    · have hk' : ¬ j / 3 < n := by have hk2 : k = min n m := hk.out; omega
      rw [if_neg e, if_neg hk']⟩
  clear h
  rw [hm.out]
  by_cases h0 : a < 0
  · have e1 : decide (a < 0) = true := by simpa using h0
    obtain rfl : m = 0 := by rw [← hm.out]; simp [rsz, h0]
    have hmk : ∀ u : World, (Instr.makeSlice 35 (.int .i64 0) (.int .i64 0)).run Tryz.prog u = .ok (sl u.heap.size 0 0) (u.alloc (.cells (M47 0) 47)) := hmk
    go_enter Tryz.func15, Tryz.ntmps15
    go_wp2_with (first
      | (refine wpList_copy_wide rfl (.tmp 12) (.tmp 13) 35 35 (by rfl) 47 3 Tryz.underlying35 hsz.out w.heap.size 0 0 ⟨g, 0, none⟩ n n (by rfl) (by rfl) (M47 0) 47 hcur.out (evs k env) k (by exact hk.out) (evs_len k env) hsrc.out (by rw [evs_len, hM.out]; omega) (evs_one k env) ?_))
    go_ret
    exact ⟨rfl, hfin.out, EL.fr_copied w 0 _⟩
  · have e1 : decide (a < 0) = false := by simpa using h0
    by_cases h25 : 25 < a
    · have e2 : decide (25 < a) = true := by simpa using h25
      obtain rfl : m = 25 := by rw [← hm.out]; simp [rsz, h0, h25]
      have hmk : ∀ u : World, (Instr.makeSlice 35 (.int .i64 25) (.int .i64 25)).run Tryz.prog u = .ok (sl u.heap.size 25 25) (u.alloc (.cells (M47 25) 47)) := hmk
      go_enter Tryz.func15, Tryz.ntmps15
      go_wp2_with (first
        | (refine wpList_copy_wide rfl (.tmp 12) (.tmp 13) 35 35 (by rfl) 47 3 Tryz.underlying35 hsz.out w.heap.size 25 25 ⟨g, 0, none⟩ n n (by rfl) (by rfl) (M47 25) 47 hcur.out (evs k env) k (by exact hk.out) (evs_len k env) hsrc.out (by rw [evs_len, hM.out]; omega) (evs_one k env) ?_))
      go_ret
      exact ⟨rfl, hfin.out, EL.fr_copied w 25 _⟩
    · have e2 : decide (25 < a) = false := by simpa using h25
      obtain rfl : a = (m : Int) := by rw [← hm.out]; simp [rsz, h0, h25]; omega
      go_enter Tryz.func15, Tryz.ntmps15
      go_wp2_with (first
        | (refine wpList_copy_wide rfl (.tmp 12) (.tmp 13) 35 35 (by rfl) 47 3 Tryz.underlying35 hsz.out w.heap.size m m ⟨g, 0, none⟩ n n (by rfl) (by rfl) (M47 m) 47 hcur.out (evs k env) k (by exact hk.out) (evs_len k env) hsrc.out (by rw [evs_len, hM.out]; omega) (evs_one k env) ?_))
      go_ret
      exact ⟨rfl, hfin.out, EL.fr_copied w m _⟩
end Go.Proofs.Qxb6500331aGreat
