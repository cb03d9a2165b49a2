import Derived.Test.Qxb6500326aGreatA3
import Derived.Test.Qxb6500326aGreatX8
import Derived.Test.Qxb6500326aGreatU5
import Derived.Test.Qxb6500326aGreatBits
import Derived.Handy
namespace Go.Proofs.Qxb6500326aGreat
set_option maxRecDepth 100000
set_option linter.unusedVariables false
set_option linter.unusedSimpArgs false
open Go.RowKit Go.PlainAid
abbrev vV (x : Vl) : Value := .agg #[I x.kind, I x.n, .string x.s]
abbrev vA (x : Vl) : Array Value := #[I x.kind, I x.n, .string x.s]
def vC (x : Vl) : Nat → Value
  | 0 => I x.kind
  | 1 => I x.n
  | _ => .string x.s
theorem Tryz.size92 : (Tryz.prog.info? 92).map (·.size) = some 3 := by kernel_rfl
theorem v_new (w : World) (x : Vl) (T : TypeId) {H : Nat} (e : w.heap.size = H) : Row (w.alloc (.cells (vA x) T)) H 3 (vC x) := by
  subst e
  exact Row.new _ _ _ _ _ rfl (by
    intro i hi
    have : i = 0 ∨ i = 1 ∨ i = 2 := by omega
    rcases this with e | e | e <;> subst e <;> rfl)
/-- The zero value lies in the result's block. -/
theorem v_zero (w : World) (T : TypeId) {H : Nat} (e : w.heap.size = H) : Row (w.alloc (.cells #[I 0, I 0, .string es] T)) H 3 (vC v0) := v_new w v0 T e
theorem v_heap {w : World} {b : Nat} {x : Vl} (h : Row w b 3 (vC x)) : ∃ T, w.heap[b]? = some (.cells (vA x) T (0, 0)) := by
  obtain ⟨arr, T, h1, h2, h3⟩ := h
  refine ⟨T, ?_⟩
  rw [h1]
  have : arr = vA x := by
    apply Array.ext_getElem?
    intro i
    rcases Nat.lt_or_ge i 3 with hi | hi
    · rw [h3 i hi]
      have : i = 0 ∨ i = 1 ∨ i = 2 := by omega
      rcases this with e | e | e <;> subst e <;> rfl
    · rw [Array.getElem?_eq_none (by omega), Array.getElem?_eq_none (by simpa using hi)]
  rw [this]
/-- A function that answers a value returns. -/
theorem ret_v {fn : Func} {R : Ending → World → Prop} {a : Act} {w : World} {p : Tmp} {g : Nat} {x : Vl} (hr : fn.results = #[.cell p 92]) (hp : a.tmps.getD p undef = pt g) (hrow : Row w g 3 (vC x)) (hd : a.defers = [])
    (hR : R (.returned (vV x)) w) : bodyPost Tryz.prog fn R .ret a w := by
  obtain ⟨T, hh⟩ := v_heap hrow
  exact bodyPost_ret (results_cell_row hr a.tmps w g T _ (0, 0) _ hp hh Tryz.underlying92 rfl (by rw [Tryz.size92]; rfl)) hd hR
theorem v_sets {w : World} {b : Nat} {f : Nat → Value} (h : Row w b 3 f) (x : Vl) : Row (sets w b 0 (vA x).toList) b 3 (vC x) :=
  (sets_row (vA x).toList w 0 f h).congr (by
    intro i hi
    have : i = 0 ∨ i = 1 ∨ i = 2 := by omega
    rcases this with e | e | e <;> subst e <;> rfl)
theorem Row.v3 {w : World} {B : Nat} {x : Vl} (h : Row w B 3 (vC x)) :
    w.cell? ⟨B, 0, none⟩ = some (I x.kind) ∧ w.cell? ⟨B, 1, none⟩ = some (I x.n) ∧ w.cell? ⟨B, 2, none⟩ = some (.string x.s) ∧ w.frozen? ⟨B, 0, none⟩ = false ∧ w.frozen? ⟨B, 1, none⟩ = false ∧ w.frozen? ⟨B, 2, none⟩ = false :=
  ⟨h.cell 0 (by omega), h.cell 1 (by omega), h.cell 2 (by omega), h.frozen 0, h.frozen 1, h.frozen 2⟩
/-- What a function that answers a value leaves. -/
def VR (w : World) (x : Vl) : Ending → World → Prop := fun e w' => e = .returned (vV x) ∧ Fr S0 w w'
theorem VR.same {w : World} {x y : Vl} {e : Ending} {w' : World} (h : VR w x e w') (hx : x = y) : VR w y e w' := hx ▸ h
/-- The result's block g (new since w) takes the value x, and the function returns. -/
theorem ret_vs {fn : Func} {a : Act} {w w1 : World} {p : Tmp} {g : Nat} {f : Nat → Value} {x y : Vl} (hr : fn.results = #[.cell p 92]) (hp : a.tmps.getD p undef = pt g) (hd : a.defers = [])
    (hrow : Row w1 g 3 f) (hf : Fr S0 w w1) (hg : w.heap.size ≤ g) (hx : x = y) : bodyPost Tryz.prog fn (VR w y) .ret a (sets w1 g 0 (vA x).toList) :=
  hx ▸ ret_v hr hp (v_sets hrow x) hd ⟨rfl, sets_fr (S := S0) (a := w) (b := g) (.inr hg) (vA x).toList w1 0 hf⟩
set_option maxHeartbeats 400000 in
theorem int_any (n : Int) (w : World) : Calls Tryz.prog 208 #[I n] w (VR w (vInt n)) := by
  go_enter Tryz.func208, Tryz.ntmps208
  go_wp2
  go_returns
  exact ⟨rfl, (Fr.refl _ _).alloc _⟩
set_option maxHeartbeats 400000 in
theorem err_any (n : Int) (w : World) : Calls Tryz.prog 139 #[I n] w (VR w (vErr n)) := by
  go_enter Tryz.func139, Tryz.ntmps139
  go_wp2
  go_returns
  exact ⟨rfl, (Fr.refl _ _).alloc _⟩
set_option maxHeartbeats 400000 in
theorem bool_any (b : Bool) (w : World) : Calls Tryz.prog 244 #[.bool b] w (VR w (vBool b)) := by
  cases b
  all_goals go_enter Tryz.func244, Tryz.ntmps244
  all_goals go_wp2
  all_goals go_returns
  all_goals exact ⟨rfl, (Fr.refl _ _).alloc _⟩
theorem fr_zero (w : World) (T : TypeId) : Fr S0 w (w.alloc (.cells #[I 0, I 0, .string es] T)) := (Fr.refl _ _).alloc _
set_option maxHeartbeats 400000 in
theorem num_any (n : Int) (w : World) : Calls Tryz.prog 245 #[I n] w (VR w (vNum n)) := by
  have hz := Bx.mk (v_zero w 92 rfl)
  have hfr := Bx.mk (fr_zero w 92)
  go_enter Tryz.func245, Tryz.ntmps245
  go_wp2_with (first
      | (go_at_call 139; refine (err_any _ _).mono ?_; generalize hx : vErr 4 = x; have hx := Bx.mk hx; rintro e w1 ⟨rfl, hf⟩; have hz1 := Bx.mk (hf.row0 hz.out); obtain ⟨c0, c1, c2, y0, y1, y2⟩ := hz1.out.v3)
      | (go_at_call 208; refine (int_any _ _).mono ?_; generalize hx : vInt n = x; have hx := Bx.mk hx; rintro e w1 ⟨rfl, hf⟩; have hz1 := Bx.mk (hf.row0 hz.out); obtain ⟨c0, c1, c2, y0, y1, y2⟩ := hz1.out.v3))
  all_goals exact ret_vs (x := x) (p := 2) rfl rfl rfl hz1.out (hfr.out.trans hf) (Nat.le_refl _) (by rw [← hx.out]; unfold vNum; first | rw [if_pos (by omega)] | rw [if_neg (by omega)])
/-! ### What a cell can show -/
def lawB (x : Vl) : Bool :=
  if (x.kind == 0) = true then (x.n == 0) && x.s.toList.isEmpty
  else if (x.kind == 1) = true then decide (-999999999 ≤ x.n) && decide (x.n ≤ 999999999) && x.s.toList.isEmpty
  else if (x.kind == 2) = true then (x.n == 0) && decide ((x.s.size : Int) ≤ 40)
  else if (x.kind == 3) = true then ((x.n == 0) || (x.n == 1)) && x.s.toList.isEmpty
  else if (x.kind == 4) = true then decide (1 ≤ x.n) && decide (x.n ≤ 6) && x.s.toList.isEmpty
  else false
set_option maxHeartbeats 4000000 in
theorem lawful_any (x : Vl) (w : World) : Calls Tryz.prog 168 #[vV x] w fun e w' => e = .returned (.bool (lawB x)) ∧ Fr S0 w w' := by
  go_enter Tryz.func168, Tryz.ntmps168
  go_wp2
  all_goals go_ret
  all_goals refine ⟨congrArg Ending.returned (congrArg Value.bool ?_), (Fr.refl _ _).alloc _⟩
  all_goals (unfold lawB; simp [*]; try (intros; omega))
theorem empty_es {s : ByteArray} : s.toList.isEmpty = true ↔ s = es := by
  constructor
  · intro h
    have h0 : s.toList = [] := by simpa using h
    have hs : s.size = 0 := by
      have := congrArg List.length h0
      simpa [ByteArray.toList_eq] using this
    obtain ⟨⟨l⟩⟩ := s
    cases l with
    | nil => rfl
    | cons a t => simp [ByteArray.size] at hs
  · rintro rfl; simp [ByteArray.toList_eq]
theorem lawB_iff (x : Vl) : lawB x = true ↔ Lw x := by
  obtain ⟨k, n, s⟩ := x
  constructor
  · unfold lawB
    simp only []
    split
    · rename_i h; have h : k = 0 := by simpa using h
      intro g; rw [Bool.and_eq_true, empty_es] at g; obtain ⟨g, rfl⟩ := g; have g : n = 0 := by simpa using g
      subst h g; exact .none
    split
    · rename_i h; have h : k = 1 := by simpa using h
      intro g; rw [Bool.and_eq_true, Bool.and_eq_true, empty_es] at g; obtain ⟨⟨g1, g2⟩, rfl⟩ := g
      subst h; exact .int _ (by simpa using g1) (by simpa using g2)
    split
    · rename_i h; have h : k = 2 := by simpa using h
      intro g; rw [Bool.and_eq_true] at g; obtain ⟨g1, g2⟩ := g; have g1 : n = 0 := by simpa using g1
      subst h g1; exact .text _ (by have : ((s.size : Nat) : Int) ≤ 40 := by simpa using g2
                                    omega)
    split
    · rename_i h; have h : k = 3 := by simpa using h
      intro g; rw [Bool.and_eq_true, empty_es] at g; obtain ⟨g, rfl⟩ := g
      subst h; exact .bool _ (by simpa using g)
    split
    · rename_i h; have h : k = 4 := by simpa using h
      intro g; rw [Bool.and_eq_true, Bool.and_eq_true, empty_es] at g; obtain ⟨⟨g1, g2⟩, rfl⟩ := g
      subst h; exact .err _ (by simpa using g1) (by simpa using g2)
    · intro g; cases g
  · intro h
    have e0 : es.toList.isEmpty = true := empty_es.2 rfl
    cases h <;> simp [lawB, e0, -List.isEmpty_iff] <;> omega
/-! ### The grid -/
abbrev numA (x : Vl) : Int := if (x.kind == 1) = true then x.n else 0
set_option maxHeartbeats 400000 in
theorem number_any (x : Vl) (w : World) : Calls Tryz.prog 243 #[vV x] w fun e w' => e = .returned (.tuple #[I (amt x), .bool (cnt x)]) ∧ Fr S0 w w' := by
  cases h1 : (x.kind == 1)
  · go_enter Tryz.func243, Tryz.ntmps243
    go_wp2_with fail
    go_quiet (fail)
    go_wp2
    go_ret2
    exact ⟨by simp [amt, cnt, h1], ((Fr.refl _ _).alloc _).drewN _⟩
  · go_enter Tryz.func243, Tryz.ntmps243
    go_wp2_with fail
    go_ret2
    exact ⟨by simp [amt, cnt, h1], (Fr.refl _ _).alloc _⟩
set_option maxHeartbeats 400000 in
theorem inGrid_any (r : Ref) (w : World) : Calls Tryz.prog 131 #[refV r] w fun e w' => e = .returned (.bool (inGrid r)) ∧ Fr S0 w w' := by
  go_enter Tryz.func131, Tryz.ntmps131
  go_wp2
  all_goals go_ret
  all_goals refine ⟨congrArg Ending.returned (congrArg Value.bool ?_), (Fr.refl _ _).alloc _⟩
  all_goals (unfold inGrid; simp [*]; try omega)
set_option maxHeartbeats 400000 in
theorem cellOf_any (r : Ref) (w : World) (h : inGrid r = true) : Calls Tryz.prog 228 #[refV r] w fun e w' => e = .returned (I (cellOf r)) ∧ Fr S0 w w' := by
  have h' : 0 ≤ r.col ∧ r.col < 4 ∧ 0 ≤ r.row ∧ r.row < 6 := by simp [inGrid] at h; omega
  obtain ⟨h1, h2, h3, h4⟩ := h'
  clear h
  go_enter Tryz.func228, Tryz.ntmps228
  go_wp2
  all_goals go_ret
  exact ⟨rfl, (Fr.refl _ _).alloc _⟩
abbrev U (x : BitVec 32) : Value := .int .u32 (uN x)
theorem bit_toNat (c : Nat) : uN (bit c) = 2 ^ c % 4294967296 := by
  simp [uN, bit, BitVec.toNat_shiftLeft, Nat.shiftLeft_eq]
set_option maxHeartbeats 400000 in
theorem bit_any (c : Nat) (w : World) (h1 : c < 24) :
    Calls Tryz.prog 124 #[I c] w fun e w' => e = .returned (U (bit c)) ∧ w = w' := by
  go_enter Tryz.func124, Tryz.ntmps124
  go_wp2
  go_ret
  exact ⟨by rw [U, bit_toNat]; simp, rfl⟩
set_option maxHeartbeats 1000000 in
theorem choose_any (c x y : Vl) (w : World) : Calls Tryz.prog 231 #[vV c, vV x, vV y] w (VR w (chooseP c x y)) := by
  have hz := Bx.mk (v_zero (((w.alloc (.cells (vA c) 92)).alloc (.cells (vA x) 92)).alloc (.cells (vA y) 92)) 92 (H := w.heap.size + 3) (by simp))
  have hfr := Bx.mk ((((Fr.refl S0 w).alloc (.cells (vA c) 92)).alloc (.cells (vA x) 92)).alloc (.cells (vA y) 92) |>.alloc (.cells #[I 0, I 0, .string es] 92))
  cases h4 : (c.kind == 4)
  · cases h3 : (c.kind == 3)
    · go_enter Tryz.func231, Tryz.ntmps231
      go_wp2_with (first
        | (go_at_call 139; refine (err_any _ _).mono ?_; generalize hx : vErr 5 = x; have hx := Bx.mk hx; rintro e w1 ⟨rfl, hf⟩; have hz1 := Bx.mk (hf.row0 hz.out); obtain ⟨c0, c1, c2, y0, y1, y2⟩ := hz1.out.v3))
      exact ret_vs (x := x) (p := 6) rfl rfl rfl hz1.out (hfr.out.trans hf) (by omega) (by rw [← hx.out]; simp [chooseP, h3, h4])
    · cases h1 : (c.n == 1)
      all_goals go_enter Tryz.func231, Tryz.ntmps231
      all_goals go_wp2
      all_goals go_returns
      all_goals exact ⟨by simp [chooseP, h3, h4, h1], ((((Fr.refl S0 w).alloc _).alloc _).alloc _).alloc _⟩
  · go_enter Tryz.func231, Tryz.ntmps231
    go_wp2
    go_returns
    exact ⟨by simp [chooseP, h4], ((((Fr.refl S0 w).alloc _).alloc _).alloc _).alloc _⟩
end Go.Proofs.Qxb6500326aGreat
