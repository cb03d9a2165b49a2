import Derived.Test.Qxb6500326aGreatK1
import Derived.Test.Qxb6500326aGreatE4
import Derived.Test.Qxb6500326aGreatE9
import Derived.Test.Qxb6500326aGreatGX3
import Derived.Test.Qxb6500326aGreatGX4
import Derived.Test.Qxb6500326aGreatGX5
import Derived.Test.Qxb6500326aGreatGW4
namespace Go.Proofs.Qxb6500326aGreat
set_option maxRecDepth 100000
set_option linter.unusedVariables false
set_option linter.unusedSimpArgs false
open Go.RowKit Go.PlainAid

/-! ### values compared -/
theorem str_of_list {a b : ByteArray} (h : a.toList = b.toList) : a = b := by
  have ha : a.toList = a.data.toList := by rw [ByteArray.toList_eq]
  have hb : b.toList = b.data.toList := by rw [ByteArray.toList_eq]
  rw [ha, hb] at h
  exact ByteArray.ext (Array.toList_inj.1 h)
def vEq (x y : Vl) : Bool := (x.kind == y.kind) && (x.n == y.n) && (x.s.toList == y.s.toList)
theorem vEq_iff {x y : Vl} : vEq x y = true ↔ x = y := by
  obtain ⟨a, b, c⟩ := x
  obtain ⟨a', b', c'⟩ := y
  unfold vEq
  simp only [Bool.and_eq_true, beq_iff_eq]
  constructor
  · rintro ⟨⟨rfl, rfl⟩, h⟩; rw [str_of_list h]
  · intro h; cases h; exact ⟨⟨rfl, rfl⟩, rfl⟩
theorem vEq_self (x : Vl) : vEq x x = true := vEq_iff.2 rfl
theorem neq_v (x y : Vl) (w : World) : (binOp .neq 92 (vV x) (vV y)).run Tryz.prog w = .ok (.bool (!vEq x y)) w := by
  go_simp
  unfold vEq
  by_cases c0 : x.kind = y.kind
  · rw [if_pos c0]
    by_cases c1 : x.n = y.n
    · rw [if_pos c1]
      by_cases c2 : x.s.toList = y.s.toList
      · rw [if_pos c2]; simp [c0, c1, c2]
      · rw [if_neg c2]; simp [c2]
    · rw [if_neg c1]; simp [c1]
  · rw [if_neg c0]; simp [c0]
theorem eql_v (x y : Vl) (w : World) : (binOp .eql 92 (vV x) (vV y)).run Tryz.prog w = .ok (.bool (vEq x y)) w := by
  go_simp
  unfold vEq
  by_cases c0 : x.kind = y.kind
  · rw [if_pos c0]
    by_cases c1 : x.n = y.n
    · rw [if_pos c1]
      by_cases c2 : x.s.toList = y.s.toList
      · rw [if_pos c2]; simp [c0, c1, c2]
      · rw [if_neg c2]; simp [c2]
    · rw [if_neg c1]; simp [c1]
  · rw [if_neg c0]; simp [c0]
theorem guard_v (a b : Operand) (x y : Vl) (w : World) : (eqGuard .neq 92 a b (vV x) (vV y)).run Tryz.prog w = .ok () w := by
  go_simp
theorem guard_ve (a b : Operand) (x y : Vl) (w : World) : (eqGuard .eql 92 a b (vV x) (vV y)).run Tryz.prog w = .ok () w := by
  go_simp

/-! ### texts and what they mean -/
theorem rectSet_lt {c0 c1 : Int} (h0 : 0 ≤ c0) (h1 : c1 ≤ 3) : ∀ (k : Nat) (r0 : Int) (s : BitVec 32), 0 ≤ r0 → r0 + k ≤ 6 → c0 ≤ c1 → (∀ i, s.getLsbD i = true → i < 24) → ∀ i, (rectSet c0 c1 r0 k s).getLsbD i = true → i < 24
  | 0, r0, s, _, _, _, hs => hs
  | k + 1, r0, s, hr, hk, hc, hs => by
    unfold rectSet
    refine rectSet_lt h0 h1 k (r0 + 1) _ (by omega) (by omega) hc ?_
    exact rowSet_lt hr (by omega) _ _ _ h0 (by omega) hs
theorem blockS_lt (a b : Ref) : ∀ i, (blockS a b).getLsbD i = true → i < 24 := by
  unfold blockS
  split
  · rename_i h
    simp only [blockOK, inGrid, Bool.and_eq_true, decide_eq_true_eq] at h
    refine rectSet_lt ?_ ?_ _ _ _ ?_ ?_ ?_ (by simp)
    · unfold lesser; split <;> omega
    · unfold greater; split <;> omega
    · unfold lesser; split <;> omega
    · have : 0 ≤ greater a.row b.row + 1 - lesser a.row b.row := by unfold greater lesser; by_cases hq : b.row < a.row <;> simp [hq] <;> omega
      have h2 : greater a.row b.row ≤ 5 := by unfold greater; split <;> omega
      omega
    · unfold greater lesser; by_cases hq : b.col < a.col <;> simp [hq] <;> omega
  · simp
theorem rdN_lt (x : Nd) : ∀ i, (rdN x).getLsbD i = true → i < 24 := by
  unfold rdN
  split
  · split
    · rename_i h; intro i hi; have := bit_lt hi; have := cellOf_bd h; omega
    · simp
  · split
    · exact blockS_lt _ _
    · simp
theorem rdS_lt (L : List Nd) (lo : Nat) : ∀ (k : Nat) i, (rdS L lo k).getLsbD i = true → i < 24
  | 0, i, h => by simp [rdS] at h
  | k + 1, i, h => by
    unfold rdS at h
    rw [BitVec.getLsbD_or, Bool.or_eq_true] at h
    rcases h with h | h
    · exact rdS_lt L lo k i h
    · exact rdN_lt _ i h
theorem readsP_lt (s : ByteArray) : ∀ i, (readsP s).1.getLsbD i = true → i < 24 := by
  unfold readsP
  split
  · simp
  · split
    · exact rdS_lt _ _ _
    · simp
theorem readsP_in (s : ByteArray) : (readsP s).1 &&& Gr.Out = 0#32 := Gr.in_All.2 (readsP_lt s)
def TxOK (T : Nat → ByteArray) : Prop := ∀ c, c < 24 → (T c).size ≤ 40
def RT (T : Nat → ByteArray) (c : Nat) : BitVec 32 := (readsP (T c)).1
noncomputable def FT (T : Nat → ByteArray) (c : Nat) : (Nat → Vl) → Vl := mf (T c)
theorem sht_of {T : Nat → ByteArray} (h : TxOK T) : Sht (RT T) (FT T) :=
  ⟨fun c _ => readsP_lt _, fun c hc e e' ha => (mf_mean (h c hc)).agree e e' ha, fun c hc e he => (mf_mean (h c hc)).lw e he⟩
theorem RT_upd (T : Nat → ByteArray) (c : Nat) (s : ByteArray) : RT (upd T c s) = upd (RT T) c (readsP s).1 := funext fun y => by
  unfold RT upd; split <;> rfl
theorem TxOK.upd {T : Nat → ByteArray} (h : TxOK T) (c : Nat) {s : ByteArray} (hs : s.size ≤ 40) : TxOK (upd T c s) := fun y hy => by
  unfold Qxb6500326aGreat.upd; split
  · exact hs
  · exact h y hy
/-- What a sheet of texts shows. -/
structure Sheet (T : Nat → ByteArray) (E : Nat → Vl) : Prop where
  ok : TxOK T
  lw : LwE E
  fix : Fix (RT T) (FT T) E
theorem Sheet.same {T : Nat → ByteArray} {E E' : Nat → Vl} (h : Sheet T E) (h' : Sheet T E') : ∀ c, c < 24 → E c = E' c := fix_unique (sht_of h.ok) h.fix h'.fix
theorem isForm_es : isForm es = false := by
  have h : (es.toList == []) = true := by simp [empty_es.2 rfl]
  unfold isForm; rw [h]; rfl
theorem readsP_es : readsP es = (0#32, 0) := by
  have h : isForm es = false := isForm_es
  unfold readsP
  rw [if_neg (by decide), h]
  rfl
theorem Sheet.chg {T : Nat → ByteArray} {E : Nat → Vl} (h : Sheet T E) {c : Nat} (hc : c < 24) {s : ByteArray} (hs : s.size ≤ 40) : Chg (RT T) (FT T) E (RT (upd T c s)) (FT (upd T c s)) c :=
  ⟨sht_of h.ok, sht_of (h.ok.upd c hs), h.fix, h.lw, hc, fun y hy => by
    constructor
    · unfold RT; rw [upd_other _ _ hy]
    · unfold FT; rw [upd_other _ _ hy]⟩
theorem RT_none : RT (fun _ => es) = fun _ => 0#32 := funext fun y => by unfold RT; rw [readsP_es]
theorem shows_none (hp : plainP es = v0) : Sheet (fun _ => es) (fun _ => v0) := by
  have hok : TxOK (fun _ => es) := fun c _ => by show es.size ≤ 40; decide
  refine ⟨hok, fun c _ => .none, ⟨fun c hc hl => ?_, fun c hc _ => ?_⟩⟩
  · rw [RT_none, Gr.lev_none hc] at hl; omega
  · unfold FT
    rw [(mf_mean (s := es) (by decide)).plain isForm_es, hp]

/-! ### memory: the model's sheet -/
def cmC (mb rb sb : Nat) (n : Int) : Nat → Value
  | 0 => pt mb
  | 1 => sl rb 24 24
  | 2 => sl sb 24 24
  | _ => I n
structure CM (w : World) (cb mb fb rb sb : Nat) (T : Nat → ByteArray) (E : Nat → Vl) : Prop where
  obj : ∃ n, Row w cb 4 (cmC mb rb sb n)
  me : MEv w mb fb
  raw : Row w rb 24 (fun i => .string (T i))
  sh : EL w sb 24 E
  n1 : cb ≠ mb ∧ cb ≠ fb ∧ cb ≠ rb ∧ cb ≠ sb
  n2 : rb ≠ mb ∧ rb ≠ fb ∧ rb ≠ sb
  n3 : sb ≠ mb ∧ sb ≠ fb
/-- The blocks of the model's sheet. -/
def CmS (cb mb fb rb sb : Nat) : Nat → Prop := fun k => k = cb ∨ k = mb ∨ k = fb ∨ k = rb ∨ k = sb
theorem CM.fr {w w' : World} {cb mb fb rb sb : Nat} {T : Nat → ByteArray} {E : Nat → Vl} (h : CM w cb mb fb rb sb T E) {S : Nat → Prop} (f : Fr S w w') (hS : ∀ k, CmS cb mb fb rb sb k → ¬ S k) : CM w' cb mb fb rb sb T E := by
  obtain ⟨n, ho⟩ := h.obj
  exact ⟨⟨n, f.row ho (hS _ (.inl rfl))⟩, h.me.fr f (hS _ (.inr (.inl rfl))) (hS _ (.inr (.inr (.inl rfl)))), f.row h.raw (hS _ (.inr (.inr (.inr (.inl rfl))))), h.sh.of f (hS _ (.inr (.inr (.inr (.inr rfl))))), h.n1, h.n2, h.n3⟩
theorem CM.fr0 {w w' : World} {cb mb fb rb sb : Nat} {T : Nat → ByteArray} {E : Nat → Vl} (h : CM w cb mb fb rb sb T E) (f : Fr S0 w w') : CM w' cb mb fb rb sb T E := h.fr f (fun _ _ e => e)
theorem CM.lt {w : World} {cb mb fb rb sb : Nat} {T : Nat → ByteArray} {E : Nat → Vl} (h : CM w cb mb fb rb sb T E) : ∀ k, CmS cb mb fb rb sb k → k < w.heap.size := by
  obtain ⟨n, ho⟩ := h.obj
  obtain ⟨c, r, hm⟩ := h.me.row
  obtain ⟨p, q, t, hf⟩ := h.me.mf
  rintro k (rfl | rfl | rfl | rfl | rfl)
  · exact ho.lt
  · exact hm.lt
  · exact hf.lt
  · exact h.raw.lt
  · exact Row.lt h.sh
theorem Row.cm4 {w : World} {cb mb rb sb : Nat} {n : Int} (h : Row w cb 4 (cmC mb rb sb n)) :
    w.cell? ⟨cb, 0, none⟩ = some (pt mb) ∧ w.cell? ⟨cb, 1, none⟩ = some (sl rb 24 24) ∧ w.cell? ⟨cb, 2, none⟩ = some (sl sb 24 24) ∧ w.cell? ⟨cb, 3, none⟩ = some (I n) ∧ w.frozen? ⟨cb, 2, none⟩ = false ∧ w.frozen? ⟨cb, 3, none⟩ = false :=
  ⟨h.cell 0 (by omega), h.cell 1 (by omega), h.cell 2 (by omega), h.cell 3 (by omega), h.frozen 2, h.frozen 3⟩
/-- One value of a list is written. -/
theorem Grid.eput {w : World} {g n : Nat} {env : Nat → Vl} (h : EL w g n env) (i : Nat) (x : Vl) : EL (sets w g (i * 3) (vA x).toList) g n (upd env i x) := by
  refine Row.congr (Grid.put h i (by omega) (vA x).toList rfl (vC x) (by intro k hk; rcases k with _ | _ | _ | k <;> first | rfl | omega)) ?_
  intro j hj
  simp only [upd]
  split <;> rfl
theorem Grid.eeq {w : World} {g n : Nat} {env env' : Nat → Vl} (h : EL w g n env) (he : ∀ c, c < n → env c = env' c) : EL w g n env' :=
  Row.congr h (by intro j hj; simp only []; rw [he _ (by omega)])
theorem Grid.ev3 {w : World} {g n : Nat} {env : Nat → Vl} (h : EL w g n env) {i : Nat} (hi : i < n) :
    w.cell? ⟨g, i * 3, none⟩ = some (I (env i).kind) ∧ w.cell? ⟨g, i * 3 + 1, none⟩ = some (I (env i).n) ∧ w.cell? ⟨g, i * 3 + 2, none⟩ = some (.string (env i).s) ∧ w.frozen? ⟨g, i * 3, none⟩ = false ∧ w.frozen? ⟨g, i * 3 + 1, none⟩ = false ∧ w.frozen? ⟨g, i * 3 + 2, none⟩ = false :=
  ⟨Grid.cell0 h i hi (by omega), Grid.cell h i 1 hi (by omega), Grid.cell h i 2 hi (by omega), Grid.frozen h _, Grid.frozen h _, Grid.frozen h _⟩
theorem fr_val {S : Nat → Prop} {a w : World} {g i : Nat} {x : Vl} (hg : S g ∨ a.heap.size ≤ g) (h : Fr S a w) : Fr S a (sets w g (i * 3) (vA x).toList) := sets_fr hg (vA x).toList w (i * 3) h
def rawP (T : Nat → ByteArray) (c : Int) : ByteArray := if 0 ≤ c ∧ c < 24 then T c.toNat else es
def valP (E : Nat → Vl) (c : Int) : Vl := if 0 ≤ c ∧ c < 24 then E c.toNat else v0
def setP (c : Int) (s : ByteArray) : Int := if 40 < s.size then 1 else if c < 0 ∨ 24 ≤ c then 9 else 0
end Go.Proofs.Qxb6500326aGreat
