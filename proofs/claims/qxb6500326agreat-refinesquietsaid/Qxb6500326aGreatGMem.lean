import Derived.WalkKit
import Derived.BigQuiet
import Derived.Deep.QuietTactic
import Derived.Test.Qxb6500326aGreatBits
import Derived.Test.Qxb6500326aGreatMem
namespace Go.Proofs.Qxb6500326aGreat.Gr
set_option maxRecDepth 100000
set_option linter.unusedVariables false
set_option linter.unusedSimpArgs false
open Go.RowKit

/-- The i-th number of a list: the walk does not look behind this name. -/
def nth (L : List Nat) (i : Nat) : Nat := L.getD i 0
/-! ### Values -/
abbrev U (x : BitVec 32) : Value := .int .u32 (uN x)
def bvOf : Value → BitVec 32 | .int _ n => BitVec.ofInt 32 n | _ => 0
theorem bvOf_U (x : BitVec 32) : bvOf (U x) = x := ofInt_uN x
def zI (n : Nat) : Array Value := Array.replicate n (.int .i64 0)
def zU (n : Nat) : Array Value := Array.replicate n (.int .u32 0)
theorem Row.zI (w : World) (n : Nat) (T : TypeId) : Row (w.alloc (.cells (zI n) T)) w.heap.size n (fun _ => I 0) :=
  Row.new _ _ _ _ _ (by simp [Gr.zI]) (by intro i hi; simp [Gr.zI, hi])
theorem Row.zU (w : World) (n : Nat) (T : TypeId) : Row (w.alloc (.cells (zU n) T)) w.heap.size n (fun _ => U 0#32) :=
  Row.new _ _ _ _ _ (by simp [Gr.zU]) (by intro i hi; simp [Gr.zU, hi, uN])

/-! ### a list of numbers in memory -/
structure IL (w : World) (lo g : Nat) (L : List Nat) : Prop where
  lo : lo ≤ g
  lt : g < w.heap.size
  cell : ∀ i, i < L.length → w.cell? ⟨g, i, none⟩ = some (I (nth L i : Nat))
theorem IL.fr {S : Nat → Prop} {w w' : World} {lo g : Nat} {L : List Nat} (h : IL w lo g L) (f : Fr S w w') (hS : ∀ k, S k → k < lo) : IL w' lo g L :=
  have hg : ¬ S g := fun hs => by have := hS g hs; have := h.lo; omega
  ⟨h.lo, Nat.lt_of_lt_of_le h.lt f.size, fun i hi => (f.cell (a := ⟨g, i, none⟩) h.lt hg).trans (h.cell i hi)⟩
/-- The value v is a list of these numbers, nil or in memory from block lo on. -/
def ILv (w : World) (lo : Nat) (v : Value) (L : List Nat) : Prop :=
  (v = .slice none 0 0 ∧ L = []) ∨ ∃ g cap, v = .slice (some ⟨g, 0, none⟩) L.length cap ∧ IL w lo g L
theorem ilv_of_owns {w : World} {base : Nat} {v : Value} {L : List Nat} (h : w.ownsRow base 3 1 v L.length (L.map (fun c => I (c : Nat)))) : ILv w base v L := by
  obtain ⟨h1, ⟨h2, h3⟩ | ⟨g, cap, cur, h2, h3, h4, h5, h6, h7, h8⟩⟩ := h
  · exact .inl ⟨h2, List.eq_nil_of_length_eq_zero h3⟩
  · refine .inr ⟨g, cap, h2, h3, ?_, fun i hi => ?_⟩
    · rcases Nat.lt_or_ge g w.heap.size with h | h
      · exact h
      · rw [Array.getElem?_eq_none h] at h4; cases h4
    · have e := congrArg (fun l => l[i]?) h8
      simp only [Nat.mul_one, List.getElem?_take, if_pos hi, List.getElem?_map, Array.getElem?_toList] at e
      simp only [World.cell?, h4, Option.isSome_none, Bool.false_eq_true, if_false, e]
      simp [nth, List.getElem?_eq_getElem hi]

/-! ### graphm.Graph: its row of sets at block b, the struct behind it -/
def mcells (b : Nat) (p q : Int) : Nat → Value
  | 0 => sl b 24 24
  | 1 => I p
  | _ => I q
structure MG (w : World) (b : Nat) (R : Nat → BitVec 32) : Prop where
  row : Row w b 24 (fun i => U (R i))
  obj : ∃ p q, Row w (b + 1) 3 (mcells b p q)
theorem MG.fr {S : Nat → Prop} {w w' : World} {b : Nat} {R : Nat → BitVec 32} (h : MG w b R) (f : Fr S w w') (h1 : ¬ S b) (h2 : ¬ S (b + 1)) : MG w' b R :=
  ⟨f.row h.row h1, by obtain ⟨p, q, ho⟩ := h.obj; exact ⟨p, q, f.row ho h2⟩⟩
theorem MG.fr0 {w w' : World} {b : Nat} {R : Nat → BitVec 32} (h : MG w b R) (f : Fr S0 w w') : MG w' b R := h.fr f (by simp) (by simp)
theorem MG.cell0 {w : World} {b : Nat} {R : Nat → BitVec 32} (h : MG w b R) : w.cell? ⟨b + 1, 0, none⟩ = some (sl b 24 24) := by
  obtain ⟨p, q, ho⟩ := h.obj
  exact ho.cell 0 (by omega)
theorem MG.lt {w : World} {b : Nat} {R : Nat → BitVec 32} (h : MG w b R) : b + 1 < w.heap.size := by
  obtain ⟨_, _, ho⟩ := h.obj; exact ho.lt

/-! ### graph.Graph: the struct at block b, its four rows behind it -/
structure XS where
  reads : Nat → BitVec 32
  readBy : Nat → BitVec 32
  level : Nat → Int
  need : Nat → Int
  cyc : BitVec 32
  touched : Int
def xcells (b : Nat) (c : BitVec 32) (t : Int) : Nat → Value
  | 0 => sl (b + 1) 24 24
  | 1 => sl (b + 2) 24 24
  | 2 => sl (b + 3) 24 24
  | 3 => U c
  | 4 => sl (b + 4) 24 24
  | _ => I t
structure XG (w : World) (b : Nat) (x : XS) : Prop where
  obj : Row w b 6 (xcells b x.cyc x.touched)
  r : Row w (b + 1) 24 (fun i => U (x.reads i))
  rb : Row w (b + 2) 24 (fun i => U (x.readBy i))
  lv : Row w (b + 3) 24 (fun i => I (x.level i))
  nd : Row w (b + 4) 24 (fun i => I (x.need i))
/-- The blocks of a graph.Graph. -/
abbrev SX (b : Nat) : Nat → Prop := fun k => b ≤ k ∧ k < b + 5
theorem XG.fr {S : Nat → Prop} {w w' : World} {b : Nat} {x : XS} (h : XG w b x) (f : Fr S w w') (hS : ∀ k, S k → ¬ (b ≤ k ∧ k < b + 5)) : XG w' b x :=
  ⟨f.row h.obj (fun hs => hS _ hs (by omega)), f.row h.r (fun hs => hS _ hs (by omega)), f.row h.rb (fun hs => hS _ hs (by omega)), f.row h.lv (fun hs => hS _ hs (by omega)), f.row h.nd (fun hs => hS _ hs (by omega))⟩
theorem XG.fr0 {w w' : World} {b : Nat} {x : XS} (h : XG w b x) (f : Fr S0 w w') : XG w' b x := h.fr f (fun _ h => h.elim)
theorem XG.lt {w : World} {b : Nat} {x : XS} (h : XG w b x) : b + 4 < w.heap.size := h.nd.lt
theorem XG.c0 {w : World} {b : Nat} {x : XS} (h : XG w b x) : w.cell? ⟨b, 0, none⟩ = some (sl (b + 1) 24 24) := h.obj.cell 0 (by omega)
theorem XG.c1 {w : World} {b : Nat} {x : XS} (h : XG w b x) : w.cell? ⟨b, 1, none⟩ = some (sl (b + 2) 24 24) := h.obj.cell 1 (by omega)
theorem XG.c2 {w : World} {b : Nat} {x : XS} (h : XG w b x) : w.cell? ⟨b, 2, none⟩ = some (sl (b + 3) 24 24) := h.obj.cell 2 (by omega)
theorem XG.c3 {w : World} {b : Nat} {x : XS} (h : XG w b x) : w.cell? ⟨b, 3, none⟩ = some (U x.cyc) := h.obj.cell 3 (by omega)
theorem XG.c4 {w : World} {b : Nat} {x : XS} (h : XG w b x) : w.cell? ⟨b, 4, none⟩ = some (sl (b + 4) 24 24) := h.obj.cell 4 (by omega)
theorem XG.c5 {w : World} {b : Nat} {x : XS} (h : XG w b x) : w.cell? ⟨b, 5, none⟩ = some (I x.touched) := h.obj.cell 5 (by omega)
theorem XG.setCyc {w : World} {b : Nat} {x : XS} (h : XG w b x) (c : BitVec 32) : XG (w.setCell ⟨b, 3, none⟩ (U c)) b { x with cyc := c } :=
  ⟨(h.obj.set 3 _).congr (fun i hi => by
    match i, hi with
    | 0, _ => rfl
    | 1, _ => rfl
    | 2, _ => rfl
    | 3, _ => rfl
    | 4, _ => rfl
    | 5, _ => rfl), h.r.set_other (by simp) _, h.rb.set_other (by simp) _, h.lv.set_other (by simp) _, h.nd.set_other (by simp) _⟩
theorem XG.setTouched {w : World} {b : Nat} {x : XS} (h : XG w b x) (t : Int) : XG (w.setCell ⟨b, 5, none⟩ (I t)) b { x with touched := t } :=
  ⟨(h.obj.set 5 _).congr (fun i hi => by
    match i, hi with
    | 0, _ => rfl
    | 1, _ => rfl
    | 2, _ => rfl
    | 3, _ => rfl
    | 4, _ => rfl
    | 5, _ => rfl), h.r.set_other (by simp) _, h.rb.set_other (by simp) _, h.lv.set_other (by simp) _, h.nd.set_other (by simp) _⟩
theorem upd_map {α : Type} (f : α → Value) (g : Nat → α) (k : Nat) (v : α) (i : Nat) : upd (fun i => f (g i)) k (f v) i = f (upd g k v i) := by
  unfold upd; split <;> rfl
theorem XG.setReads {w : World} {b : Nat} {x : XS} (h : XG w b x) (c : Nat) (s : BitVec 32) : XG (w.setCell ⟨b + 1, c, none⟩ (U s)) b { x with reads := upd x.reads c s } :=
  ⟨h.obj.set_other (by simp) _, (h.r.set c _).congr (fun i _ => upd_map U x.reads c s i), h.rb.set_other (by simp) _, h.lv.set_other (by simp) _, h.nd.set_other (by simp) _⟩
theorem XG.setReadBy {w : World} {b : Nat} {x : XS} (h : XG w b x) (c : Nat) (s : BitVec 32) : XG (w.setCell ⟨b + 2, c, none⟩ (U s)) b { x with readBy := upd x.readBy c s } :=
  ⟨h.obj.set_other (by simp) _, h.r.set_other (by simp) _, (h.rb.set c _).congr (fun i _ => upd_map U x.readBy c s i), h.lv.set_other (by simp) _, h.nd.set_other (by simp) _⟩
theorem XG.setLevel {w : World} {b : Nat} {x : XS} (h : XG w b x) (c : Nat) (n : Int) : XG (w.setCell ⟨b + 3, c, none⟩ (I n)) b { x with level := upd x.level c n } :=
  ⟨h.obj.set_other (by simp) _, h.r.set_other (by simp) _, h.rb.set_other (by simp) _, (h.lv.set c _).congr (fun i _ => upd_map I x.level c n i), h.nd.set_other (by simp) _⟩
theorem XG.setNeed {w : World} {b : Nat} {x : XS} (h : XG w b x) (c : Nat) (n : Int) : XG (w.setCell ⟨b + 4, c, none⟩ (I n)) b { x with need := upd x.need c n } :=
  ⟨h.obj.set_other (by simp) _, h.r.set_other (by simp) _, h.rb.set_other (by simp) _, h.lv.set_other (by simp) _, (h.nd.set c _).congr (fun i _ => upd_map I x.need c n i)⟩
theorem Row.set_below {w : World} {b n : Nat} {vs : Nat → Value} (h : Row w b n vs) {p : Addr} (hp : b ≠ p.block) (v : Value) : Row (w.setCell p v) b n vs := h.set_other hp v
theorem _root_.Go.Proofs.Qxb6500326aGreat.Fr.setX {b : Nat} {a w : World} (h : Fr (SX b) a w) {p : Addr} (h1 : b ≤ p.block) (h2 : p.block < b + 5) (u : Value) : Fr (SX b) a (w.setCell p u) := h.setCell (.inl ⟨h1, h2⟩) u
end Go.Proofs.Qxb6500326aGreat.Gr
