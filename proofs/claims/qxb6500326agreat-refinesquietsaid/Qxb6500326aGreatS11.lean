/-
  DERIVED. THE PLAIN LAW OF LAYER edit, 11: the texts.
-/
import Derived.Test.Qxb6500326aGreatS10
import Derived.Test.Qxb6500326aGreatK2
import Derived.Test.Qxb6500326aGreatU8
namespace Go.Proofs.Qxb6500326aGreat
set_option linter.unusedVariables false
set_option linter.unusedSimpArgs false
open Go.RowKit Go.PlainAid
theorem at_of_get {b : Nat → Int} {n : Nat} : ∀ (w : List Int) (p : Nat), (∀ j x, w[j]? = some x → b (p + j) = x) → p + w.length ≤ n → At b n p w
  | [], p, h, hn => by show p ≤ n; simpa using hn
  | c :: w, p, h, hn => by
    refine ⟨by simp at hn; omega, by have := h 0 c rfl; simpa using this, at_of_get w (p + 1) (fun j x hx => ?_) (by simp at hn; omega)⟩
    have := h (j + 1) x (by simpa using hx)
    rw [show p + 1 + j = p + (j + 1) from by omega]
    exact this
theorem bt_bs {L : List Int} (hL : ∀ c ∈ L, 0 ≤ c ∧ c ≤ 255) : ∀ j x, L[j]? = some x → bt (bs L) (0 + j) = x := by
  intro j x hx
  have hj : j < L.length := by
    apply Classical.byContradiction
    intro c; rw [List.getElem?_eq_none (by omega)] at hx; cases hx
  have h1 := bt_lst (bs L) j (by rw [bs_size]; exact hj)
  rw [lst_bs hL, hx] at h1
  rw [Nat.zero_add]
  exact (Option.some.inj h1).symm
section
variable {L : List Nd}
def Byt (w : List Int) : Prop := ∀ c ∈ w, 0 ≤ c ∧ c ≤ 255
theorem Byt.app {u v : List Int} (h : Byt u) (k : Byt v) : Byt (u ++ v) := by
  intro c hc; rw [List.mem_append] at hc; exact hc.elim (h c) (k c)
theorem Byt.cons {c : Int} {v : List Int} (h : 0 ≤ c ∧ c ≤ 255) (k : Byt v) : Byt (c :: v) := by
  intro d hd; rw [List.mem_cons] at hd; rcases hd with rfl | hd; exact h; exact k d hd
theorem byt_nil : Byt [] := fun c hc => by cases hc
theorem byt_dec {v : Int} (h0 : 0 ≤ v) (h : v ≤ 999999999) : Byt (dec v) := fun c hc => by
  have := (dec_digits h0 h).2.1 c hc
  rw [isDig_iff] at this; omega
theorem byt_ref {r : Ref} (h : refIn r) : Byt (refTxt r) := by
  obtain ⟨h1, h2, h3, h4⟩ := h
  unfold refTxt
  have hd := byt_dec (v := r.row + 1) (by omega) (by omega)
  refine Byt.app ?_ (Byt.cons (by omega) (Byt.app ?_ hd))
  · split
    · exact Byt.cons (by decide) byt_nil
    · exact byt_nil
  · split
    · exact Byt.cons (by decide) byt_nil
    · exact byt_nil
theorem byt_leaf {x : Nd} {arg : Bool} (h : Leaf x arg) : Byt (leafTxt x) := by
  rcases h with ⟨v, e, h1, h2⟩ | e | e | ⟨r, e, hr⟩ | e | ⟨_, r, s, e, hr, hs⟩ <;> rw [e]
  · exact byt_dec h1 h2
  · show Byt wFalse; intro c hc; simp [wFalse] at hc; omega
  · show Byt wTrue; intro c hc; simp [wTrue] at hc; omega
  · exact byt_ref hr
  · show Byt [35, 35]; intro c hc; simp at hc; omega
  · show Byt (refTxt r ++ 58 :: refTxt s); exact (byt_ref hr).app ((byt_ref hs).cons (by decide))
theorem byt_bracket {lv need : Int} {w : List Int} (h : Byt w) : Byt (bracket lv need w) := by
  unfold bracket
  split
  · exact (h.app (byt_nil.cons (by decide))).cons (by decide)
  · exact h
theorem byt_op (op : Int) : Byt (opTxt op) := by
  unfold opTxt
  repeat' split
  all_goals (intro c hc; simp at hc; omega)
theorem lk_byt {f : Nat} {rg : Bool} (hS : ∀ i lo a need, need ≤ 5 → Sp L f i lo a → Byt (tx L i need)) :
    ∀ (k i lo : Nat), Lk (Sp L f) L rg k i lo → Byt (axt L i)
  | 0, _, _, h => h.elim
  | k + 1, i, lo, h => by
    obtain ⟨a1, a2, m, h3, h4⟩ := h
    have h5 := hS _ _ _ 1 (by decide) h3
    rcases h4 with ⟨_, e, el⟩ | ⟨_, hm, e, d⟩
    · rw [axt_one a1 e]; exact h5
    · rw [axt_more a1 hm (Sp.le _ _ _ _ h3) e d]
      exact (lk_byt hS k _ _ d).app (h5.cons (by decide))
theorem sp_byt : ∀ (f i lo : Nat) (a : Bool) (need : Int), need ≤ 5 → Sp L f i lo a → Byt (tx L i need)
  | 0, _, _, _, _, _, h => h.elim
  | f + 1, i, lo, a, need, hn, h => by
    obtain ⟨h0, h⟩ := h
    rcases h with ⟨e, hl⟩ | ⟨a1, a2, a3⟩ | ⟨op, m, a1, a2, a3, a4, a5, a6, a7⟩ | ⟨op, k, a1, a2, a3, a4⟩
    · rw [tx_leaf hl hn]; exact byt_leaf hl
    · rw [tx_neg a1 a2]; exact byt_bracket ((sp_byt f _ _ _ 4 (by decide) a3).cons (by decide))
    · have hl5 : leftNeed (level (nd L i)) ≤ 5 ∧ level (nd L i) + 1 ≤ 5 := by
        rw [a5]; exact bin_need _ _ _
      rw [tx_bin a3 a4 a5 a6 a7]
      exact byt_bracket (((sp_byt f _ _ _ _ hl5.1 a7).app (byt_op op)).app (sp_byt f _ _ _ _ hl5.2 a6))
    · rw [tx_call a1 a2 a4 hn]
      exact Byt.app (fnName_bytes op) (((lk_byt (sp_byt f) _ _ _ a4).app (byt_nil.cons (by decide))).cons (by decide))
end
/-- The printed text read again. -/
theorem round_bs {t : Tr} (h : TreeOK t) : parseM (bt (bs (printOf t))) (bs (printOf t)).size = if (printOf t).length ≤ 40 then t else ⟨[], -1, 1, 0⟩ := by
  have hb : Byt (printOf t) := sp_byt _ _ _ _ 1 (by decide) h.sp
  split
  · rename_i h40
    exact round_trip h (at_of_get _ _ (bt_bs hb) (by rw [bs_size]; omega)) (bs_size _) (by rw [bs_size]; exact h40)
  · rename_i h40
    unfold parseM
    rw [if_pos (by rw [bs_size]; omega)]
theorem prT_ok {t : Tr} (h : TreeOK t) : prT t = (printOf t, 0) := by
  unfold prT; rw [if_neg (by have := h.max; omega), if_pos ((tokB_iff t).2 h)]
theorem prT_zero {t : Tr} (h : (prT t).2 = 0) : TreeOK t ∧ prT t = (printOf t, 0) := by
  unfold prT at h
  split at h
  · cases h
  · split at h
    · rename_i h1 h2; exact ⟨(tokB_iff t).1 h2, prT_ok ((tokB_iff t).1 h2)⟩
    · cases h
theorem print_len {t : Tr} (h : TreeOK t) : (printOf t).length ≤ 264 := by
  have h1 := sp_len (L := t.nodes) _ _ _ _ 1 (by decide) h.sp
  have := h.max
  have := h.one
  unfold printOf
  omega
/-! ### a text behind a turning -/
theorem bs_tl (x : Int) (L : List Int) : tlS (bs (x :: L)) = bs L := by
  unfold tlS
  apply ByteArray.ext
  simp [bs, ByteArray.size]
  exact List.take_of_length_le (by simp)
theorem bs_form {L : List Int} (h : Byt L) : isForm (bs (61 :: L)) = true := by
  have h1 : bt (bs (61 :: L)) 0 = 61 := by
    have := bt_bs (L := 61 :: L) (Byt.cons (by decide) h) 0 61 rfl
    simpa using this
  have h2 : ((bs (61 :: L)).toList == []) = false := by
    rw [ByteArray.toList_eq]
    simp [bs]
  unfold isForm
  rw [h1, h2]; rfl
theorem print_byt {t : Tr} (h : TreeOK t) : Byt (printOf t) := sp_byt _ _ _ _ 1 (by decide) h.sp
def eqS (L : List Int) : ByteArray := bs (61 :: L)
theorem eqS_size (L : List Int) : (eqS L).size = L.length + 1 := by unfold eqS; rw [bs_size]; rfl
theorem eqS_form {t : Tr} (h : TreeOK t) : isForm (eqS (printOf t)) = true := bs_form (print_byt h)
theorem eqS_tl {t : Tr} (h : TreeOK t) (hl : (eqS (printOf t)).size ≤ 40) : tlT (eqS (printOf t)) = t := by
  unfold tlT eqS
  rw [bs_tl, round_bs h, if_pos (by rw [eqS_size] at hl; omega)]
def frm (s : ByteArray) : Bool := isForm s && ((tlT s).err == 0)
theorem frm_iff {s : ByteArray} : frm s = true ↔ isForm s = true ∧ (tlT s).err = 0 := by unfold frm; rw [Bool.and_eq_true, beq_iff_eq]
def movS (g : Nd → Nd) (s : ByteArray) : ByteArray := if frm s = true then eqS (printOf (mapT g (tlT s))) else s
theorem movS_no {g : Nd → Nd} {s : ByteArray} (h : frm s = false) : movS g s = s := by unfold movS; rw [h]; rfl
theorem movS_yes {g : Nd → Nd} {s : ByteArray} (h : frm s = true) : movS g s = eqS (printOf (mapT g (tlT s))) := by unfold movS; rw [if_pos h]
theorem frm_tree {s : ByteArray} (h : frm s = true) : TreeOK (tlT s) ∧ (printOf (tlT s)).length ≤ (tlS s).size := by
  rcases parse_law (bt (tlS s)) (tlS s).size with ⟨-, h1, h2⟩ | ⟨h1, -⟩
  · exact ⟨h1, h2⟩
  · exact absurd (frm_iff.1 h).2 h1
theorem frm_no_nodes {s : ByteArray} (h1 : isForm s = true) (h : frm s = false) : (tlT s).nodes = [] := by
  rcases parse_law (bt (tlS s)) (tlS s).size with ⟨h2, -, -⟩ | ⟨-, h2, -⟩
  · exact absurd (frm_iff.2 ⟨h1, h2⟩) (by rw [h]; decide)
  · exact h2
theorem tlS_size (s : ByteArray) : (tlS s).size = s.size - 1 := by unfold tlS; rw [ByteArray.size_extract]; omega
theorem movS_frm {g : Nd → Nd} (hg : LM g) {s : ByteArray} (h : frm s = true) (hl : (movS g s).size ≤ 40) : tlT (movS g s) = mapT g (tlT s) ∧ frm (movS g s) = true := by
  have ht := hg.tree (frm_tree h).1
  rw [movS_yes h] at hl ⊢
  have h1 := eqS_tl ht hl
  exact ⟨h1, frm_iff.2 ⟨eqS_form ht, by rw [h1]; rfl⟩⟩
theorem movS_frm' {g : Nd → Nd} (hg : LM g) {s : ByteArray} (hl : (movS g s).size ≤ 40) : frm (movS g s) = frm s := by
  cases h : frm s
  · rw [movS_no h, h]
  · exact (movS_frm hg h hl).2
theorem movS_size {rows ins : Bool} {at_ : Int} (ha : 0 ≤ at_) (han : at_ < nAx rows) {s : ByteArray} (hs : s.size ≤ 40) : (movS (moveN rows ins at_) s).size ≤ 40 := by
  cases h : frm s
  · rw [movS_no h]; exact hs
  · rw [movS_yes h, eqS_size]
    obtain ⟨h1, h2⟩ := frm_tree h
    have := print_move_le (ins := ins) ha han h1
    rw [tlS_size] at h2
    have hp : 0 < s.size := by
      have := (frm_iff.1 h).1
      unfold isForm at this
      rw [Bool.and_eq_true] at this
      exact size_pos (by simpa using this.1)
    omega
/-- A text is its own print, if it is a formula. -/
def canonB (s : ByteArray) : Prop := frm s = true → eqS (printOf (tlT s)) = s
theorem canon_mov {g : Nd → Nd} (hg : LM g) {s : ByteArray} (hl : (movS g s).size ≤ 40) : canonB (movS g s) := by
  intro h
  rw [movS_frm' hg hl] at h
  rw [(movS_frm hg h hl).1, movS_yes h]
theorem frm_es : frm es = false := by unfold frm; rw [isForm_es]; rfl
theorem canon_es : canonB es := fun h => by rw [frm_es] at h; cases h
/-! ### what a text reads -/
theorem reads_frm {s : ByteArray} (hs : s.size ≤ 40) (h : frm s = true) : (readsP s).1 = rdT (tlT s) := by
  unfold readsP; rw [if_neg (by omega), if_pos (frm_iff.1 h).1]; rfl
theorem reads_no {s : ByteArray} (h : frm s = false) : (readsP s).1 = 0#32 := by
  unfold readsP
  split
  · rfl
  · split
    · rename_i h1; simp only [frm_no_nodes h1 h]; rfl
    · rfl
theorem reads_move {rows ins : Bool} {at_ : Int} (ha : 0 ≤ at_) (han : at_ < nAx rows) {s : ByteArray} (hs : s.size ≤ 40) {c : Nat} (hc : c < 24) (hnew : ¬ (ins = true ∧ lineOf rows (c : Int) = at_)) :
    (readsP (movS (moveN rows ins at_) s)).1.getLsbD c = true ↔ 0 ≤ fromP rows ins at_ c ∧ (readsP s).1.getLsbD (fromP rows ins at_ c).toNat = true := by
  have hl := movS_size (ins := ins) ha han hs
  cases h : frm s
  · rw [movS_no h, reads_no h]; simp
  · obtain ⟨h1, h2⟩ := movS_frm (moveN_lm (ins := ins) ha han) h hl
    rw [reads_frm hl h2, reads_frm hs h, h1]
    exact rdT_move ha han (frm_tree h).1 hc hnew
end Go.Proofs.Qxb6500326aGreat
