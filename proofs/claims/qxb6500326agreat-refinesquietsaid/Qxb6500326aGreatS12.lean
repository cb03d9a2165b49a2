/-
  DERIVED. THE PLAIN LAW OF LAYER edit, 12: an insert into a sheet whose last line is free changes no value.
-/
import Derived.Test.Qxb6500326aGreatS11
namespace Go.Proofs.Qxb6500326aGreat
set_option linter.unusedVariables false
set_option linter.unusedSimpArgs false
open Go.RowKit Go.PlainAid

/-- The texts behind a structural edit. -/
def edT (rows ins : Bool) (at_ : Int) (T : Nat → ByteArray) (c : Nat) : ByteArray := if c < 24 then (if fromP rows ins at_ c < 0 then es else movS (moveN rows ins at_) (T (fromP rows ins at_ c).toNat)) else T c
section
variable {rows ins : Bool} {at_ : Int}
theorem edT_ok (ha : 0 ≤ at_) (han : at_ < nAx rows) {T : Nat → ByteArray} (h : TxOK T) : TxOK (edT rows ins at_ T) := fun c hc => by
  unfold edT
  rw [if_pos hc]
  split
  · decide
  · rename_i h1
    exact movS_size ha han (h _ ((from_lines (ins := ins) ha han hc).2 (by omega)).1)
theorem edT_canon (ha : 0 ≤ at_) (han : at_ < nAx rows) {T : Nat → ByteArray} (h : TxOK T) {c : Nat} (hc : c < 24) : canonB (edT rows ins at_ T c) := by
  unfold edT
  rw [if_pos hc]
  split
  · exact canon_es
  · exact canon_mov (moveN_lm ha han) (movS_size ha han (h _ ((from_lines (ins := ins) ha han hc).2 (by omega)).1))
theorem from_new (ha : 0 ≤ at_) (han : at_ < nAx rows) {c : Nat} (hc : c < 24) : fromP rows true at_ c < 0 ↔ lineOf rows (c : Int) = at_ := by
  obtain ⟨f1, -⟩ := from_lines (rows := rows) (ins := true) ha han hc
  constructor
  · intro h
    apply Classical.byContradiction
    intro hn
    have := f1.2 (fromL_ins hn (line_bd (rows := rows) hc).1 ha)
    omega
  · intro h
    have : ¬ 0 ≤ fromL (nAx rows) at_ true (lineOf rows (c : Int)) := by rw [h]; unfold fromL; simp
    rw [← f1] at this
    omega
/-- k cells are laid. -/
def layT (N T : Nat → ByteArray) (k c : Nat) : ByteArray := if c < k then N c else T c
theorem layT_zero (N T : Nat → ByteArray) : layT N T 0 = T := funext fun c => by unfold layT; rw [if_neg (by omega)]
theorem layT_step (N T : Nat → ByteArray) (k : Nat) : upd (layT N T k) k (N k) = layT N T (k + 1) := funext fun c => by
  unfold upd layT
  by_cases e : c = k
  · subst e; rw [if_pos rfl, if_pos (by omega)]
  · rw [if_neg e]
    by_cases e2 : c < k
    · rw [if_pos e2, if_pos (by omega)]
    · rw [if_neg e2, if_neg (by omega)]
theorem layT_all (T : Nat → ByteArray) : layT (edT rows ins at_ T) T 24 = edT rows ins at_ T := funext fun c => by
  unfold layT
  split
  · rfl
  · rename_i h; unfold edT; rw [if_neg h]
theorem edT_none {T : Nat → ByteArray} {c : Nat} (hc : c < 24) (h : fromP rows ins at_ c < 0) : edT rows ins at_ T c = es := by unfold edT; rw [if_pos hc, if_pos h]
theorem edT_some {T : Nat → ByteArray} {c p : Nat} (hc : c < 24) (h : fromP rows ins at_ c = (p : Int)) : edT rows ins at_ T c = movS (moveN rows ins at_) (T p) := by unfold edT; rw [if_pos hc, if_neg (by omega), h]; rfl
/-- The last line is free. -/
structure FreeL (rows : Bool) (T : Nat → ByteArray) : Prop where
  emp : ∀ c : Nat, c < 24 → lineOf rows (c : Int) = nAx rows - 1 → T c = es
  rd : ∀ c : Nat, c < 24 → ∀ d : Nat, d < 24 → lineOf rows (d : Int) = nAx rows - 1 → (RT T c).getLsbD d = false
theorem nd_out {L : List Nd} {j : Nat} (h : L.length ≤ j) : nd L j = nBad := by unfold nd; rw [List.getElem?_eq_none h]; rfl
theorem rd_bad : rdN nBad = 0#32 := rd_other (by decide) (by decide)
theorem free_nodes {T : Nat → ByteArray} (hT : TxOK T) (hF : FreeL rows T) {p : Nat} (hp : p < 24) (hf : frm (T p) = true) : ∀ j, ∀ c : Nat, c < 24 → lineOf rows (c : Int) = nAx rows - 1 → (rdN (nd (tlT (T p)).nodes j)).getLsbD c = false := by
  intro j c hc hl
  have h := hF.rd p hp c hc hl
  unfold RT at h
  rw [reads_frm (hT p hp) hf] at h
  rcases Nat.lt_or_ge j (tlT (T p)).nodes.length with hj | hj
  · cases hx : (rdN (nd (tlT (T p)).nodes j)).getLsbD c
    · rfl
    · have := (mem_rdS (tlT (T p)).nodes c (tlT (T p)).nodes.length).2 ⟨j, hj, hx⟩
      unfold rdT at h
      rw [this] at h; cases h
  · rw [nd_out hj, rd_bad]; simp
/-- What a carried text is worth. -/
theorem worth_move (ha : 0 ≤ at_) (han : at_ < nAx rows) {T : Nat → ByteArray} {E : Nat → Vl} (hT : TxOK T) (hE : LwE E) (hE' : LwE (envI rows at_ E)) (hF : FreeL rows T) {p : Nat} (hp : p < 24) :
    mf (movS (moveN rows true at_) (T p)) (envI rows at_ E) = mf (T p) E := by
  have hs := hT p hp
  have hl := movS_size (ins := true) ha han hs
  have hm := mf_mean hs
  cases h : frm (T p)
  · rw [movS_no h]
    cases hi : isForm (T p)
    · rw [hm.plain hi, hm.plain hi]
    · have : (tlT (T p)).err ≠ 0 := fun e => by rw [frm_iff.2 ⟨hi, e⟩] at h; cases h
      rw [hm.syn hi this, hm.syn hi this]
  · obtain ⟨h1, h2⟩ := movS_frm (moveN_lm (ins := true) ha han) h hl
    obtain ⟨hi, he⟩ := frm_iff.1 h
    obtain ⟨hi', he'⟩ := frm_iff.1 h2
    have w1 := (hm.wo hi he).2 E hE
    have w2 := ((mf_mean hl).wo hi' he').2 _ hE'
    have ht := (frm_tree h).1
    rw [h1] at w2
    have e1 := wo_ev w1 ((tlT (T p)).nodes.length - 1 + 1) (Nat.lt_succ_self _)
    have e2 := wo_ev w2 ((tlT (T p)).nodes.length - 1 + 1) (by show ((tlT (T p)).nodes.map _).length - 1 < _; rw [List.length_map]; exact Nat.lt_succ_self _)
    rw [← e1, ← e2]
    show evV ((tlT (T p)).nodes.map _) _ _ (((tlT (T p)).nodes.map _).length - 1) = _
    rw [List.length_map]
    exact ev_move (evm_insert ha han ht.all_ref E (free_nodes hT hF hp h)) _ _ _ _ ht.sp (sp_kind ht.sp) _ (Nat.lt_succ_self _)
theorem lw_envI {E : Nat → Vl} (ha : 0 ≤ at_) (han : at_ < nAx rows) (hE : LwE E) : LwE (envI rows at_ E) := fun c hc => by
  unfold envI
  split
  · exact Lw.none
  · rename_i h
    have := from_new ha han hc
    refine hE _ ((from_lines (ins := true) ha han hc).2 (by omega)).1
/-- Where a cell stands behind an insert. -/
theorem back_cell (ha : 0 ≤ at_) (han : at_ < nAx rows) {d : Nat} (hd : d < 24) (hl : lineOf rows (d : Int) ≠ nAx rows - 1) : ∃ c : Nat, c < 24 ∧ lineOf rows (c : Int) ≠ at_ ∧ (fromP rows true at_ c).toNat = d := by
  obtain ⟨l0, l1⟩ := line_bd (rows := rows) hd
  have : ∃ c : Nat, c < 24 ∧ lineOf rows (c : Int) = pointP (lineOf rows (d : Int)) (nAx rows) at_ true ∧ lineOf (!rows) (c : Int) = lineOf (!rows) (d : Int) := by
    have hp := point_free (n := nAx rows) (at_ := at_) l0 (by omega) ha
    have hb := point_bd (ins := true) (at_ := at_) l0 l1 ha han
    generalize pointP (lineOf rows (d : Int)) (nAx rows) at_ true = y at hp hb
    cases rows
    · refine ⟨((d : Int) / 4 * 4 + y).toNat, ?_, ?_, ?_⟩ <;> simp [lineOf, nAx] at * <;> omega
    · refine ⟨(y * 4 + (d : Int) % 4).toNat, ?_, ?_, ?_⟩ <;> simp [lineOf, nAx] at * <;> omega
  obtain ⟨c, c1, c2, c3⟩ := this
  have hp := point_free (n := nAx rows) (at_ := at_) l0 (by omega) ha
  obtain ⟨x0, x1⟩ := line_bd (rows := rows) c1
  have hpf := (point_from (ins := true) l0 l1 ha han x0 x1).1 ⟨hp, c2⟩
  obtain ⟨f1, f2⟩ := from_lines (rows := rows) (ins := true) ha han c1
  obtain ⟨g1, g2, g3⟩ := f2 (f1.2 hpf.1)
  refine ⟨c, c1, fun e => ?_, lines_eq (rows := rows) (by rw [g2, hpf.2]) (by rw [g3, c3])⟩
  have := (from_new ha han c1).2 e
  have := f1.2 hpf.1
  omega
theorem edT_reads (ha : 0 ≤ at_) (han : at_ < nAx rows) {T : Nat → ByteArray} (hT : TxOK T) {c d : Nat} (hc : c < 24) (hn : lineOf rows (c : Int) ≠ at_) (hd : d < 24) (hdn : lineOf rows (d : Int) ≠ at_) :
    (RT (edT rows true at_ T) c).getLsbD d = (RT T (fromP rows true at_ c).toNat).getLsbD (fromP rows true at_ d).toNat := by
  have h1 := from_new ha han hc
  have h2 := from_new ha han hd
  unfold RT edT
  rw [if_pos hc, if_neg (by omega)]
  have := reads_move (ins := true) ha han (hT _ ((from_lines (ins := true) ha han hc).2 (by omega)).1) hd (fun e => hdn e.2)
  rw [Bool.eq_iff_iff, this]
  exact ⟨fun h => h.2, fun h => ⟨by omega, h⟩⟩
theorem edT_new (ha : 0 ≤ at_) (han : at_ < nAx rows) {T : Nat → ByteArray} {c : Nat} (hc : c < 24) (hn : lineOf rows (c : Int) = at_) : edT rows true at_ T c = es := by
  unfold edT; rw [if_pos hc, if_pos ((from_new ha han hc).2 hn)]
theorem es_none {T : Nat → ByteArray} {c : Nat} (h : T c = es) : RT T c = 0#32 := by unfold RT; rw [h, readsP_es]
theorem lev_move (ha : 0 ≤ at_) (han : at_ < nAx rows) {T : Nat → ByteArray} (hT : TxOK T) (hF : FreeL rows T) {c : Nat} (hc : c < 24) (hn : lineOf rows (c : Int) ≠ at_) :
    Gr.lev (RT (edT rows true at_ T)) c < 0 ↔ Gr.lev (RT T) (fromP rows true at_ c).toNat < 0 := by
  have hT' := edT_ok (ins := true) ha han hT
  have hS := sht_of hT
  have hS' := sht_of hT'
  have hfr : ∀ {c : Nat}, c < 24 → lineOf rows (c : Int) ≠ at_ → (fromP rows true at_ c).toNat < 24 := fun {c} hc hn => ((from_lines (ins := true) ha han hc).2 (by have := from_new ha han hc; omega)).1
  constructor
  · intro h
    refine Gr.cyc_of (RT T) (Z := fun d => d < 24 ∧ ∃ c : Nat, c < 24 ∧ lineOf rows (c : Int) ≠ at_ ∧ (fromP rows true at_ c).toNat = d ∧ Gr.lev (RT (edT rows true at_ T)) c < 0) ?_ (hfr hc hn) ⟨hfr hc hn, c, hc, hn, rfl, h⟩
    rintro d ⟨hd, c, hc, hn, rfl, hl⟩
    obtain ⟨e, e1, e2⟩ := Gr.cyc_reads (RT (edT rows true at_ T)) hS'.rd (c := c) (by rw [Gr.mem_cyc]; simp [hc, hl])
    rw [Gr.mem_cyc, Bool.and_eq_true, decide_eq_true_eq, decide_eq_true_eq] at e2
    have hen : lineOf rows (e : Int) ≠ at_ := by
      intro en
      obtain ⟨x, x1, -⟩ := Gr.cyc_reads (RT (edT rows true at_ T)) hS'.rd (c := e) (by rw [Gr.mem_cyc]; simp [e2])
      rw [es_none (edT_new ha han e2.1 en)] at x1
      simp at x1
    rw [edT_reads ha han hT hc hn e2.1 hen] at e1
    exact ⟨_, e1, hfr e2.1 hen, e, e2.1, hen, rfl, e2.2⟩
  · intro h
    refine Gr.cyc_of (RT (edT rows true at_ T)) (Z := fun c => c < 24 ∧ lineOf rows (c : Int) ≠ at_ ∧ Gr.lev (RT T) (fromP rows true at_ c).toNat < 0) ?_ hc ⟨hc, hn, h⟩
    rintro c ⟨hc, hn, hl⟩
    obtain ⟨e, e1, e2⟩ := Gr.cyc_reads (RT T) hS.rd (c := (fromP rows true at_ c).toNat) (by rw [Gr.mem_cyc]; simp [hfr hc hn, hl])
    rw [Gr.mem_cyc, Bool.and_eq_true, decide_eq_true_eq, decide_eq_true_eq] at e2
    have hel : lineOf rows (e : Int) ≠ nAx rows - 1 := by
      intro en
      rw [hF.rd _ (hfr hc hn) e e2.1 en] at e1; cases e1
    obtain ⟨x, x1, x2, x3⟩ := back_cell ha han e2.1 hel
    refine ⟨x, ?_, x1, x2, by rw [x3]; exact e2.2⟩
    rw [edT_reads ha han hT hc hn x1 x2, x3]
    exact e1
/-- THE MEANING. -/
theorem meaning (ha : 0 ≤ at_) (han : at_ < nAx rows) {T : Nat → ByteArray} {E E' : Nat → Vl} (h : Sheet T E) (h' : Sheet (edT rows true at_ T) E') (hF : FreeL rows T) : ∀ c : Nat, c < 24 → E' c = envI rows at_ E c := by
  have hT' := edT_ok (ins := true) ha han h.ok
  have hE' := lw_envI ha han h.lw
  refine fix_unique (sht_of hT') h'.fix ⟨fun c hc hl => ?_, fun c hc hl => ?_⟩
  · by_cases hn : lineOf rows (c : Int) = at_
    · obtain ⟨x, x1, -⟩ := Gr.cyc_reads (RT (edT rows true at_ T)) (sht_of hT').rd (c := c) (by rw [Gr.mem_cyc]; simp [hc, hl])
      rw [es_none (edT_new ha han hc hn)] at x1
      simp at x1
    · rw [lev_move ha han h.ok hF hc hn] at hl
      unfold envI
      rw [if_neg hn]
      exact h.fix.cy _ ((from_lines (ins := true) ha han hc).2 (by have := from_new ha han hc; omega)).1 hl
  · by_cases hn : lineOf rows (c : Int) = at_
    · unfold FT
      rw [edT_new ha han hc hn, (mf_mean (s := es) (by decide)).plain isForm_es]
      unfold envI
      rw [if_pos hn]
      rfl
    · have hp : (fromP rows true at_ c).toNat < 24 := ((from_lines (ins := true) ha han hc).2 (by have := from_new ha han hc; omega)).1
      have hl2 : 0 ≤ Gr.lev (RT T) (fromP rows true at_ c).toNat := by
        have := lev_move ha han h.ok hF hc hn
        omega
      have e1 := h.fix.wo _ hp hl2
      unfold FT at e1 ⊢
      have e2 : edT rows true at_ T c = movS (moveN rows true at_) (T (fromP rows true at_ c).toNat) := by
        unfold edT; rw [if_pos hc, if_neg (by have := from_new ha han hc; omega)]
      rw [e2, worth_move ha han h.ok h.lw hE' hF hp, ← e1]
      unfold envI
      rw [if_neg hn]
end
end Go.Proofs.Qxb6500326aGreat
