/-
  DERIVED. PLAIN: the text of a lawful tree, read again, is that tree: leaves, calls, the whole.
-/
import Derived.Test.Qxb6500326aGreatQ2
namespace Go.Proofs.Qxb6500326aGreat
set_option linter.unusedVariables false
set_option linter.unusedSimpArgs false
section
variable {b : Nat → Int} {n : Nat} {L : List Nd}
/-- What opens with a letter or '$' is read by name. -/
theorem atom_name {ex : Bool → PS → PS × Int} {F p j : Nat} {rg : Bool} (hp : p < n) (hc : isCap (b p) = true ∨ b p = 36) : atomM b n ex F rg (S L p j) = nameM b n ex F rg (S L p j) := by
  have hc' := hc
  rw [isCap_iff] at hc'
  unfold atomM
  rw [look_at hp (by omega) (by rw [known_iff, wordy_iff]; omega)]
  simp only []
  rw [if_neg (by rw [isDig_iff]; omega), if_pos hc]
theorem own_leaf (h24 : L.length ≤ 24) {i : Nat} (hi : i < L.length) {arg rg : Bool} (hl : Leaf (nd L i) arg) (hr : arg = true → rg = true) : C5 b n L i i rg := by
  intro p F f hF hf ha hFol
  have e : tx L i 5 = leafTxt (nd L i) := tx_leaf hl (by decide)
  rw [e] at ha hFol ⊢
  rcases hl with ⟨v, hx, h1, h2⟩ | hx | hx | ⟨r, hx, hri⟩ | hx | ⟨harg, r, s, hx, hri, hsi⟩
  · -- a number
    have el : leafTxt (nd L i) = dec v := by rw [hx]; rfl
    rw [el] at ha hFol ⊢
    obtain ⟨d1, d2, d3, d4⟩ := dec_digits h1 h2
    have hend := dig_at ha d2 hFol.stop.2
    have hnv := numVal_at ha d4
    cases hd : dec v with
    | nil => exact absurd hd d1
    | cons c u =>
      have hc := d2 c (by rw [hd]; simp)
      have ha' := ha
      rw [hd] at ha'
      have hc' := hc
      rw [isDig_iff] at hc'
      unfold atomM
      rw [look_at ha'.1 (by rw [ha'.2.1]; omega) (by rw [ha'.2.1, known_iff, wordy_iff]; omega), ha'.2.1]
      simp only []
      rw [if_pos hc]
      simp only [show (S L p i).i = p from rfl, hend]
      rw [show p + (dec v).length - p = (dec v).length from by omega, if_neg (by omega), hnv, d3, hd]
      exact add_S h24 hi hx
  · -- FALSE
    have el : leafTxt (nd L i) = wFalse := by rw [hx]; rfl
    rw [el] at ha hFol ⊢
    have hend := word_at ha (by decide) hFol.stop.1
    have hcut := at_cut _ _ ha
    rw [atom_name ha.1 (by rw [ha.2.1]; decide)]
    unfold nameM
    simp only [show (S L p i).i = p from rfl, hend, hcut]
    rw [if_neg (by decide), if_pos trivial]
    exact add_S (p := p + wFalse.length) h24 hi hx
  · -- TRUE
    have el : leafTxt (nd L i) = wTrue := by rw [hx]; rfl
    rw [el] at ha hFol ⊢
    have hend := word_at ha (by decide) hFol.stop.1
    have hcut := at_cut _ _ ha
    rw [atom_name ha.1 (by rw [ha.2.1]; decide)]
    unfold nameM
    simp only [show (S L p i).i = p from rfl, hend, hcut]
    rw [if_pos trivial]
    exact add_S (p := p + wTrue.length) h24 hi hx
  · -- a reference
    have el : leafTxt (nd L i) = refTxt r := by rw [hx]; rfl
    rw [el] at ha hFol ⊢
    obtain ⟨w1, c, u, w2, w3⟩ := refTxt_wordy hri
    have hend := word_at ha w1 hFol.stop.1
    have hcut := at_cut _ _ ha
    have hro := refOf_refTxt hri
    have hnT : refTxt r ≠ wTrue := by intro h; rw [h] at hro; cases hro
    have hnF : refTxt r ≠ wFalse := by intro h; rw [h] at hro; cases hro
    have ha' := ha
    rw [w2] at ha'
    rw [atom_name ha'.1 (by rw [ha'.2.1]; exact w3)]
    unfold nameM
    simp only [show (S L p i).i = p from rfl, hend, hcut]
    rw [if_neg hnT, if_neg hnF, hro]
    simp only []
    have hgo : (S L p i).go (p + (refTxt r).length) = S L (p + (refTxt r).length) i := rfl
    rw [hgo, hFol.look]
    simp only []
    rw [if_neg (by rcases hFol.ch with h | h; rw [h]; decide; rw [folc_iff] at h; omega)]
    exact add_S h24 hi hx
  · -- '##'
    have el : leafTxt (nd L i) = [35, 35] := by rw [hx]; rfl
    rw [el] at ha hFol ⊢
    unfold atomM
    rw [look_at ha.1 (by rw [ha.2.1]; decide) (by rw [ha.2.1]; decide), ha.2.1]
    simp only []
    rw [if_neg (by decide), if_neg (by decide), if_pos trivial]
    simp only [show (S L p i).i = p from rfl]
    rw [if_pos ⟨ha.2.2.1, ha.2.2.2.1⟩]
    exact add_S (p := p + 2) h24 hi hx
  · -- a range
    have hrg := hr harg
    have el : leafTxt (nd L i) = refTxt r ++ (58 :: refTxt s) := by rw [hx]; rfl
    rw [el] at ha hFol ⊢
    rw [at_app] at ha
    obtain ⟨a1, a2⟩ := ha
    obtain ⟨w1, c, u, w2, w3⟩ := refTxt_wordy hri
    obtain ⟨v1, c', u', v2, v3⟩ := refTxt_wordy hsi
    have hend := word_at a1 w1 (by rintro ⟨_, h⟩; rw [a2.2.1] at h; revert h; decide)
    have hcut := at_cut _ _ a1
    have hro := refOf_refTxt hri
    have hso := refOf_refTxt hsi
    have hnT : refTxt r ≠ wTrue := by intro h; rw [h] at hro; cases hro
    have hnF : refTxt r ≠ wFalse := by intro h; rw [h] at hro; cases hro
    have a1' := a1
    rw [w2] at a1'
    have a3 := a2.2.2
    have a3' := a3
    rw [v2] at a3'
    simp only [List.length_append, List.length_cons] at hFol ⊢
    rw [show p + ((refTxt r).length + ((refTxt s).length + 1)) = p + (refTxt r).length + 1 + (refTxt s).length from by omega] at hFol ⊢
    have hend2 := word_at a3 v1 hFol.stop.1
    have hcut2 := at_cut _ _ a3
    rw [atom_name a1'.1 (by rw [a1'.2.1]; exact w3)]
    unfold nameM
    simp only [show (S L p i).i = p from rfl, hend, hcut]
    rw [if_neg hnT, if_neg hnF, hro]
    simp only []
    have hgo : (S L p i).go (p + (refTxt r).length) = S L (p + (refTxt r).length) i := rfl
    rw [hgo, look_at a2.1 (by rw [a2.2.1]; decide) (by rw [a2.2.1]; decide), a2.2.1]
    simp only [if_true]
    have hgo2 : (S L (p + (refTxt r).length) i).go ((S L (p + (refTxt r).length) i).i + 1) = S L (p + (refTxt r).length + 1) i := rfl
    have v3' := v3
    rw [isCap_iff] at v3'
    rw [hgo2, look_at a3'.1 (by rw [a3'.2.1]; omega) (by rw [a3'.2.1, known_iff, wordy_iff]; omega)]
    simp only [show (S L (p + (refTxt r).length + 1) i).i = p + (refTxt r).length + 1 from rfl, hend2, hcut2, hso]
    rw [if_pos hrg]
    exact add_S (p := p + (refTxt r).length + 1 + (refTxt s).length) h24 hi hx

/-! ### Calls -/
theorem headOK_iff {c : Int} : headOK c = true ↔ (48 ≤ c ∧ c ≤ 57) ∨ (65 ≤ c ∧ c ≤ 90) ∨ c = 36 ∨ c = 35 ∨ c = 40 ∨ c = 45 := by simp [headOK, isDig, isCap, or_assoc]
theorem at_opens {p j : Nat} {w : List Int} (h : At b n p w) (ho : Opens w) : (S L p j).look b n = (S L p j, b p) ∧ headOK (b p) = true ∧ p < n := by
  obtain ⟨c, u, e, hc⟩ := ho
  rw [e] at h
  have hc' := hc
  rw [headOK_iff] at hc'
  refine ⟨look_at h.1 (by rw [h.2.1]; omega) (by rw [h.2.1, known_iff, wordy_iff, isSgn_iff]; omega), by rw [h.2.1]; exact hc, h.1⟩
/-- What the loop over the arguments does behind an argument's link. -/
def behind (b : Nat → Int) (n : Nat) (ex : Bool → PS → PS × Int) (fn : Int) (m : Nat) (st : PS) (link k : Int) : PS × Int × Int :=
  let l := st.look b n
  if l.2 = 44 then callLoop b n ex fn m (l.1.go (l.1.i + 1)) link k
  else if l.2 = 41 then (l.1.go (l.1.i + 1), link, k)
  else (l.1.fail 3 l.1.i, link, k)
theorem callLoop_succ {ex : Bool → PS → PS × Int} {fn : Int} {m : Nat} {st : PS} {link k : Int} (h : st.err = 0) :
    callLoop b n ex fn (m + 1) st link k = behind b n ex fn m ((ex (rangeOK fn) st).1.add (nArg (ex (rangeOK fn) st).2 link)).1 ((ex (rangeOK fn) st).1.add (nArg (ex (rangeOK fn) st).2 link)).2 (k + 1) := by
  conv => lhs; unfold callLoop
  rw [if_neg (by simp [h])]
  rfl
theorem fol_close {q : Nat} (hq : q < n) (h : b q = 44 ∨ b q = 41) : Fol b n q ∧ Ch b n q = b q ∧ noOp b n q := by
  have hF : Fol b n q := .inr ⟨hq, by rw [folc_iff]; omega⟩
  have hc : Ch b n q = b q := by unfold Ch; rw [hF.skip, if_pos hq]
  refine ⟨hF, hc, noOp_close ?_⟩
  rw [hc]; omega
theorem links_read (h24 : L.length ≤ 24) {f0 : Nat} {fn : Int} (hC : ∀ i lo, Sp L f0 i lo (rangeOK fn) → C1 b n L i lo (rangeOK fn)) {f : Nat} :
    ∀ (k i lo p m : Nat), Lk (Sp L f0) L (rangeOK fn) k i lo → n - p < m → n - p < f → At b n p (axt L i) → p + (axt L i).length < n → (b (p + (axt L i).length) = 44 ∨ b (p + (axt L i).length) = 41) →
      ∃ m', n - (p + (axt L i).length) ≤ m' ∧ callLoop b n (exprD b n f) fn m (S L p lo) (-1) 0 = behind b n (exprD b n f) fn m' (S L (p + (axt L i).length) (i + 1)) (i : Int) (k : Int)
  | 0, i, lo, p, m, h, _, _, _, _, _ => h.elim
  | k + 1, i, lo, p, m, h, hm, hf, ha, hq, hb => by
    obtain ⟨a1, a2, mm, h3, h4⟩ := h
    obtain ⟨g1, g2, g3⟩ := fol_close hq hb
    rcases h4 with ⟨e0, e, el⟩ | ⟨hk, hmm, e, d⟩
    · rw [axt_one a1 e] at ha hq hb g1 g2 g3 ⊢
      subst e0 el
      obtain ⟨m, rfl⟩ : ∃ m', m = m' + 1 := ⟨m - 1, by omega⟩
      have hx := (hC _ _ h3).expr (f := f) hf ha g1 g3
      have hop := at_opens (L := L) (j := 0) ha (sp_opens f0 _ _ _ 1 h3 (by decide))
      have hpos : 0 < (tx L (i - 1) 1).length := by
        obtain ⟨c, u, e, _⟩ := sp_opens f0 _ _ _ 1 h3 (by decide)
        rw [e]; simp
      refine ⟨m, by omega, ?_⟩
      rw [callLoop_succ rfl, hx]
      simp only []
      rw [show i - 1 + 1 = i from by omega, add_S h24 a2 (x := nArg ((i - 1 : Nat) : Int) (-1)) (by rw [e]; congr 1; omega)]
      rfl
    · have hle := Sp.le _ _ _ _ h3
      have eax := axt_more a1 hmm hle e d
      rw [eax] at ha hq hb g1 g2 g3 ⊢
      rw [at_app] at ha
      obtain ⟨b1, b2⟩ := ha
      have hx0 := links_read h24 hC k (mm - 1) lo p m d hm hf b1 b2.1 (.inl b2.2.1)
      obtain ⟨m', i1, i2⟩ := hx0
      simp only [List.length_append, List.length_cons] at hq hb g1 g2 g3 ⊢
      rw [show p + ((axt L (mm - 1)).length + ((tx L (i - 1) 1).length + 1)) = p + (axt L (mm - 1)).length + 1 + (tx L (i - 1) 1).length from by omega] at hq hb g1 g2 g3 ⊢
      obtain ⟨m', rfl⟩ : ∃ m'', m' = m'' + 1 := ⟨m' - 1, by have := b2.1; omega⟩
      have hx := (hC _ _ h3).expr (f := f) (p := p + (axt L (mm - 1)).length + 1) (by omega) b2.2.2 g1 g3
      refine ⟨m', by omega, ?_⟩
      rw [i2]
      obtain ⟨k1, k2, k3⟩ := fol_close (b := b) (n := n) b2.1 (.inl b2.2.1)
      conv => lhs; unfold behind
      simp only []
      rw [k1.look, k2, b2.2.1]
      simp only [if_true]
      rw [show mm - 1 + 1 = mm from by omega]
      have hgo : (S L (p + (axt L (mm - 1)).length) mm).go ((S L (p + (axt L (mm - 1)).length) mm).i + 1) = S L (p + (axt L (mm - 1)).length + 1) mm := rfl
      rw [hgo, callLoop_succ rfl, hx]
      simp only []
      rw [show i - 1 + 1 = i from by omega, add_S h24 a2 (x := nArg ((i - 1 : Nat) : Int) ((mm - 1 : Nat) : Int)) (by rw [e]; congr 1 <;> omega)]
      rfl
theorem own_call (h24 : L.length ≤ 24) {f0 i lo : Nat} {op k : Int} (hi : i < L.length) (h1 : 1 ≤ i) (h2 : nd L i = nCall op ((i : Int) - 1) k) (har : arity op k = true) (h4 : Lk (Sp L f0) L (rangeOK op) k.toNat (i - 1) lo)
    (hC : ∀ i lo, Sp L f0 i lo (rangeOK op) → C1 b n L i lo (rangeOK op)) (rg : Bool) : C5 b n L i lo rg := by
  intro p F f hF hf ha hFol
  have e : tx L i 5 = fnName op ++ (40 :: (axt L (i - 1) ++ [41])) := tx_call h1 h2 h4 (by decide)
  obtain ⟨n1, n2, n3, n4, n5, n6⟩ := fn_facts (arity_fn har)
  have hk1 := arity_pos har
  have hop1 := (arity_fn har).1
  rw [e] at ha hFol ⊢
  rw [at_app] at ha
  obtain ⟨a1, a2, a3, a4⟩ := ha
  rw [at_app] at a4
  obtain ⟨a4, a5⟩ := a4
  have hw : ∀ c ∈ fnName op, wordy c = true := fun c hc => by have := n5 c hc; rw [isCap_iff] at this; rw [wordy_iff]; omega
  have hend := word_at a1 hw (by rintro ⟨_, h⟩; rw [a3] at h; revert h; decide)
  have hcut := at_cut _ _ a1
  obtain ⟨c, u, hcu⟩ : ∃ c u, fnName op = c :: u := by
    cases hd : fnName op with
    | nil => exact absurd hd n6
    | cons c u => exact ⟨c, u, rfl⟩
  have a1' := a1
  rw [hcu] at a1'
  rw [atom_name a1'.1 (.inl (by rw [a1'.2.1]; exact n5 c (by rw [hcu]; simp)))]
  unfold nameM
  simp only [show (S L p lo).i = p from rfl, hend, hcut]
  rw [if_neg n3, if_neg n4, n2]
  simp only []
  rw [n1, if_neg (by omega)]
  have hgo : (S L p lo).go (p + (fnName op).length) = S L (p + (fnName op).length) lo := rfl
  rw [hgo, look_at a2 (by rw [a3]; decide) (by rw [a3]; decide), a3]
  simp only [if_true]
  unfold callM
  have hgo2 : (S L (p + (fnName op).length) lo).go ((S L (p + (fnName op).length) lo).i + 1) = S L (p + (fnName op).length + 1) lo := rfl
  obtain ⟨o1, o2, o3⟩ := at_opens (L := L) (j := lo) a4 (lk_opens _ _ _ h4)
  rw [headOK_iff] at o2
  rw [hgo2, o1]
  simp only []
  rw [if_neg (by omega)]
  obtain ⟨m', i1, i2⟩ := links_read (f := f) h24 hC k.toNat (i - 1) lo (p + (fnName op).length + 1) F h4 (by omega) (by omega) a4 a5.1 (.inr a5.2.1)
  rw [i2]
  obtain ⟨k1, k2, k3⟩ := fol_close (b := b) (n := n) a5.1 (.inr a5.2.1)
  have hbe : behind b n (exprD b n f) op m' (S L (p + (fnName op).length + 1 + (axt L (i - 1)).length) (i - 1 + 1)) ((i - 1 : Nat) : Int) (k.toNat : Int) =
      ((S L (p + (fnName op).length + 1 + (axt L (i - 1)).length) (i - 1 + 1)).go ((S L (p + (fnName op).length + 1 + (axt L (i - 1)).length) (i - 1 + 1)).i + 1), ((i - 1 : Nat) : Int), (k.toNat : Int)) := by
    unfold behind
    simp only []
    rw [k1.look, k2, a5.2.1]
    simp only []
    rw [if_neg (by decide), if_pos trivial]
  rw [hbe]
  simp only []
  rw [show ((k.toNat : Nat) : Int) = k from by omega, if_pos har, show i - 1 + 1 = i from by omega]
  have hgo3 : (S L (p + (fnName op).length + 1 + (axt L (i - 1)).length) i).go ((S L (p + (fnName op).length + 1 + (axt L (i - 1)).length) i).i + 1) = S L (p + (fnName op).length + 1 + (axt L (i - 1)).length + 1) i := rfl
  rw [hgo3, add_S h24 hi (x := nCall op ((i - 1 : Nat) : Int) k) (by rw [h2]; congr 1; omega)]
  simp only [List.length_append, List.length_cons, List.length_nil, Prod.mk.injEq, and_true]
  congr 1; omega
/-- A node's text is read as that node. -/
theorem reads (h24 : L.length ≤ 24) : ∀ (f i lo : Nat) (arg : Bool), Sp L f i lo arg → ∀ rg, (arg = true → rg = true) → Cs b n L i lo rg
  | 0, _, _, _, h, _, _ => h.elim
  | f + 1, i, lo, arg, h, rg, hr => by
    obtain ⟨h0, h⟩ := h
    rcases h with ⟨e, hl⟩ | ⟨a1, a2, a3⟩ | ⟨op, m, a1, a2, a3, a4, a5, a6, a7⟩ | ⟨op, k, a1, a2, a3, a4⟩
    · subst e
      exact cs5 (leaf_kind hl).2.2.2 (own_leaf h24 h0 hl hr)
    · exact cs4 (by rw [a2]; rfl) (own_neg h24 h0 a1 a2 (reads h24 f _ _ _ a3 false (by simp)).c4) rg
    · have hA := fun rg => reads h24 f _ _ _ a7 rg (by simp)
      have hB := reads h24 f _ _ _ a6 false (by simp)
      have hlev : level (nd L i) = strength op := by rw [a5]; rfl
      rcases strength_iff op with ⟨s1, _⟩ | ⟨s1, _⟩ | ⟨s1, _⟩
      · exact cs1 (by rw [hlev, s1]) (own_cmp h24 h0 a3 a4 ⟨a1, a2⟩ s1 a5 a6 a7 (fun rg => (hA rg).c2) hB.c2) rg
      · exact cs2 (by rw [hlev, s1]) (own_add h24 h0 a3 a4 ⟨a1, a2⟩ s1 a5 a6 a7 (fun rg => (hA rg).c2) hB.c3) rg
      · exact cs3 (by rw [hlev, s1]) (own_mul h24 h0 a3 a4 ⟨a1, a2⟩ s1 a5 a6 a7 (fun rg => (hA rg).c3) hB.c4) rg
    · refine cs5 (by rw [a2]; rfl) (own_call h24 h0 a1 a2 a3 a4 (fun i lo hS => ?_) rg)
      exact (reads h24 f i lo _ hS (rangeOK op) (fun h => h)).c1
end
/-- The printed text of a lawful tree. -/
def printOf (t : Tr) : List Int := tx t.nodes (t.nodes.length - 1) 1
/-- Parse of the printed text is the tree. -/
theorem round_trip {t : Tr} (h : TreeOK t) {b : Nat → Int} {n : Nat} (hb : At b n 0 (printOf t)) (hn : n = (printOf t).length) (h40 : n ≤ 40) : parseM b n = t := by
  have hsp := h.sp
  have hC := (reads (b := b) (n := n) h.max _ _ _ _ hsp false (by simp)).c1
  have hF : Fol b n (0 + (printOf t).length) := .inl (by omega)
  have hch : Ch b n (0 + (printOf t).length) = 0 := by
    unfold Ch; rw [hF.skip, if_neg (by omega)]
  have hx := hC.expr (f := n + 1) (by omega) hb hF (noOp_close (.inr (.inr hch)))
  have h1 := h.one
  unfold parseM
  rw [if_neg (by omega)]
  have hs0 : ps0 = S t.nodes 0 0 := rfl
  rw [hs0, hx]
  simp only []
  have hF' : Fol b n (0 + (tx t.nodes (t.nodes.length - 1) 1).length) := hF
  rw [hF'.look]
  have hch' : Ch b n (0 + (tx t.nodes (t.nodes.length - 1) 1).length) = 0 := hch
  simp only [hch', if_true]
  rw [if_pos (by rfl)]
  cases t with
  | mk nodes root err pos =>
    have e1 := h.err
    have e2 := h.pos
    have e3 := h.root
    simp only at e1 e2 e3 h1 ⊢
    subst e1 e2 e3
    rw [show nodes.length - 1 + 1 = nodes.length from by omega]
    simp only [S, List.take_length, Tr.mk.injEq, true_and, and_true]
    omega
end Go.Proofs.Qxb6500326aGreat
