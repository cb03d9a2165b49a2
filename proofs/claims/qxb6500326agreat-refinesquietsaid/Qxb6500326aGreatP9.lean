/-
  DERIVED. PLAIN: what the recursive descent answers is a lawful tree, whose text is no longer than what was read; an error's place lies within the text.
-/
import Derived.Test.Qxb6500326aGreatP5
import Derived.Test.Qxb6500326aGreatP8
namespace Go.Proofs.Qxb6500326aGreat
set_option linter.unusedVariables false
set_option linter.unusedSimpArgs false

/-! ### Numbers, words -/
theorem decF_len : ∀ (f v k : Nat) (T : List Int), v < 10 ^ k → 1 ≤ k → (decF f v T).length ≤ k + T.length
  | 0, v, k, T, h, hk => by unfold decF; omega
  | f + 1, v, k, T, h, hk => by
    unfold decF; split
    · simp only [List.length_cons]; omega
    · rename_i h10
      obtain ⟨k, rfl⟩ : ∃ k', k = k' + 1 := ⟨k - 1, by omega⟩
      have h1 : v / 10 < 10 ^ k := by rw [Nat.pow_succ] at h; omega
      have hk1 : 1 ≤ k := by
        rcases Nat.eq_zero_or_pos k with e | e
        · subst e; simp at h1; omega
        · exact e
      have := decF_len f (v / 10) k (((48 + v % 10 : Nat) : Int) :: T) h1 hk1
      simp only [List.length_cons] at this
      omega
theorem dec_one {v : Int} (h0 : 0 ≤ v) (h : v < 10) : dec v = [48 + v] := by
  unfold dec decF; rw [if_pos (by omega)]; congr 1; omega
theorem dec_two {v : Int} (h0 : 10 ≤ v) (h : v < 100) : dec v = [48 + v / 10, 48 + v % 10] := by
  unfold dec decF; rw [if_neg (by omega)]; unfold decF; rw [if_pos (by omega)]; congr 1; omega; congr 1; omega
theorem numVal_bd {b : Nat → Int} {i : Nat} : ∀ (k : Nat), k ≤ 9 → (∀ j, i ≤ j → j < i + k → isDig (b j) = true) → 0 ≤ numVal b i k ∧ numVal b i k < ((10 ^ k : Nat) : Int)
  | 0, _, _ => by simp [numVal]
  | k + 1, hk, h => by
    obtain ⟨h1, h2⟩ := numVal_bd k (by omega) (fun j a c => h j a (by omega))
    have h3 := isDig_iff.1 (h (i + k) (by omega) (by omega))
    unfold numVal; rw [if_pos (by omega), Nat.pow_succ]
    omega
theorem refTail_txt {ac ar : Bool} {c : Int} {w : List Int} {r : Ref} (hc : 0 ≤ c ∧ c ≤ 25) (h : refTail ac ar c w = some r) :
    r.absC = ac ∧ r.absR = ar ∧ r.col = c ∧ dec (r.row + 1) = w ∧ refIn r := by
  unfold refTail at h
  split at h
  · rename_i d
    split at h
    · rename_i hd
      simp at hd
      simp only [Option.some.injEq] at h
      subst h
      refine ⟨rfl, rfl, rfl, ?_, ?_⟩
      · simp only []; rw [dec_one (by omega) (by omega)]; congr 1; omega
      · exact ⟨hc.1, hc.2, by simp only []; omega, by simp only []; omega⟩
    · cases h
  · rename_i d e
    split at h
    · rename_i hd
      simp [isDig] at hd
      simp only [Option.some.injEq] at h
      subst h
      refine ⟨rfl, rfl, rfl, ?_, ?_⟩
      · simp only []; rw [dec_two (by omega) (by omega)]; congr 1; omega; congr 1; omega
      · exact ⟨hc.1, hc.2, by simp only []; omega, by simp only []; omega⟩
    · cases h
  · cases h
theorem refCol_txt {ac : Bool} {w : List Int} {r : Ref} (h : refCol ac w = some r) : refTxt r = (if ac = true then [36] else []) ++ w ∧ refIn r := by
  unfold refCol at h
  split at h
  · cases h
  · rename_i c t
    split at h
    · rename_i hc
      rw [isCap_iff] at hc
      split at h
      · cases h
      · rename_i x u
        split at h
        · rename_i hx
          obtain ⟨h1, h2, h3, h4, h5⟩ := refTail_txt (by omega) h
          refine ⟨?_, h5⟩
          unfold refTxt; rw [h1, h2, h3, h4, hx]; simp only [if_true]
          congr 1
          simp only [List.cons_append, List.nil_append, List.cons.injEq, and_true]; omega
        · obtain ⟨h1, h2, h3, h4, h5⟩ := refTail_txt (by omega) h
          refine ⟨?_, h5⟩
          unfold refTxt; rw [h1, h2, h3, h4]
          congr 1
          simp only [Bool.false_eq_true, if_false, List.nil_append, List.cons.injEq, and_true]; omega
    · cases h
/-- A reference's text is the word that spells it. -/
theorem refOf_txt {w : List Int} {r : Ref} (h : refOf w = some r) : refTxt r = w ∧ refIn r := by
  unfold refOf at h
  split at h
  · cases h
  · rename_i c t
    split at h
    · rename_i hc
      obtain ⟨h1, h2⟩ := refCol_txt h
      exact ⟨by rw [h1, hc]; rfl, h2⟩
    · obtain ⟨h1, h2⟩ := refCol_txt h
      exact ⟨by rw [h1]; simp, h2⟩
theorem fnOf_name {w : List Int} (h : fnOf w ≠ 0) : fnName (fnOf w) = w := by
  unfold fnOf at h ⊢
  repeat' split
  all_goals first | (rename_i e; rw [e]; rfl) | skip
  exfalso
  simp_all
theorem cut_length {b : Nat → Int} (a e : Nat) : (cut b a e).length = e - a := by simp [cut]

/-! ### What a part of the descent answers -/
structure Got (n : Nat) (st s : PS) (v need : Int) (rg : Bool) : Prop where
  i1 : st.i < s.i
  i2 : s.i ≤ n
  ext : ∃ l, s.n = st.n ++ l
  idx : v = (s.n.length : Int) - 1
  lt : st.n.length < s.n.length
  max : s.n.length ≤ 24
  sp : ∃ f, Sp s.n f (s.n.length - 1) st.n.length rg
  len : (tx s.n (s.n.length - 1) need).length + st.i ≤ s.i
def Par (n : Nat) (st : PS) (r : PS × Int) (need : Int) (rg : Bool) : Prop :=
  (r.1.err ≠ 0 → 0 ≤ r.1.pos ∧ r.1.pos ≤ n) ∧ (r.1.err = 0 → Got n st r.1 r.2 need rg)
theorem bracket_len (lv : Int) {need need' : Int} (h : need' ≤ need) (s : List Int) : (bracket lv need' s).length ≤ (bracket lv need s).length := by
  unfold bracket; repeat' split
  all_goals simp; try omega
theorem tx_mono {L : List Nd} {i : Nat} {need need' : Int} (h : need' ≤ need) : (tx L i need').length ≤ (tx L i need).length := by
  unfold tx showS; exact bracket_len _ h _
theorem tx_plus2 {L : List Nd} {i : Nat} (need need' : Int) : (tx L i need).length ≤ (tx L i need').length + 2 := by
  unfold tx showS bracket; simp only []
  repeat' split
  all_goals simp; try omega
theorem Got.weak {n : Nat} {st s : PS} {v need need' : Int} {rg : Bool} (h : Got n st s v need rg) (hn : need' ≤ need) : Got n st s v need' rg :=
  ⟨h.i1, h.i2, h.ext, h.idx, h.lt, h.max, h.sp, by have := tx_mono (L := s.n) (i := s.n.length - 1) hn; have := h.len; omega⟩
theorem Par.weak {n : Nat} {st : PS} {r : PS × Int} {need need' : Int} {rg : Bool} (h : Par n st r need rg) (hn : need' ≤ need) : Par n st r need' rg :=
  ⟨h.1, fun e => (h.2 e).weak hn⟩
theorem par_bad {n : Nat} {st : PS} {s : PS} {v need : Int} {rg : Bool} (he : s.err ≠ 0) (hp : 0 ≤ s.pos ∧ s.pos ≤ n) : Par n st (s, v) need rg := ⟨fun _ => hp, fun e => absurd e he⟩
theorem par_fail {n : Nat} {st : PS} {s : PS} {v need : Int} {rg : Bool} (h0 : s.err = 0) {e : Int} (he : e ≠ 0) {p : Nat} (hp : p ≤ n) : Par n st (s.fail e p, v) need rg := by
  rw [fail_ok h0]; exact par_bad he ⟨by show (0 : Int) ≤ p; omega, by show (p : Int) ≤ n; omega⟩
theorem padd_two {st : PS} (h0 : st.err = 0) (x : Nd) :
    (st.n.length < 24 ∧ st.add x = (⟨st.i, st.n ++ [x], 0, st.pos⟩, (st.n.length : Int))) ∨ st.add x = (⟨st.i, st.n, 7, st.i⟩, -1) := by
  rcases add_two h0 x with ⟨a, b, _⟩ | ⟨a, _⟩
  · exact .inl ⟨a, b⟩
  · exact .inr a
theorem par_leaf {n : Nat} {st0 st : PS} {x : Nd} {rg : Bool} (h0 : st.err = 0) (h1 : st0.i < st.i) (h2 : st.i ≤ n) (hn : st.n = st0.n) (hx : Leaf x rg) (hl : (leafTxt x).length + st0.i ≤ st.i) : Par n st0 (st.add x) 5 rg := by
  rcases padd_two h0 x with ⟨hl24, e⟩ | e
  · rw [e]
    refine ⟨fun h => absurd rfl h, fun _ => ⟨h1, h2, ⟨[x], by rw [hn]⟩, by simp, by rw [hn]; simp, by simp; omega, ⟨1, ?_⟩, ?_⟩⟩
    · simp only [List.length_append, List.length_cons, List.length_nil]
      rw [show st.n.length + (0 + 1) - 1 = st.n.length from by omega]
      refine ⟨by simp, .inl ⟨by rw [hn], by rw [nd_last]; exact hx⟩⟩
    · simp only [List.length_append, List.length_cons, List.length_nil]
      rw [show st.n.length + (0 + 1) - 1 = st.n.length from by omega, tx_leaf (arg := rg) (by rw [nd_last]; exact hx) (by decide), nd_last]
      exact hl
  · rw [e]; exact par_bad (show (7 : Int) ≠ 0 by decide) ⟨by show (0 : Int) ≤ st.i; omega, by show (st.i : Int) ≤ n; omega⟩

section
variable {b : Nat → Int} {n : Nat}
def ExP (b : Nat → Int) (n f : Nat) (ex : Bool → PS → PS × Int) : Prop :=
  ∀ (rg : Bool) (st : PS), st.err = 0 → st.i ≤ n → n - st.i < f → Par n st (ex rg st) 1 rg
/-- The links of the arguments that have been read. -/
structure Links (L N0 : List Nd) (rg : Bool) (link k : Int) (p0 i : Nat) : Prop where
  ext : ∃ l, L = N0 ++ l
  max : L.length ≤ 24
  pos : 1 ≤ k
  link : link = (L.length : Int) - 1
  lt : N0.length < L.length
  lk : ∃ f, Lk (Sp L f) L rg k.toNat (L.length - 1) N0.length
  len : (axt L (L.length - 1)).length + 1 + p0 ≤ i
theorem look_good {st : PS} (h0 : st.err = 0) (hi : st.i ≤ n) :
    ((st.look b n).1.err ≠ 0 → (st.look b n).2 = 0 ∧ 0 ≤ (st.look b n).1.pos ∧ (st.look b n).1.pos ≤ n) ∧
    ((st.look b n).1.err = 0 → st.look b n = (st.go (skip b n st.i), Ch b n st.i) ∧ st.i ≤ skip b n st.i ∧ skip b n st.i ≤ n ∧ (Ch b n st.i ≠ 0 → skip b n st.i < n)) := by
  have h1 := le_skip (b := b) (n := n) st.i
  have h2 := skip_le (b := b) (n := n) (i := st.i) hi
  rcases look_two (b := b) (n := n) h0 with ⟨e, _⟩ | ⟨e, _⟩
  · rw [e]
    refine ⟨fun h => absurd h0 h, fun _ => ⟨rfl, h1, h2, fun hc => ?_⟩⟩
    unfold Ch at hc
    rcases Nat.lt_or_ge (skip b n st.i) n with h | h
    · exact h
    · rw [if_neg (by omega)] at hc; exact absurd rfl hc
  · rw [e]
    exact ⟨fun _ => ⟨rfl, by show (0 : Int) ≤ ((skip b n st.i : Nat) : Int); omega, by show ((skip b n st.i : Nat) : Int) ≤ n; omega⟩, fun h => absurd h (by show (2 : Int) ≠ 0; decide)⟩
theorem links_add {st s : PS} {N0 : List Nd} {rg : Bool} {link k : Int} {p0 : Nat} {a : Int} (hL : (k = 0 ∧ link = -1 ∧ st.n = N0 ∧ p0 ≤ st.i) ∨ Links st.n N0 rg link k p0 st.i)
    (hG : Got n st s a 1 rg) (h24 : s.n.length < 24) {i : Nat} (hi : s.i < i) : Links (s.n ++ [nArg a link]) N0 rg (s.n.length : Int) (k + 1) p0 i := by
  obtain ⟨l, hl⟩ := hG.ext
  obtain ⟨f, hf⟩ := hG.sp
  have hlt := hG.lt
  have hlen : (s.n ++ [nArg a link]).length - 1 = s.n.length := by simp
  have hsp := Sp.app (M := [nArg a link]) f _ _ _ hf
  have htx := tx_app hf [nArg a link] 1
  have hlen1 := hG.len
  have hidx := hG.idx
  rcases hL with ⟨rfl, rfl, rfl, hp⟩ | hL
  · have hnd : nd (s.n ++ [nArg a (-1)]) s.n.length = nArg ((s.n.length : Int) - 1) (-1) := by rw [nd_last, hidx]
    refine ⟨⟨l ++ [nArg a (-1)], by rw [hl]; simp⟩, by simp; omega, by omega, by simp, by simp; omega, ⟨f, ?_⟩, ?_⟩
    · rw [hlen]
      exact ⟨by omega, by simp, _, hsp, .inl ⟨rfl, hnd, rfl⟩⟩
    · rw [hlen, axt_one (by omega) hnd, htx]; omega
  · obtain ⟨f', hf'⟩ := hL.lk
    have hk := hL.pos
    have hm : 1 ≤ st.n.length := by have := hL.lt; omega
    have hnd : nd (s.n ++ [nArg a link]) s.n.length = nArg ((s.n.length : Int) - 1) ((st.n.length : Int) - 1) := by rw [nd_last, hidx, hL.link]
    have hLk : Lk (Sp (s.n ++ [nArg a link]) (max f f')) (s.n ++ [nArg a link]) rg k.toNat (st.n.length - 1) N0.length := by
      rw [hl, List.append_assoc]
      exact Lk.app (fun i lo a h => Sp.app _ _ _ _ (h.mono (Nat.le_max_right f f'))) _ _ _ hf'
    refine ⟨?_, by simp; omega, by omega, by simp, by simp; have := hL.lt; omega, ⟨max f f', ?_⟩, ?_⟩
    · obtain ⟨l0, hl0⟩ := hL.ext
      exact ⟨l0 ++ l ++ [nArg a link], by rw [hl, hl0]; simp⟩
    · rw [hlen, show (k + 1).toNat = k.toNat + 1 from by omega]
      exact ⟨by omega, by simp, _, hsp.mono (Nat.le_max_left f f'), .inr ⟨by omega, hm, hnd, hLk⟩⟩
    · have hax : axt (s.n ++ [nArg a link]) (st.n.length - 1) = axt st.n (st.n.length - 1) := by
        rw [hl, List.append_assoc]; exact axt_app hf' _
      rw [hlen, axt_more (by omega) hm (by omega) hnd hLk, hax, htx]
      have := hL.len
      simp only [List.length_append, List.length_cons]
      omega
theorem par_callLoop {f : Nat} {ex : Bool → PS → PS × Int} (hex : ExP b n f ex) (fn : Int) (N0 : List Nd) (p0 : Nat) :
    ∀ (m : Nat) (st : PS) (link k : Int), st.err = 0 → st.i ≤ n → n - st.i < m → n - st.i < f →
      ((k = 0 ∧ link = -1 ∧ st.n = N0 ∧ p0 ≤ st.i) ∨ Links st.n N0 (rangeOK fn) link k p0 st.i) →
      ((callLoop b n ex fn m st link k).1.err ≠ 0 → 0 ≤ (callLoop b n ex fn m st link k).1.pos ∧ (callLoop b n ex fn m st link k).1.pos ≤ n) ∧
      ((callLoop b n ex fn m st link k).1.err = 0 → st.i < (callLoop b n ex fn m st link k).1.i ∧ (callLoop b n ex fn m st link k).1.i ≤ n ∧
        Links (callLoop b n ex fn m st link k).1.n N0 (rangeOK fn) (callLoop b n ex fn m st link k).2.1 (callLoop b n ex fn m st link k).2.2 p0 (callLoop b n ex fn m st link k).1.i)
  | 0, st, link, k, h0, hi, hm, hf, hL => by omega
  | m + 1, st, link, k, h0, hi, hm, hf, hL => by
    have hS := hex (rangeOK fn) st h0 hi hf
    unfold callLoop
    rw [if_neg (by simp [h0])]
    generalize ex (rangeOK fn) st = r at hS ⊢
    obtain ⟨s, a⟩ := r
    simp only []
    by_cases he : s.err ≠ 0
    · rw [add_err he, look_err he]
      simp only []
      rw [if_neg (by decide), if_neg (by decide), fail_err (by exact he)]
      exact ⟨fun _ => hS.1 he, fun h => absurd h he⟩
    have he0 : s.err = 0 := by simpa using he
    have hG := hS.2 he0
    simp only [] at hG
    have hi1 := hG.i1
    have hi2 := hG.i2
    rcases padd_two he0 (nArg a link) with ⟨h24, e1⟩ | e1
    · rw [e1]
      have hlk := look_good (b := b) (n := n) (st := ⟨s.i, s.n ++ [nArg a link], 0, s.pos⟩) rfl hi2
      generalize hl : PS.look b n ⟨s.i, s.n ++ [nArg a link], 0, s.pos⟩ = l at hlk ⊢
      by_cases hle : l.1.err ≠ 0
      · obtain ⟨c0, p0', p1⟩ := hlk.1 hle
        simp only [c0]
        rw [if_neg (by decide), if_neg (by decide), fail_err hle]
        exact ⟨fun _ => ⟨p0', p1⟩, fun h => absurd h hle⟩
      obtain ⟨e2, g1, g2, g3⟩ := hlk.2 (by simpa using hle)
      simp only [] at e2 g1 g2 g3
      rw [e2]
      simp only [go_i]
      by_cases h44 : Ch b n s.i = 44
      · rw [if_pos h44]
        have hlt := g3 (by omega)
        have := par_callLoop hex fn N0 p0 m (PS.go (PS.go ⟨s.i, s.n ++ [nArg a link], 0, s.pos⟩ (skip b n s.i)) (skip b n s.i + 1)) (s.n.length : Int) (k + 1) rfl (by show skip b n s.i + 1 ≤ n; omega) (by show n - (skip b n s.i + 1) < m; omega) (by show n - (skip b n s.i + 1) < f; omega)
          (.inr (links_add hL hG h24 (by show s.i < skip b n s.i + 1; omega)))
        refine ⟨this.1, fun h => ?_⟩
        obtain ⟨q1, q2, q3⟩ := this.2 h
        refine ⟨?_, q2, q3⟩
        have : (PS.go (PS.go ⟨s.i, s.n ++ [nArg a link], 0, s.pos⟩ (skip b n s.i)) (skip b n s.i + 1)).i = skip b n s.i + 1 := rfl
        omega
      · rw [if_neg h44]
        by_cases h41 : Ch b n s.i = 41
        · rw [if_pos h41]
          have hlt := g3 (by omega)
          refine ⟨fun h => absurd rfl h, fun _ => ⟨by show st.i < skip b n s.i + 1; omega, by show skip b n s.i + 1 ≤ n; omega, ?_⟩⟩
          exact links_add hL hG h24 (by show s.i < skip b n s.i + 1; omega)
        · rw [if_neg h41, fail_ok (by rfl)]
          exact ⟨fun _ => ⟨by show (0 : Int) ≤ ((skip b n s.i : Nat) : Int); omega, by show ((skip b n s.i : Nat) : Int) ≤ n; omega⟩, fun h => absurd h (by show (3 : Int) ≠ 0; decide)⟩
    · rw [e1]
      simp only []
      have hne : (⟨s.i, s.n, 7, s.i⟩ : PS).err ≠ 0 := by show (7 : Int) ≠ 0; decide
      rw [look_err hne]
      simp only []
      rw [if_neg (by decide), if_neg (by decide), fail_err (by exact hne)]
      exact ⟨fun _ => ⟨by show (0 : Int) ≤ (s.i : Int); omega, by show (s.i : Int) ≤ n; omega⟩, fun h => absurd h hne⟩

theorem par_call {f F : Nat} {ex : Bool → PS → PS × Int} (hex : ExP b n f ex) (hF : n < F) {st st0 : PS} {W : List Int} (hfn : fnOf W ≠ 0) (h0 : st.err = 0) (hi : st.i < n) (hf : n - st.i ≤ f) (hn : st.n = st0.n) (hW : W.length + st0.i ≤ st.i) (rg : Bool) (hi0 : st0.i ≤ n) :
    Par n st0 (callM b n ex F (fnOf W) st0.i st) 5 rg := by
  unfold callM
  simp only []
  have hlk := look_good (b := b) (n := n) (st := st.go (st.i + 1)) h0 (by show st.i + 1 ≤ n; omega)
  generalize hl : PS.look b n (st.go (st.i + 1)) = l at hlk ⊢
  by_cases hle : l.1.err ≠ 0
  · obtain ⟨c0, p0', p1⟩ := hlk.1 hle
    simp only [c0]
    rw [if_neg (by decide)]
    obtain ⟨F', rfl⟩ : ∃ F', F = F' + 1 := ⟨F - 1, by omega⟩
    have hcl : callLoop b n ex (fnOf W) (F' + 1) l.1 (-1) 0 = (l.1, -1, 0) := by unfold callLoop; rw [if_pos hle]
    rw [hcl]
    have hce := callEnd_err (fn := fnOf W) (at_ := st0.i) (r := (l.1, -1, 0)) hle
    unfold callEnd at hce
    rw [hce]
    exact par_bad hle ⟨p0', p1⟩
  obtain ⟨e2, g1, g2, g3⟩ := hlk.2 (by simpa using hle)
  simp only [go_i] at e2 g1 g2 g3
  rw [e2]
  simp only [go_i]
  by_cases h41 : Ch b n (st.i + 1) = 41
  · rw [if_pos h41]
    exact par_fail (by exact h0) (by decide) hi0
  rw [if_neg h41]
  have hC := par_callLoop hex (fnOf W) st0.n (st.i + 1) F ((st.go (st.i + 1)).go (skip b n (st.i + 1))) (-1) 0 h0 g2 (by show n - skip b n (st.i + 1) < F; omega) (by show n - skip b n (st.i + 1) < f; omega) (.inl ⟨rfl, rfl, hn, by exact g1⟩)
  generalize callLoop b n ex (fnOf W) F ((st.go (st.i + 1)).go (skip b n (st.i + 1))) (-1) 0 = r at hC ⊢
  obtain ⟨s, link, k⟩ := r
  simp only [go_i] at hC ⊢
  by_cases he : s.err ≠ 0
  · have hce := callEnd_err (fn := fnOf W) (at_ := st0.i) (r := (s, link, k)) he
    unfold callEnd at hce
    rw [hce]
    exact par_bad he (hC.1 he)
  have he0 : s.err = 0 := by simpa using he
  obtain ⟨q1, q2, q3⟩ := hC.2 he0
  by_cases har : arity (fnOf W) k = true
  · rw [if_pos har]
    rcases padd_two he0 (nCall (fnOf W) link k) with ⟨h24, e⟩ | e
    · rw [e]
      obtain ⟨l0, hl0⟩ := q3.ext
      obtain ⟨g, hg⟩ := q3.lk
      have hlt := q3.lt
      have hnd : nd (s.n ++ [nCall (fnOf W) link k]) s.n.length = nCall (fnOf W) ((s.n.length : Int) - 1) k := by rw [nd_last, q3.link]
      have hLk : Lk (Sp (s.n ++ [nCall (fnOf W) link k]) g) (s.n ++ [nCall (fnOf W) link k]) (rangeOK (fnOf W)) k.toNat (s.n.length - 1) st0.n.length := Lk.app (fun i lo a h => Sp.app _ _ _ _ h) _ _ _ hg
      have hlen : (s.n ++ [nCall (fnOf W) link k]).length - 1 = s.n.length := by simp
      refine ⟨fun h => absurd rfl h, fun _ => ⟨by show st0.i < s.i; omega, q2, ⟨l0 ++ [nCall (fnOf W) link k], by rw [hl0]; simp⟩, by simp, by simp; omega, by simp; omega, ⟨g + 1, ?_⟩, ?_⟩⟩
      · rw [hlen]
        exact ⟨by simp, .inr (.inr (.inr ⟨fnOf W, k, by omega, hnd, har, hLk⟩))⟩
      · rw [hlen, tx_call (by omega) hnd hLk (by decide), fnOf_name hfn, axt_app hg]
        have := q3.len
        simp only [List.length_append, List.length_cons, List.length_nil]
        omega
    · rw [e]; exact par_bad (show (7 : Int) ≠ 0 by decide) ⟨by show (0 : Int) ≤ (s.i : Int); omega, by show (s.i : Int) ≤ n; omega⟩
  · rw [if_neg har]
    exact par_fail he0 (by decide) hi0

theorem par_name {f F : Nat} {ex : Bool → PS → PS × Int} (hex : ExP b n f ex) (hF : n < F) {st : PS} (h0 : st.err = 0) (hi : st.i < n) (hf : n - st.i ≤ f)
    (hw : isCap (b st.i) = true ∨ b st.i = 36) (rg : Bool) : Par n st (nameM b n ex F rg st) 5 rg := by
  have hwd : wordy (b st.i) = true := by rw [wordy_iff]; rw [isCap_iff] at hw; omega
  have hlt : st.i < wordEnd b n st.i := lt_runF hi hwd
  have hle : wordEnd b n st.i ≤ n := runF_le _ _ (by omega)
  have hin : st.i ≤ n := by omega
  have hcl := cut_length (b := b) st.i (wordEnd b n st.i)
  unfold nameM
  simp only []
  generalize wordEnd b n st.i = E at *
  generalize cut b st.i E = W at *
  by_cases hT : W = wTrue
  · rw [if_pos hT]
    exact par_leaf (st := st.go E) h0 hlt hle rfl (.inr (.inr (.inl rfl))) (by show (leafTxt (nBool 1)).length + st.i ≤ E; rw [hT] at hcl; have : wTrue.length = 4 := rfl; have : (leafTxt (nBool 1)).length = 4 := rfl; omega)
  rw [if_neg hT]
  by_cases hFa : W = wFalse
  · rw [if_pos hFa]
    exact par_leaf (st := st.go E) h0 hlt hle rfl (.inr (.inl rfl)) (by show (leafTxt (nBool 0)).length + st.i ≤ E; rw [hFa] at hcl; have : wFalse.length = 5 := rfl; have : (leafTxt (nBool 0)).length = 5 := rfl; omega)
  rw [if_neg hFa]
  have hlk := look_good (b := b) (n := n) (st := st.go E) h0 hle
  cases hr : refOf W with
  | none =>
    simp only []
    by_cases hfn : fnOf W = 0
    · rw [if_pos hfn]
      exact par_fail (by exact h0) (by decide) hin
    rw [if_neg hfn]
    by_cases hle2 : ((st.go E).look b n).1.err ≠ 0
    · obtain ⟨c0, p0', p1⟩ := hlk.1 hle2
      rw [if_neg (by rw [c0]; decide), fail_err hle2]
      exact par_bad hle2 ⟨p0', p1⟩
    obtain ⟨e2, g1, g2, g3⟩ := hlk.2 (by simpa using hle2)
    simp only [go_i] at e2 g1 g2 g3
    rw [e2]
    simp only [go_i]
    by_cases h40 : Ch b n E = 40
    · rw [if_pos h40]
      have hlt2 := g3 (by omega)
      exact par_call hex hF (st := (st.go E).go (skip b n E)) (st0 := st) hfn h0 hlt2 (by show n - skip b n E ≤ f; omega) rfl (by show W.length + st.i ≤ skip b n E; omega) rg hin
    · rw [if_neg h40]
      exact par_fail (by exact h0) (by decide) hin
  | some r =>
    simp only []
    obtain ⟨hrt, hri⟩ := refOf_txt hr
    by_cases hle2 : ((st.go E).look b n).1.err ≠ 0
    · obtain ⟨c0, p0', p1⟩ := hlk.1 hle2
      rw [if_neg (by rw [c0]; decide), add_err hle2]
      exact par_bad hle2 ⟨p0', p1⟩
    obtain ⟨e2, g1, g2, g3⟩ := hlk.2 (by simpa using hle2)
    simp only [go_i] at e2 g1 g2 g3
    rw [e2]
    simp only [go_i]
    by_cases h58 : Ch b n E = 58
    · rw [if_pos h58]
      have hlt2 := g3 (by omega)
      have hgo : ((st.go E).go (skip b n E)).go (skip b n E + 1) = st.go (skip b n E + 1) := rfl
      rw [hgo]
      have hlk3 := look_good (b := b) (n := n) (st := st.go (skip b n E + 1)) h0 (by show skip b n E + 1 ≤ n; omega)
      by_cases hle3 : ((st.go (skip b n E + 1)).look b n).1.err ≠ 0
      · obtain ⟨c0, p0', p1⟩ := hlk3.1 hle3
        split
        · rw [fail_err (by exact hle3)]; exact par_bad hle3 ⟨p0', p1⟩
        · split
          · rw [add_err (by exact hle3)]; exact par_bad hle3 ⟨p0', p1⟩
          · rw [fail_err (by exact hle3)]; exact par_bad hle3 ⟨p0', p1⟩
      obtain ⟨e3, k1, k2, k3⟩ := hlk3.2 (by simpa using hle3)
      simp only [go_i] at e3 k1 k2 k3
      rw [e3]
      simp only [go_i]
      have hc2 := cut_length (b := b) (skip b n (skip b n E + 1)) (wordEnd b n (skip b n (skip b n E + 1)))
      have hw2 : wordEnd b n (skip b n (skip b n E + 1)) ≤ n := runF_le _ _ k2
      have hw1 : skip b n (skip b n E + 1) ≤ wordEnd b n (skip b n (skip b n E + 1)) := le_runF _ _
      cases hr2 : refOf (cut b (skip b n (skip b n E + 1)) (wordEnd b n (skip b n (skip b n E + 1)))) with
      | none => exact par_fail (by exact h0) (by decide) k2
      | some r2 =>
        simp only []
        obtain ⟨hrt2, hri2⟩ := refOf_txt hr2
        by_cases hrg : rg = true
        · rw [if_pos hrg]
          refine par_leaf (st := (((st.go (skip b n E + 1)).go (skip b n (skip b n E + 1))).go (wordEnd b n (skip b n (skip b n E + 1))))) h0 (by show st.i < wordEnd b n (skip b n (skip b n E + 1)); omega) hw2 rfl (.inr (.inr (.inr (.inr (.inr ⟨hrg, r, r2, rfl, hri, hri2⟩))))) ?_
          show (refTxt r ++ 58 :: refTxt r2).length + st.i ≤ wordEnd b n (skip b n (skip b n E + 1))
          rw [hrt, hrt2]
          simp only [List.length_append, List.length_cons]
          omega
        · rw [if_neg hrg]
          exact par_fail (by exact h0) (by decide) hin
    · rw [if_neg h58]
      refine par_leaf (st := (st.go E).go (skip b n E)) h0 (by show st.i < skip b n E; omega) g2 rfl (.inr (.inr (.inr (.inl ⟨r, rfl, hri⟩)))) ?_
      show (refTxt r).length + st.i ≤ skip b n E
      rw [hrt]; omega
theorem par_go {st s : PS} {v need : Int} {rg : Bool} {i : Nat} (h : Got n (st.go i) s v need rg) (hi : st.i ≤ i) : Got n st s v need rg :=
  ⟨Nat.lt_of_le_of_lt hi h.i1, h.i2, h.ext, h.idx, h.lt, h.max, h.sp, by have := h.len; simp only [go_i] at this; omega⟩
theorem par_from {st : PS} {r : PS × Int} {need : Int} {rg : Bool} {i : Nat} (h : Par n (st.go i) r need rg) (hi : st.i ≤ i) : Par n st r need rg := ⟨h.1, fun e => par_go (h.2 e) hi⟩
theorem par_atom {f F : Nat} {ex : Bool → PS → PS × Int} (hex : ExP b n f ex) (hF : n < F) {st : PS} (h0 : st.err = 0) (hi : st.i ≤ n) (hf : n - st.i ≤ f) (rg : Bool) :
    Par n st (atomM b n ex F rg st) 5 rg := by
  unfold atomM
  have hlk := look_good (b := b) (n := n) (st := st) h0 hi
  rcases (look_two (b := b) (n := n) h0).symm with ⟨e2, _⟩ | ⟨e2, _⟩
  · have hsk := skip_le (b := b) (n := n) hi
    rw [e2]
    simp only []
    rw [if_neg (by decide), if_neg (by decide), if_neg (by decide), if_neg (by decide), fail_err (by show (2 : Int) ≠ 0; decide)]
    exact par_bad (show (2 : Int) ≠ 0 by decide) ⟨by show (0 : Int) ≤ ((skip b n st.i : Nat) : Int); omega, by show ((skip b n st.i : Nat) : Int) ≤ n; omega⟩
  obtain ⟨-, g1, g2, g3⟩ := hlk.2 (by rw [e2]; exact h0)
  rw [e2]
  simp only [show (st.go (skip b n st.i)).i = skip b n st.i from rfl]
  have hch : skip b n st.i < n → Ch b n st.i = b (skip b n st.i) := fun h => by unfold Ch; rw [if_pos h]
  by_cases hd : isDig (Ch b n st.i) = true
  · rw [if_pos hd]
    have hlt := g3 (by rw [isDig_iff] at hd; omega)
    rw [hch hlt] at hd
    have h1 : skip b n st.i < digEnd b n (skip b n st.i) := lt_runF hlt hd
    have h2 : digEnd b n (skip b n st.i) ≤ n := runF_le _ _ g2
    by_cases h9 : 9 < digEnd b n (skip b n st.i) - skip b n st.i
    · rw [if_pos h9]; exact par_fail (by exact h0) (by decide) g2
    · rw [if_neg h9]
      have hb := numVal_bd (b := b) (i := skip b n st.i) (digEnd b n (skip b n st.i) - skip b n st.i) (by omega) (fun j c d => runF_all _ _ j c (by show j < digEnd b n (skip b n st.i); omega))
      have hb9 : ((10 ^ (digEnd b n (skip b n st.i) - skip b n st.i) : Nat) : Int) ≤ 1000000000 := by
        have : 10 ^ (digEnd b n (skip b n st.i) - skip b n st.i) ≤ 10 ^ 9 := Nat.pow_le_pow_right (by decide) (by omega)
        have h10 : (10 : Nat) ^ 9 = 1000000000 := by decide
        omega
      refine par_leaf (st := (st.go (skip b n st.i)).go (digEnd b n (skip b n st.i))) h0 (by show st.i < digEnd b n (skip b n st.i); omega) h2 rfl (.inl ⟨_, rfl, hb.1, by omega⟩) ?_
      show (dec (numVal b (skip b n st.i) (digEnd b n (skip b n st.i) - skip b n st.i))).length + st.i ≤ digEnd b n (skip b n st.i)
      have := decF_len 20 (numVal b (skip b n st.i) (digEnd b n (skip b n st.i) - skip b n st.i)).toNat (digEnd b n (skip b n st.i) - skip b n st.i) [] (by omega) (by omega)
      unfold dec
      simp only [List.length_nil] at this
      omega
  rw [if_neg hd]
  by_cases hc : isCap (Ch b n st.i) = true ∨ Ch b n st.i = 36
  · rw [if_pos hc]
    have hlt := g3 (by rw [isCap_iff] at hc; omega)
    rw [hch hlt] at hc
    exact par_from (i := skip b n st.i) (par_name hex hF (st := st.go (skip b n st.i)) h0 hlt (by show n - skip b n st.i ≤ f; omega) hc rg) g1
  rw [if_neg hc]
  by_cases h35 : Ch b n st.i = 35
  · rw [if_pos h35]
    by_cases hd2 : skip b n st.i + 1 < n ∧ b (skip b n st.i + 1) = 35
    · rw [if_pos hd2]
      refine par_leaf (st := (st.go (skip b n st.i)).go (skip b n st.i + 2)) h0 (by show st.i < skip b n st.i + 2; omega) (by show skip b n st.i + 2 ≤ n; omega) rfl (.inr (.inr (.inr (.inr (.inl rfl))))) ?_
      show 2 + st.i ≤ skip b n st.i + 2
      omega
    · rw [if_neg hd2]; exact par_fail (by exact h0) (by decide) g2
  rw [if_neg h35]
  by_cases h40 : Ch b n st.i = 40
  · rw [if_pos h40]
    have hlt := g3 (by omega)
    have hS := hex false ((st.go (skip b n st.i)).go (skip b n st.i + 1)) h0 (by show skip b n st.i + 1 ≤ n; omega) (by show n - (skip b n st.i + 1) < f; omega)
    generalize ex false ((st.go (skip b n st.i)).go (skip b n st.i + 1)) = r at hS ⊢
    obtain ⟨s, v⟩ := r
    simp only []
    by_cases he : s.err ≠ 0
    · rw [look_err he]
      simp only []
      rw [if_neg (by decide), fail_err (by exact he)]
      exact par_bad he (hS.1 he)
    have he0 : s.err = 0 := by simpa using he
    have hG := hS.2 he0
    simp only [] at hG
    have hi1 := hG.i1
    simp only [go_i] at hi1
    have hlk3 := look_good (b := b) (n := n) (st := s) he0 hG.i2
    by_cases hle3 : (s.look b n).1.err ≠ 0
    · obtain ⟨c0, p0', p1⟩ := hlk3.1 hle3
      rw [c0, if_neg (by decide), fail_err (by exact hle3)]
      exact par_bad hle3 ⟨p0', p1⟩
    obtain ⟨e3, k1, k2, k3⟩ := hlk3.2 (by simpa using hle3)
    rw [e3]
    simp only [go_i]
    by_cases h41 : Ch b n s.i = 41
    · rw [if_pos h41]
      have hlt3 := k3 (by omega)
      refine ⟨fun h => absurd he0 h, fun _ => ⟨by show st.i < skip b n s.i + 1; omega, by show skip b n s.i + 1 ≤ n; omega, hG.ext, hG.idx, hG.lt, hG.max, ?_, ?_⟩⟩
      · obtain ⟨g, hg⟩ := hG.sp
        exact ⟨g, hg.arg⟩
      · show (tx s.n (s.n.length - 1) 5).length + st.i ≤ skip b n s.i + 1
        have h1 := tx_plus2 (L := s.n) (i := s.n.length - 1) 5 1
        have h2 := hG.len
        simp only [go_i] at h2
        omega
    · rw [if_neg h41]; exact par_fail (by exact he0) (by decide) k2
  rw [if_neg h40]
  exact par_fail (by exact h0) (by decide) g2
theorem par_unary {f F : Nat} {ex : Bool → PS → PS × Int} (hex : ExP b n f ex) (hF : n < F) :
    ∀ (m : Nat) (st : PS) (rg : Bool), st.err = 0 → st.i ≤ n → n - st.i < m → n - st.i ≤ f → Par n st (unaryM b n ex F m rg st) 4 rg
  | 0, st, rg, h0, hi, hm, hf => by omega
  | m + 1, st, rg, h0, hi, hm, hf => by
    unfold unaryM
    have hlk := look_good (b := b) (n := n) (st := st) h0 hi
    simp only []
    by_cases hle : (st.look b n).1.err ≠ 0
    · obtain ⟨c0, p0', p1⟩ := hlk.1 hle
      have hg : ∀ (s : PS), s.err ≠ 0 → (0 ≤ s.pos ∧ s.pos ≤ (n : Int)) → Par n st (atomM b n ex F rg s) 4 rg := by
        intro s hs hp
        unfold atomM
        rw [look_err hs]
        simp only []
        rw [if_neg (by decide), if_neg (by decide), if_neg (by decide), if_neg (by decide), fail_err (by exact hs)]
        exact par_bad hs hp
      rw [c0, if_neg (by decide)]
      exact hg _ hle ⟨p0', p1⟩
    obtain ⟨e2, g1, g2, g3⟩ := hlk.2 (by simpa using hle)
    rw [e2]
    simp only [go_i]
    by_cases h45 : Ch b n st.i = 45
    · rw [if_pos h45]
      have hlt := g3 (by omega)
      have ih := par_unary hex hF m ((st.go (skip b n st.i)).go (skip b n st.i + 1)) false h0 (by show skip b n st.i + 1 ≤ n; omega) (by show n - (skip b n st.i + 1) < m; omega) (by show n - (skip b n st.i + 1) ≤ f; omega)
      generalize unaryM b n ex F m false ((st.go (skip b n st.i)).go (skip b n st.i + 1)) = r at ih ⊢
      obtain ⟨s, a⟩ := r
      simp only []
      by_cases he : s.err ≠ 0
      · rw [add_err he]; exact par_bad he (ih.1 he)
      have he0 : s.err = 0 := by simpa using he
      have hG := ih.2 he0
      simp only [] at hG
      have hi1 := hG.i1
      have hi2 := hG.i2
      have hlt := hG.lt
      have hlen := hG.len
      simp only [go_i] at hi1 hlen
      obtain ⟨l, hl⟩ := hG.ext
      obtain ⟨g, hg⟩ := hG.sp
      rcases padd_two he0 (nNeg a) with ⟨h24, e⟩ | e
      · rw [e]
        have hL : (s.n ++ [nNeg a]).length - 1 = s.n.length := by simp
        have hnd : nd (s.n ++ [nNeg a]) s.n.length = nNeg ((s.n.length : Int) - 1) := by rw [nd_last, hG.idx]
        have hlt' : st.n.length < s.n.length := hlt
        refine ⟨fun h => absurd rfl h, fun _ => ⟨by show st.i < s.i; omega, hi2, ⟨l ++ [nNeg a], by show s.n ++ [nNeg a] = _; rw [hl]; simp [PS.go]⟩, by simp, by simp; omega, by simp; omega, ⟨g + 1, ?_⟩, ?_⟩⟩
        · rw [hL]
          exact ⟨by simp, .inr (.inl ⟨by omega, hnd, Sp.app _ _ _ _ hg⟩)⟩
        · rw [hL, tx_neg (by omega) hnd, bracket_no (by decide), tx_app hg]
          simp only [List.length_cons]
          omega
      · rw [e]; exact par_bad (show (7 : Int) ≠ 0 by decide) ⟨by show (0 : Int) ≤ (s.i : Int); omega, by show (s.i : Int) ≤ n; omega⟩
    · rw [if_neg h45]
      exact (par_from (i := skip b n st.i) (par_atom hex hF (st := st.go (skip b n st.i)) h0 g2 (by show n - skip b n st.i ≤ f; omega) rg) g1).weak (by decide)
/-- An operator joins two operands. -/
theorem par_bin {st0 st s : PS} {a y op need : Int} {rg : Bool} {w : Nat} {i : Nat} (hA : Got n st0 st a (leftNeed need) rg) (hk : isRange st.n a = false) (hB : Got n (st.go (i + w)) s y (need + 1) false) (hi : st.i ≤ i) (he0 : s.err = 0)
    (ho : 1 ≤ op ∧ op ≤ 10) (hlv : strength op = need) (hw : (opTxt op).length ≤ w) : Par n st0 (s.add (nBin op a y)) need rg := by
  have h1 := hA.i1
  have h2 := hB.i1
  have h3 := hB.i2
  have h4 := hA.lt
  have h5 : st.n.length < s.n.length := hB.lt
  have h6 := hA.len
  have h7 := hB.len
  simp only [go_i] at h2 h7
  obtain ⟨l1, hl1⟩ := hA.ext
  obtain ⟨l2, hl2⟩ := hB.ext
  have hl2' : s.n = st.n ++ l2 := hl2
  obtain ⟨f1, hf1⟩ := hA.sp
  obtain ⟨f2, hf2⟩ := hB.sp
  have hf2' : Sp s.n f2 (s.n.length - 1) st.n.length false := hf2
  have hnk : (nd st.n (st.n.length - 1)).kind ≠ 4 := by
    intro hh
    have e1 : a = ((st.n.length - 1 : Nat) : Int) := by rw [hA.idx]; omega
    unfold isRange at hk
    rw [e1] at hk
    rw [show (((st.n.length - 1 : Nat) : Int)).toNat = st.n.length - 1 from by omega, List.getElem?_eq_getElem (by omega : st.n.length - 1 < st.n.length)] at hk
    unfold nd at hh
    rw [List.getElem?_eq_getElem (by omega : st.n.length - 1 < st.n.length)] at hh
    simp at hh
    simp [hh] at hk
  have hf1' := hf1.noarg hnk
  rcases padd_two he0 (nBin op a y) with ⟨h24, e⟩ | e
  · rw [e]
    have hL : (s.n ++ [nBin op a y]).length - 1 = s.n.length := by simp
    have hnd : nd (s.n ++ [nBin op a y]) s.n.length = nBin op ((st.n.length : Int) - 1) ((s.n.length : Int) - 1) := by rw [nd_last, hA.idx, hB.idx]
    have hlev : level (nd (s.n ++ [nBin op a y]) s.n.length) = need := by rw [hnd, ← hlv]; rfl
    have hSB : Sp (s.n ++ [nBin op a y]) (max f1 f2) (s.n.length - 1) st.n.length false := (Sp.app _ _ _ _ hf2').mono (Nat.le_max_right _ _)
    have hSA : Sp (s.n ++ [nBin op a y]) (max f1 f2) (st.n.length - 1) st0.n.length false := by
      rw [hl2', List.append_assoc]; exact (Sp.app _ _ _ _ hf1').mono (Nat.le_max_left _ _)
    have hta : tx (s.n ++ [nBin op a y]) (st.n.length - 1) (leftNeed need) = tx st.n (st.n.length - 1) (leftNeed need) := by
      rw [hl2', List.append_assoc]; exact tx_app hf1 _ _
    refine ⟨fun h => absurd rfl h, fun _ => ⟨by show st0.i < s.i; omega, h3, ⟨l1 ++ l2 ++ [nBin op a y], by show s.n ++ [nBin op a y] = _; rw [hl2', hl1]; simp⟩, by simp, by simp; omega, by simp; omega, ⟨max f1 f2 + 1, ?_⟩, ?_⟩⟩
    · rw [hL]
      exact ⟨by simp, .inr (.inr (.inl ⟨op, st.n.length, ho.1, ho.2, by omega, by omega, hnd, hSB, hSA⟩))⟩
    · rw [hL, tx_bin (by omega) (by omega) hnd hSB hSA, hlev, bracket_no (Int.le_refl _), hta, tx_app hf2']
      simp only [List.length_append]
      omega
  · rw [e]; exact par_bad (show (7 : Int) ≠ 0 by decide) ⟨by show (0 : Int) ≤ (s.i : Int); omega, by show (s.i : Int) ≤ n; omega⟩
/-- A loop of a chain. -/
theorem par_loop {f : Nat} {opOf : Int → Int} {nxt : PS → PS × Int} {lv : Int} (h00 : opOf 0 = 0) (hop : ∀ c, opOf c ≠ 0 → 1 ≤ opOf c ∧ opOf c ≤ 10 ∧ strength (opOf c) = lv ∧ (opTxt (opOf c)).length = 1) (hlv : leftNeed lv = lv)
    (hnx : ∀ st : PS, st.err = 0 → st.i ≤ n → n - st.i ≤ f → Par n st (nxt st) (lv + 1) false) (st0 : PS) (rg : Bool) :
    ∀ (m : Nat) (st : PS) (a : Int), st.err = 0 → n - st.i < m → n - st.i ≤ f → Got n st0 st a lv rg → Par n st0 (chainLoop b n opOf nxt m st a) lv rg
  | 0, st, a, h0, hm, hf, hA => by omega
  | m + 1, st, a, h0, hm, hf, hA => by
    unfold chainLoop
    rw [if_neg (by simp [h0])]
    have hi := hA.i2
    have hlk := look_good (b := b) (n := n) (st := st) h0 hi
    simp only []
    by_cases hle : (st.look b n).1.err ≠ 0
    · obtain ⟨c0, p0', p1⟩ := hlk.1 hle
      rw [c0, if_pos h00]
      exact par_bad hle ⟨p0', p1⟩
    obtain ⟨e2, g1, g2, g3⟩ := hlk.2 (by simpa using hle)
    rw [e2]
    simp only [go_i]
    by_cases ho : opOf (Ch b n st.i) = 0
    · rw [if_pos ho]
      exact ⟨fun h => absurd h0 h, fun _ => ⟨by have := hA.i1; show st0.i < skip b n st.i; omega, g2, hA.ext, hA.idx, hA.lt, hA.max, hA.sp, by have := hA.len; show _ ≤ skip b n st.i; exact Nat.le_trans this g1⟩⟩
    rw [if_neg ho]
    have hlt := g3 (fun h => ho (by rw [h]; exact h00))
    by_cases hr : isRange st.n a = true
    · rw [if_pos (by exact hr)]; exact par_fail (by exact h0) (by decide) g2
    rw [if_neg (by exact hr)]
    have hgo : (st.go (skip b n st.i)).go (skip b n st.i + 1) = st.go (skip b n st.i + 1) := rfl
    rw [hgo]
    have hS := hnx (st.go (skip b n st.i + 1)) h0 (by show skip b n st.i + 1 ≤ n; omega) (by show n - (skip b n st.i + 1) ≤ f; omega)
    generalize nxt (st.go (skip b n st.i + 1)) = r at hS ⊢
    obtain ⟨s, y⟩ := r
    simp only []
    by_cases he : s.err ≠ 0
    · rw [add_err he]
      have : ∀ m, chainLoop b n opOf nxt m s (-1) = (s, -1) := by
        intro m; cases m <;> simp [chainLoop, he]
      rw [this]
      exact par_bad he (hS.1 he)
    have he0 : s.err = 0 := by simpa using he
    have hB := hS.2 he0
    simp only [] at hB
    obtain ⟨o1, o2, o3, o4⟩ := hop _ ho
    have hP := par_bin (st0 := st0) (st := st) (s := s) (a := a) (y := y) (op := opOf (Ch b n st.i)) (need := lv) (rg := rg) (w := 1) (i := skip b n st.i) (by rw [hlv]; exact hA) (by simpa using hr) hB g1 he0 ⟨o1, o2⟩ o3 (by omega)
    have hi1 := hB.i1
    simp only [go_i] at hi1
    rcases padd_two he0 (nBin (opOf (Ch b n st.i)) a y) with ⟨h24, e⟩ | e
    · rw [e] at hP ⊢
      exact par_loop h00 hop hlv hnx st0 rg m _ _ rfl (by show n - s.i < m; omega) (by show n - s.i ≤ f; omega) (hP.2 rfl)
    · rw [e] at hP ⊢
      have : ∀ m, chainLoop b n opOf nxt m ⟨s.i, s.n, 7, s.i⟩ (-1) = (⟨s.i, s.n, 7, s.i⟩, -1) := by
        intro m; cases m <;> simp [chainLoop]
      simp only []
      rw [this]
      exact par_bad (show (7 : Int) ≠ 0 by decide) (hP.1 (show (7 : Int) ≠ 0 by decide))
theorem mulOp_facts (c : Int) (h : mulOp c ≠ 0) : 1 ≤ mulOp c ∧ mulOp c ≤ 10 ∧ strength (mulOp c) = 3 ∧ (opTxt (mulOp c)).length = 1 := by
  rw [mulOp_ne] at h; rcases h with h | h <;> rw [h] <;> decide
theorem addOp_facts (c : Int) (h : addOp c ≠ 0) : 1 ≤ addOp c ∧ addOp c ≤ 10 ∧ strength (addOp c) = 2 ∧ (opTxt (addOp c)).length = 1 := by
  rw [addOp_ne] at h; rcases h with h | h <;> rw [h] <;> decide
theorem cmpOp_facts (c d : Int) : 1 ≤ (cmpOp c d).1 ∧ (cmpOp c d).1 ≤ 10 ∧ strength (cmpOp c d).1 = 1 ∧ (opTxt (cmpOp c d).1).length = (cmpOp c d).2 := by
  unfold cmpOp; repeat' split
  all_goals decide
theorem par_chain3 {f F : Nat} {ex : Bool → PS → PS × Int} (hex : ExP b n f ex) (hF : n < F) {st : PS} (rg : Bool) (h0 : st.err = 0) (hi : st.i ≤ n) (hf : n - st.i ≤ f) : Par n st (chain3 b n ex F rg st) 3 rg := by
  have hS := par_unary hex hF F st rg h0 hi (by omega) hf
  unfold chain3
  generalize unaryM b n ex F F rg st = r at hS ⊢
  obtain ⟨s, a⟩ := r
  simp only []
  by_cases he : s.err ≠ 0
  · have : ∀ m, ∃ v, chainLoop b n mulOp (unaryM b n ex F F false) m s a = (s, v) := by
      intro m; cases m <;> simp [chainLoop, he]
    obtain ⟨v, hv⟩ := this F
    rw [hv]
    exact par_bad he (hS.1 he)
  have he0 : s.err = 0 := by simpa using he
  have hG := hS.2 he0
  simp only [] at hG
  have := hG.i1
  exact par_loop (f := f) (by decide) mulOp_facts (by decide) (fun st h0 hi hf => par_unary hex hF F st false h0 hi (by omega) hf) st rg F s a he0 (by omega) (by omega) (hG.weak (by decide))
theorem par_chain2 {f F : Nat} {ex : Bool → PS → PS × Int} (hex : ExP b n f ex) (hF : n < F) {st : PS} (rg : Bool) (h0 : st.err = 0) (hi : st.i ≤ n) (hf : n - st.i ≤ f) : Par n st (chain2 b n ex F rg st) 2 rg := by
  have hS := par_chain3 hex hF rg h0 hi hf
  unfold chain2
  generalize chain3 b n ex F rg st = r at hS ⊢
  obtain ⟨s, a⟩ := r
  simp only []
  by_cases he : s.err ≠ 0
  · have : ∀ m, ∃ v, chainLoop b n addOp (chain3 b n ex F false) m s a = (s, v) := by
      intro m; cases m <;> simp [chainLoop, he]
    obtain ⟨v, hv⟩ := this F
    rw [hv]
    exact par_bad he (hS.1 he)
  have he0 : s.err = 0 := by simpa using he
  have hG := hS.2 he0
  simp only [] at hG
  have := hG.i1
  exact par_loop (f := f) (by decide) addOp_facts (by decide) (fun st h0 hi hf => par_chain3 hex hF false h0 hi hf) st rg F s a he0 (by omega) (by omega) (hG.weak (by decide))
theorem par_expr {f F : Nat} {ex : Bool → PS → PS × Int} (hex : ExP b n f ex) (hF : n < F) {st : PS} (rg : Bool) (h0 : st.err = 0) (hi : st.i ≤ n) (hf : n - st.i ≤ f) : Par n st (exprM b n ex F rg st) 1 rg := by
  have hS := par_chain2 hex hF rg h0 hi hf
  unfold exprM
  generalize chain2 b n ex F rg st = r at hS ⊢
  obtain ⟨s, a⟩ := r
  simp only []
  by_cases he : s.err ≠ 0
  · rw [look_err he]
    simp only []
    rw [if_neg (by decide)]
    exact par_bad he (hS.1 he)
  have he0 : s.err = 0 := by simpa using he
  have hG := hS.2 he0
  simp only [] at hG
  have hlk := look_good (b := b) (n := n) (st := s) he0 hG.i2
  by_cases hle : (s.look b n).1.err ≠ 0
  · obtain ⟨c0, p0', p1⟩ := hlk.1 hle
    rw [c0, if_neg (by decide)]
    exact par_bad hle ⟨p0', p1⟩
  obtain ⟨e2, g1, g2, g3⟩ := hlk.2 (by simpa using hle)
  rw [e2]
  simp only [go_i]
  by_cases hc : isCmp (Ch b n s.i) = true
  · rw [if_pos hc]
    have hlt := g3 (by rw [isCmp_iff] at hc; omega)
    by_cases hr : isRange s.n a = true
    · rw [if_pos (by exact hr)]; exact par_fail (by exact he0) (by decide) g2
    rw [if_neg (by exact hr)]
    obtain ⟨o1, o2, o3, o4⟩ := cmpOp_facts (Ch b n s.i) (nextB b n (skip b n s.i))
    have hw1 := (cmpOp_w (Ch b n s.i) (nextB b n (skip b n s.i))).1
    have hw2 := cmpOp_fits (b := b) (n := n) (c := Ch b n s.i) hlt
    generalize cmpOp (Ch b n s.i) (nextB b n (skip b n s.i)) = cw at *
    have hi1 := hG.i1
    have hS2 := par_chain2 hex hF (st := s.go (skip b n s.i + cw.2)) false he0 hw2 (by show n - (skip b n s.i + cw.2) ≤ f; omega)
    have hgo : (s.go (skip b n s.i)).go (skip b n s.i + cw.2) = s.go (skip b n s.i + cw.2) := rfl
    rw [hgo]
    generalize chain2 b n ex F false (s.go (skip b n s.i + cw.2)) = r2 at hS2 ⊢
    obtain ⟨u, y⟩ := r2
    simp only []
    by_cases hu : u.err ≠ 0
    · rw [add_err hu]; exact par_bad hu (hS2.1 hu)
    have hu0 : u.err = 0 := by simpa using hu
    exact par_bin (st0 := st) (st := s) (s := u) (a := a) (y := y) (op := cw.1) (need := 1) (rg := rg) (w := cw.2) (i := skip b n s.i) hG (by simpa using hr) (hS2.2 hu0) g1 hu0 ⟨o1, o2⟩ o3 (by omega)
  · rw [if_neg hc]
    exact ⟨fun h => absurd he0 h, fun _ => ⟨by have := hG.i1; show st.i < skip b n s.i; omega, g2, hG.ext, hG.idx, hG.lt, hG.max, hG.sp, by have := (hG.weak (need' := 1) (by decide)).len; show _ ≤ skip b n s.i; exact Nat.le_trans this g1⟩⟩
theorem exprD_par : ∀ f, ExP b n f (exprD b n f)
  | 0 => fun rg st h0 hi hf => by omega
  | f + 1 => fun rg st h0 hi hf => par_expr (exprD_par f) (Nat.lt_succ_self n) rg h0 hi (by omega)
end
/-! ### All references of a lawful span are lawful -/
theorem refIn_rz : refIn rz := ⟨by decide, by decide, by decide, by decide⟩
theorem leaf_refs {x : Nd} {arg : Bool} (h : Leaf x arg) : refIn x.r1 ∧ refIn x.r2 := by
  rcases h with ⟨v, e, _⟩ | e | e | ⟨r, e, hr⟩ | e | ⟨_, r, s, e, hr, hs⟩ <;> rw [e]
  · exact ⟨refIn_rz, refIn_rz⟩
  · exact ⟨refIn_rz, refIn_rz⟩
  · exact ⟨refIn_rz, refIn_rz⟩
  · exact ⟨hr, refIn_rz⟩
  · exact ⟨refIn_rz, refIn_rz⟩
  · exact ⟨hr, hs⟩
theorem lk_refs {L : List Nd} {S : Nat → Nat → Bool → Prop} {rg : Bool} (hS : ∀ i lo a, S i lo a → ∀ j, lo ≤ j → j ≤ i → refIn (nd L j).r1 ∧ refIn (nd L j).r2) :
    ∀ (k i lo : Nat), Lk S L rg k i lo → ∀ j, lo ≤ j → j ≤ i → refIn (nd L j).r1 ∧ refIn (nd L j).r2
  | 0, _, _, h, _, _, _ => h.elim
  | k + 1, i, lo, h, j, h1, h2 => by
    obtain ⟨a1, a2, m, h3, h4⟩ := h
    by_cases e : j = i
    · subst e
      rcases h4 with ⟨_, e, _⟩ | ⟨_, _, e, _⟩ <;> rw [e] <;> exact ⟨refIn_rz, refIn_rz⟩
    · by_cases hm : m ≤ j
      · exact hS _ _ _ h3 j hm (by omega)
      · rcases h4 with ⟨_, _, e⟩ | ⟨_, _, _, d⟩
        · omega
        · exact lk_refs hS k _ _ d j h1 (by omega)
theorem sp_refs {L : List Nd} : ∀ (f i lo : Nat) (arg : Bool), Sp L f i lo arg → ∀ j, lo ≤ j → j ≤ i → refIn (nd L j).r1 ∧ refIn (nd L j).r2
  | 0, _, _, _, h, _, _, _ => h.elim
  | f + 1, i, lo, arg, h, j, h1, h2 => by
    obtain ⟨h0, h⟩ := h
    rcases h with ⟨e, hl⟩ | ⟨a1, a2, a3⟩ | ⟨op, m, a1, a2, a3, a4, a5, a6, a7⟩ | ⟨op, k, a1, a2, a3, a4⟩
    · rw [show j = i from by omega]; exact leaf_refs hl
    · by_cases e : j = i
      · rw [e, a2]; exact ⟨refIn_rz, refIn_rz⟩
      · exact sp_refs f _ _ _ a3 j h1 (by omega)
    · by_cases e : j = i
      · rw [e, a5]; exact ⟨refIn_rz, refIn_rz⟩
      · by_cases hm : m ≤ j
        · exact sp_refs f _ _ _ a6 j hm (by omega)
        · exact sp_refs f _ _ _ a7 j h1 (by omega)
    · by_cases e : j = i
      · rw [e, a2]; exact ⟨refIn_rz, refIn_rz⟩
      · exact lk_refs (sp_refs f) _ _ _ a4 j h1 (by omega)
/-- What Parse answers. -/
theorem parse_law (b : Nat → Int) (n : Nat) :
    ((parseM b n).err = 0 ∧ TreeOK (parseM b n) ∧ (tx (parseM b n).nodes ((parseM b n).nodes.length - 1) 1).length ≤ n) ∨
    ((parseM b n).err ≠ 0 ∧ (parseM b n).nodes = [] ∧ (parseM b n).root = -1 ∧ 0 ≤ (parseM b n).pos ∧ (parseM b n).pos ≤ n) := by
  unfold parseM
  by_cases hn : 40 < n
  · rw [if_pos hn]
    exact .inr ⟨by decide, rfl, rfl, by decide, by show (0 : Int) ≤ n; omega⟩
  rw [if_neg hn]
  have hS := exprD_par (b := b) (n := n) (n + 1) false ps0 rfl (Nat.zero_le _) (by show n - 0 < n + 1; omega)
  generalize exprD b n (n + 1) false ps0 = r at hS ⊢
  obtain ⟨s, a⟩ := r
  simp only []
  by_cases he : s.err ≠ 0
  · rw [look_err he]
    simp only [if_true]
    rw [if_neg (by exact he)]
    have := hS.1 he
    exact .inr ⟨he, rfl, rfl, this.1, this.2⟩
  have he0 : s.err = 0 := by simpa using he
  have hG := hS.2 he0
  simp only [] at hG
  have hlk := look_good (b := b) (n := n) (st := s) he0 hG.i2
  by_cases hle : (s.look b n).1.err ≠ 0
  · obtain ⟨c0, p0', p1⟩ := hlk.1 hle
    rw [if_pos c0, if_neg hle]
    exact .inr ⟨hle, rfl, rfl, p0', p1⟩
  obtain ⟨e2, g1, g2, g3⟩ := hlk.2 (by simpa using hle)
  rw [e2]
  simp only []
  by_cases hc : Ch b n s.i = 0
  · rw [if_pos hc, if_pos (by exact he0)]
    obtain ⟨l, hl⟩ := hG.ext
    obtain ⟨f, hf⟩ := hG.sp
    have h1 := hG.lt
    have h2 := hG.max
    have h3 := hG.len
    have h4 := hG.i2
    have hR : refsOK s.n := by
      intro x hx
      obtain ⟨j, hj, e⟩ := List.getElem_of_mem hx
      have := sp_refs f _ _ _ hf j (by show 0 ≤ j; omega) (by omega)
      unfold nd at this
      rw [List.getElem?_eq_getElem hj, e] at this
      exact this
    refine .inl ⟨rfl, ?_, ?_⟩
    · have := treeOK_of_sp (L := s.n) (f := f) (by omega) h2 hR hf
      rw [← hG.idx] at this
      exact this
    · show (tx s.n (s.n.length - 1) 1).length ≤ n
      have : ps0.i = 0 := rfl
      omega
  · rw [if_neg hc, fail_ok (by exact he0), if_neg (by show ¬ (3 : Int) = 0; decide)]
    exact .inr ⟨by show (3 : Int) ≠ 0; decide, rfl, rfl, by show (0 : Int) ≤ ((skip b n s.i : Nat) : Int); omega, by show ((skip b n s.i : Nat) : Int) ≤ n; omega⟩
end Go.Proofs.Qxb6500326aGreat
