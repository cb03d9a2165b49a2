import Derived.Test.Qxb6500326aGreatX0
import Derived.Test.Qxb6500326aGreatP7
namespace Go.Proofs.Qxb6500326aGreat
set_option maxRecDepth 100000
set_option linter.unusedVariables false
set_option linter.unusedSimpArgs false
open Go.RowKit Go.PlainAid
section
variable {b : Nat → Int} {n : Nat}
/-- A token that opens in the text ends in it, behind its first byte. -/
theorem lexAt_fin {i : Nat} (h : i < n) : i < (lexAt b n i).fin ∧ (lexAt b n i).fin ≤ n ∧ (lexAt b n i).kind ≠ 0 := by
  unfold lexAt
  rw [if_neg (by omega)]
  split
  · rename_i hd
    have h1 : i < digEnd b n i := lt_runF h hd
    have h2 : digEnd b n i ≤ n := runF_le _ _ (by omega)
    unfold lexNum; simp only; split
    · exact ⟨h1, h2, by show (3 : Int) ≠ 0; decide⟩
    · exact ⟨h1, h2, by show (2 : Int) ≠ 0; decide⟩
  · split
    · rename_i hd
      have h1 : i < wordEnd b n i := lt_runF h hd
      have h2 : wordEnd b n i ≤ n := runF_le _ _ (by omega)
      have hf : (lexWord b n i).fin = wordEnd b n i := by unfold lexWord; simp only; repeat' split
                                                          all_goals rfl
      rw [hf]
      refine ⟨h1, h2, ?_⟩
      rcases lexWord_kind (b := b) (n := n) i with e | e | e | e <;> rw [e] <;> decide
    · rcases lexSgn_cases (b i) (nextB b n i) i with ⟨hc, e⟩ | ⟨hc, e⟩ | ⟨hc, e⟩ | ⟨hc, e⟩ | ⟨hc, hd, e⟩ | ⟨hc, hd, e⟩ | ⟨hc, e⟩ <;> rw [e]
      · exact ⟨by show i < i + 1; omega, by show i + 1 ≤ n; omega, by show b i ≠ 0; omega⟩
      · exact ⟨by show i < i + 1; omega, by show i + 1 ≤ n; omega, by show (6 : Int) ≠ 0; decide⟩
      · exact ⟨by show i < i + 1; omega, by show i + 1 ≤ n; omega, by show (6 : Int) ≠ 0; decide⟩
      · have h1 := cmpOp_w (b i) (nextB b n i)
        have h2 := cmpOp_fits (b := b) (c := b i) h
        exact ⟨by show i < i + _; omega, h2, by show (6 : Int) ≠ 0; decide⟩
      · have : i + 1 < n := by
          unfold nextB at hd; split at hd
          · assumption
          · omega
        exact ⟨by show i < i + 2; omega, by show i + 2 ≤ n; omega, by show (2 : Int) ≠ 0; decide⟩
      · exact ⟨by show i < i + 1; omega, by show i + 1 ≤ n; omega, by show (3 : Int) ≠ 0; decide⟩
      · exact ⟨by show i < i + 1; omega, by show i + 1 ≤ n; omega, by show (1 : Int) ≠ 0; decide⟩
theorem lexAt_end {i : Nat} (h : n ≤ i) : lexAt b n i = ⟨0, n, n, 0, 0, rz⟩ := by unfold lexAt; rw [if_pos h]
theorem lex_fin {i : Nat} (h : i ≤ n) : (lex b n i).fin ≤ n ∧ i ≤ (lex b n i).fin := by
  have hs := le_skip (b := b) (n := n) i
  unfold lex
  rcases Nat.lt_or_ge (skip b n i) n with h1 | h1
  · have := lexAt_fin (b := b) h1; omega
  · rw [lexAt_end h1]; exact ⟨Nat.le_refl _, h⟩
theorem lex_look {i : Nat} (h : i ≤ n) : lex b n (lex b n i).st = lex b n i := by rw [lex_st h, lex_idem]
end
/-- The former's numbers and buffers are those of the plain machine. -/
structure Rel (b : Nat → Int) (n : Nat) (F : Fmr) (st : RS) : Prop where
  pos : F.pos = st.pos
  pn : st.pos ≤ n
  tok : F.toks F.k = lex b n st.pos
  kn : F.k < F.nt
  n41 : F.nt ≤ 41
  chain : ∀ i, i + 1 < F.nt → F.toks (i + 1) = lex b n (F.toks i).fin
  ends : ∀ i, i < F.nt → ((F.toks i).kind = 0 ↔ i + 1 = F.nt)
  nodes : st.nodes = (List.range F.nn).map F.arena
  nn : F.nn ≤ 24
  V : st.V = ((List.range F.nv).map F.opnd).reverse
  O : st.O = ((List.range F.no).map F.ops).reverse
  hav : F.hav = st.hav
  done : F.done = st.done
  err : F.err = st.err
  bad : F.bad = st.bad
section
variable {b : Nat → Int} {n : Nat} {F : Fmr} {st : RS}
theorem Rel.nvl (h : Rel b n F st) : F.nv = st.V.length := by rw [h.V]; simp
theorem Rel.nol (h : Rel b n F st) : F.no = st.O.length := by rw [h.O]; simp
theorem Rel.nnl (h : Rel b n F st) : F.nn = st.nodes.length := by rw [h.nodes]; simp
theorem range_rev {α : Type} (f : Nat → α) (k : Nat) : ((List.range (k + 1)).map f).reverse = f k :: ((List.range k).map f).reverse := by
  rw [List.range_succ, List.map_append, List.reverse_append]; rfl
theorem Rel.topV (h : Rel b n F st) {y : Int} {V' : List Int} (e : st.V = y :: V') : 1 ≤ F.nv ∧ F.opnd (F.nv - 1) = y ∧ V' = ((List.range (F.nv - 1)).map F.opnd).reverse := by
  have hl := h.nvl
  rw [e] at hl; simp at hl
  have hV := h.V
  rw [show F.nv = (F.nv - 1) + 1 from by omega, range_rev, e] at hV
  injection hV with h1 h2
  exact ⟨by omega, h1.symm, h2⟩
theorem Rel.topO (h : Rel b n F st) {y : Mk} {O' : List Mk} (e : st.O = y :: O') : 1 ≤ F.no ∧ F.ops (F.no - 1) = y ∧ O' = ((List.range (F.no - 1)).map F.ops).reverse := by
  have hl := h.nol
  rw [e] at hl; simp at hl
  have hV := h.O
  rw [show F.no = (F.no - 1) + 1 from by omega, range_rev, e] at hV
  injection hV with h1 h2
  exact ⟨by omega, h1.symm, h2⟩
theorem range_upd {α : Type} (f : Nat → α) (k j : Nat) (v : α) (h : k ≤ j) : (List.range k).map (upd f j v) = (List.range k).map f := by
  apply List.map_congr_left
  intro i hi
  rw [List.mem_range] at hi
  exact upd_other f v (by omega)
end
abbrev tkV (t : Tok) : Value := .agg #[I t.kind, I t.st, I t.fin, I t.op, I t.n, I t.r.col, I t.r.row, .bool t.r.absC, .bool t.r.absR]
abbrev mkV (m : Mk) : Value := .agg #[I m.kind, I m.op, I m.st, I m.n, I m.link]
/-- The former stands in state st: nt tokens, the k-th at hand. -/
def AF (w : World) (B : FB) (b : Nat → Int) (n nt k : Nat) (st : RS) : Prop := ∃ F, FM w B F ∧ Rel b n F st ∧ F.nt = nt ∧ F.k = k
theorem AF.fr0 {w w' : World} {B : FB} {b : Nat → Int} {n nt k : Nat} {st : RS} (h : AF w B b n nt k st) (f : Fr S0 w w') : AF w' B b n nt k st := by
  obtain ⟨F, h1, h2⟩ := h; exact ⟨F, h1.fr0 f, h2⟩
theorem AF.kn {w : World} {B : FB} {b : Nat → Int} {n nt k : Nat} {st : RS} (h : AF w B b n nt k st) : k < nt ∧ nt ≤ 41 ∧ st.pos ≤ n := by
  obtain ⟨F, h1, h2, rfl, rfl⟩ := h; exact ⟨h2.kn, h2.n41, h2.pn⟩
theorem AF.nn {w : World} {B : FB} {b : Nat → Int} {n nt k : Nat} {st : RS} (h : AF w B b n nt k st) : st.nodes.length ≤ 24 := by
  obtain ⟨F, h1, h2, rfl, rfl⟩ := h; rw [← h2.nnl]; exact h2.nn
/-- What a method of the former leaves. -/
abbrev Ran (w : World) (B : FB) (b : Nat → Int) (n nt k : Nat) (st : RS) (v : Value) : Ending → World → Prop := fun e w' => e = .returned v ∧ AF w' B b n nt k st ∧ Fr (FmS B) w w'
/-- The same, and the stacks' buffers. -/
def AFx (w : World) (B : FB) (b : Nat → Int) (n nt k : Nat) (st : RS) (P : Nat → Mk) (Q : Nat → Int) : Prop := ∃ F, FM w B F ∧ Rel b n F st ∧ F.nt = nt ∧ F.k = k ∧ F.ops = P ∧ F.opnd = Q
theorem AFx.af {w : World} {B : FB} {b : Nat → Int} {n nt k : Nat} {st : RS} {P : Nat → Mk} {Q : Nat → Int} (h : AFx w B b n nt k st P Q) : AF w B b n nt k st := by
  obtain ⟨F, h1, h2, h3, h4, -, -⟩ := h; exact ⟨F, h1, h2, h3, h4⟩
theorem AF.x {w : World} {B : FB} {b : Nat → Int} {n nt k : Nat} {st : RS} (h : AF w B b n nt k st) : ∃ P Q, AFx w B b n nt k st P Q := by
  obtain ⟨F, h1, h2, h3, h4⟩ := h; exact ⟨_, _, F, h1, h2, h3, h4, rfl, rfl⟩
theorem AFx.fr0 {w w' : World} {B : FB} {b : Nat → Int} {n nt k : Nat} {st : RS} {P : Nat → Mk} {Q : Nat → Int} (h : AFx w B b n nt k st P Q) (f : Fr S0 w w') : AFx w' B b n nt k st P Q := by
  obtain ⟨F, h1, h2⟩ := h; exact ⟨F, h1.fr0 f, h2⟩
abbrev RanY (w : World) (B : FB) (b : Nat → Int) (n nt k : Nat) (st : RS) (P : Nat → Mk) (Q : Nat → Int) (v : Value) : Ending → World → Prop := fun e w' => e = .returned v ∧ AFx w' B b n nt k st P Q ∧ Fr (FmS B) w w'
set_option maxHeartbeats 1000000 in
theorem failY (B : FB) (b : Nat → Int) (n nt k : Nat) (st : RS) (P : Nat → Mk) (Q : Nat → Int) (c p : Int) (w : World) (h : AFx w B b n nt k st P Q) :
    Calls Tryz.prog 195 #[pt B.f, I c, I p] w (RanY w B b n nt k (st.fail c p) P Q (.tuple #[])) := by
  obtain ⟨F, hF, hR, rfl, rfl, rfl, rfl⟩ := h
  have c12 := hF.row.cell 12 (by omega)
  have z12 := hF.row.frozen 12
  simp only [fmC] at c12
  by_cases he : st.err = 0
  · have hed : (F.err == 0) = true := by rw [hR.err]; simpa using he
    have h1 := hF.set (F' := { F with err := c }) 12 (I c) (by intro i hi; rcases i with _ | _ | _ | _ | _ | _ | _ | _ | _ | _ | _ | _ | _ | _ | _ | _ | _ | i <;> first | rfl | omega) rfl rfl rfl rfl rfl rfl rfl
    have c13 := h1.row.cell 13 (by omega)
    have z13 := h1.row.frozen 13
    simp only [fmC] at c13
    have h2 := Bx.mk (h1.set (F' := { F with err := c, bad := p }) 13 (I p) (by intro i hi; rcases i with _ | _ | _ | _ | _ | _ | _ | _ | _ | _ | _ | _ | _ | _ | _ | _ | _ | i <;> first | rfl | omega) rfl rfl rfl rfl rfl rfl rfl)
    have hr : Bx (Rel b n { F with err := c, bad := p } (st.fail c p)) := Bx.mk (by unfold RS.fail; rw [if_pos he]; exact { hR with err := rfl, bad := rfl })
    clear hF h1 hR he
    go_enter Tryz.func195, Tryz.ntmps195
    go_wp2
    go_end0
    exact ⟨rfl, ⟨_, h2.out, hr.out, rfl, rfl, rfl, rfl⟩, ((Fr.refl _ _).fm 12 _).fm 13 _⟩
  · have hed : (F.err == 0) = false := by rw [hR.err]; simpa using he
    have hFB := Bx.mk hF
    have hr : Bx (st.fail c p = st) := Bx.mk (by unfold RS.fail; rw [if_neg he])
    have hRB := Bx.mk hR
    clear hF hR he
    go_enter Tryz.func195, Tryz.ntmps195
    go_wp2
    go_end0
    rw [hr.out]
    exact ⟨rfl, ⟨_, hFB.out, hRB.out, rfl, rfl, rfl, rfl⟩, Fr.refl _ _⟩
theorem failX (B : FB) (b : Nat → Int) (n nt k : Nat) (st : RS) (c p : Int) (w : World) (h : AF w B b n nt k st) :
    Calls Tryz.prog 195 #[pt B.f, I c, I p] w (Ran w B b n nt k (st.fail c p) (.tuple #[])) := by
  obtain ⟨P, Q, h⟩ := h.x
  exact (failY B b n nt k st P Q c p w h).mono (fun e w' g => ⟨g.1, g.2.1.af, g.2.2⟩)
end Go.Proofs.Qxb6500326aGreat
