/-
  DERIVED. PLAIN: the machine with two stacks answers as the recursive descent: the whole.
-/
import Derived.Test.Qxb6500326aGreatP5
namespace Go.Proofs.Qxb6500326aGreat
set_option linter.unusedVariables false
set_option linter.unusedSimpArgs false
section
variable {b : Nat → Int} {n : Nat}
theorem sim_name {f F : Nat} {ex : Bool → PS → PS × Int} (hex : ExOK b n f ex) (hF : n < F) {st : PS} (h0 : st.err = 0) (hi : st.i < n) (hs : skip b n st.i = st.i) (hf : n - st.i ≤ f)
    (hw : isCap (b st.i) = true ∨ b st.i = 36) (hx : lex b n st.i = lexWord b n st.i) (V : List Int) (O : List Mk) :
    Sim b n (st.i + 1) (nameM b n ex F (rangesOf O) st) (mkR st.i st.n V O false) QT (settleK V O) := by
  have hwd : wordy (b st.i) = true := by rw [wordy_iff]; rw [isCap_iff] at hw; omega
  have hlt : st.i < wordEnd b n st.i := lt_runF hi hwd
  have hle : wordEnd b n st.i ≤ n := runF_le _ _ (by omega)
  have hin : st.i ≤ n := by omega
  unfold nameM
  unfold lexWord at hx
  simp only [] at hx ⊢
  generalize hE : wordEnd b n st.i = E at *
  generalize hW : cut b st.i E = W at *
  by_cases hT : W = wTrue
  · have hr : refOf W = none := by rw [hT]; decide
    simp only [hr] at hx
    rw [if_pos hT] at hx ⊢
    refine sim_whole (st := st.go E) h0 (by show st.i + 1 ≤ E; omega) hle _ (V := V) (O := O) (h := false) (fun R hR => ends_mk ?_)
    rw [step_leaf hin (by rw [hx]), hx]; exact hR
  rw [if_neg hT]
  by_cases hFa : W = wFalse
  · have hr : refOf W = none := by rw [hFa]; decide
    simp only [hr] at hx
    rw [if_neg hT, if_pos hFa] at hx
    rw [if_pos hFa]
    refine sim_whole (st := st.go E) h0 (by show st.i + 1 ≤ E; omega) hle _ (V := V) (O := O) (h := false) (fun R hR => ends_mk ?_)
    rw [step_leaf hin (by rw [hx]), hx]; exact hR
  rw [if_neg hFa]
  cases hr : refOf W with
  | none =>
    simp only [hr] at hx ⊢
    rw [if_neg hT, if_neg hFa] at hx
    by_cases hfn : fnOf W = 0
    · rw [if_pos hfn] at hx ⊢
      refine sim_fail ?_ rfl rfl
      rw [step_fault hin (by rw [hx]), hs, hx, fail_ok (st := st.go E) h0]
      exact Failed.new (e := 5) rfl (by decide)
    rw [if_neg hfn] at hx ⊢
    have hst := step_call (b := b) (n := n) (i := st.i) (l := st.n) (V := V) (O := O) hin (by rw [hx])
    rw [hs] at hst
    have htk : (mkR st.i st.n V O false).take b n = mkR E st.n V O false := by rw [takeR, hx]
    rcases look_two (b := b) (n := n) (st := st.go E) h0 with ⟨e, hk, _⟩ | ⟨e, hk⟩
    · rw [e]
      have hlk : ((mkR st.i st.n V O false).take b n).look b n = mkR (skip b n E) st.n V O false := by rw [htk, lookR_ok hle hk]
      by_cases h40 : Ch b n E = 40
      · simp only [show Ch b n (st.go E).i = 40 from h40, if_true]
        obtain ⟨t1, t2⟩ := lex_byte (b := b) (n := n) (i := E) (by omega)
        have hEk : (lex b n E).kind = 40 := by rw [t1]; exact h40
        have hfin : (lex b n E).fin = skip b n E + 1 := by rw [t1]
        have hge := le_skip (b := b) (n := n) E
        have htk2 : (mkR (skip b n E) st.n V O false).take b n = mkR (skip b n E + 1) st.n V O false := by rw [takeR, lex_idem, hfin]
        unfold callM
        simp only []
        have hgo : (((st.go E).go (skip b n (st.go E).i)).go (((st.go E).go (skip b n (st.go E).i)).i + 1)) = st.go (skip b n E + 1) := rfl
        rw [hgo]
        have hstep : (mkR st.i st.n V O false).step b n = (let u := (mkR (skip b n E + 1) st.n V O false).look b n
            if (lex b n u.pos).kind = 41 then u.fail 6 st.i else u.push ⟨4, fnOf W, st.i, 0, -1⟩) := by
          rw [hst]; unfold RS.call; rw [hlk]
          simp only [show (mkR (skip b n E) st.n V O false).pos = skip b n E from rfl, lex_idem, hEk]
          rw [if_neg (by decide), htk2, hx]
        rcases look_two (b := b) (n := n) (st := st.go (skip b n E + 1)) h0 with ⟨e', hk', _⟩ | ⟨e', hk'⟩
        · rw [e']
          have hlk2 := lookR_ok (b := b) (n := n) (i := skip b n E + 1) (by omega) hk' st.n V O false
          rw [hlk2] at hstep
          simp only [show (mkR (skip b n (skip b n E + 1)) st.n V O false).pos = skip b n (skip b n E + 1) from rfl, lex_idem] at hstep
          have hge2 := le_skip (b := b) (n := n) (skip b n E + 1)
          have hle2 := skip_le (b := b) (n := n) (i := skip b n E + 1) (by omega)
          by_cases h41 : Ch b n (skip b n E + 1) = 41
          · simp only [show Ch b n (st.go (skip b n E + 1)).i = 41 from h41, if_true]
            rw [if_pos ((lex_kind_of _ _ (by omega)).2 h41)] at hstep
            refine sim_fail ?_ rfl rfl
            rw [hstep, fail_ok (by exact h0)]
            exact Failed.new rfl (by decide)
          · rw [if_neg (by exact h41)]
            rw [if_neg (fun h => h41 ((lex_kind_of _ _ (by omega)).1 h))] at hstep
            have := sim_callLoop hex (fnOf W) st.i F (st.go (skip b n (skip b n E + 1))) (-1) 0 V O h0 hle2 (by show n - _ < F; omega) (by show n - skip b n (skip b n E + 1) < f; omega)
            refine Sim.from this (by show st.i + 1 ≤ skip b n (skip b n E + 1) + 1; omega) (fun R hR => ends_mk ?_)
            rw [hstep]; exact hR
        · rw [e']
          obtain ⟨g1, g2⟩ := lookR_bad (b := b) (n := n) (i := skip b n E + 1) (by omega) hk' st.n V O false
          simp only [g2, lex_idem] at hstep
          simp only []
          rw [if_neg (by decide)]
          obtain ⟨F', rfl⟩ : ∃ F', F = F' + 1 := ⟨F - 1, by omega⟩
          have hne : (⟨skip b n (st.go (skip b n E + 1)).i, (st.go (skip b n E + 1)).n, 2, skip b n (st.go (skip b n E + 1)).i⟩ : PS).err ≠ 0 := by show (2 : Int) ≠ 0; decide
          have hcl : callLoop b n ex (fnOf W) (F' + 1) ⟨skip b n (st.go (skip b n E + 1)).i, (st.go (skip b n E + 1)).n, 2, skip b n (st.go (skip b n E + 1)).i⟩ (-1) 0 = (⟨skip b n (st.go (skip b n E + 1)).i, (st.go (skip b n E + 1)).n, 2, skip b n (st.go (skip b n E + 1)).i⟩, -1, 0) := by
            unfold callLoop; rw [if_pos hne]
          rw [hcl]
          have hce := callEnd_err (fn := fnOf W) (at_ := st.i) (r := (⟨skip b n (st.go (skip b n E + 1)).i, (st.go (skip b n E + 1)).n, 2, skip b n (st.go (skip b n E + 1)).i⟩, -1, 0)) hne
          unfold callEnd at hce
          show Sim b n _ (if _ then _ else _) _ _ _
          rw [hce]
          refine sim_fail ?_ rfl rfl
          rw [hstep]
          have hk1 : (lex b n (skip b n E + 1)).kind = 1 := hk'
          rw [if_neg (by rw [hk1]; decide)]
          exact g1.push _
      · rw [if_neg (by exact h40)]
        refine sim_fail ?_ rfl rfl
        rw [hst]; unfold RS.call; rw [hlk]
        simp only [show (mkR (skip b n E) st.n V O false).pos = skip b n E from rfl, lex_idem]
        rw [if_pos (fun h => h40 ((lex_kind_of _ _ (by omega)).1 h)), hx, fail_ok (by exact h0)]
        exact Failed.new rfl (by decide)
    · rw [e]
      simp only []
      rw [if_neg (by decide), fail_err (by show (2 : Int) ≠ 0; decide)]
      refine sim_fail ?_ rfl rfl
      obtain ⟨g1, g2⟩ := lookR_bad (b := b) (n := n) (i := E) hle hk st.n V O false
      rw [hst]; unfold RS.call; rw [htk]
      have hk1 : (lex b n E).kind = 1 := hk
      simp only [g2, lex_idem, hk1]
      rw [if_pos (by decide)]
      exact g1.fail _ _
  | some r =>
    simp only [hr] at hx ⊢
    have hst := step_ref (b := b) (n := n) (i := st.i) (l := st.n) (V := V) (O := O) hin (by rw [hx])
    rw [hs] at hst
    have htk : (mkR st.i st.n V O false).take b n = mkR E st.n V O false := by rw [takeR, hx]
    unfold RS.ref at hst
    rw [htk] at hst
    rcases look_two (b := b) (n := n) (st := st.go E) h0 with ⟨e, hk, _⟩ | ⟨e, hk⟩
    · rw [e]
      rw [lookR_ok (b := b) (n := n) hle hk] at hst
      simp only [show (mkR (skip b n E) st.n V O false).pos = skip b n E from rfl, lex_idem] at hst
      have hge := le_skip (b := b) (n := n) E
      have hleE := skip_le (b := b) (n := n) (i := E) hle
      by_cases h58 : Ch b n E = 58
      · simp only [show Ch b n (st.go E).i = 58 from h58, if_true]
        obtain ⟨t1, t2⟩ := lex_byte (b := b) (n := n) (i := E) (by omega)
        have hEk : (lex b n E).kind = 58 := by rw [t1]; exact h58
        have hfin : (lex b n E).fin = skip b n E + 1 := by rw [t1]
        rw [if_neg (by simp [hEk])] at hst
        have htk2 : (mkR (skip b n E) st.n V O false).take b n = mkR (skip b n E + 1) st.n V O false := by rw [takeR, lex_idem, hfin]
        rw [htk2] at hst
        have hgo : (((st.go E).go (skip b n (st.go E).i)).go (((st.go E).go (skip b n (st.go E).i)).i + 1)) = st.go (skip b n E + 1) := rfl
        rw [hgo]
        have hle1 : skip b n E + 1 ≤ n := by omega
        have hqq : skip b n E < skip b n E + 1 := by omega
        generalize skip b n E + 1 = q at *
        rcases look_two (b := b) (n := n) (st := st.go q) h0 with ⟨e', hk', _⟩ | ⟨e', hk'⟩
        · rw [e']
          rw [lookR_ok (b := b) (n := n) (i := q) hle1 hk'] at hst
          simp only [show (mkR (skip b n q) st.n V O false).pos = skip b n q from rfl, lex_idem] at hst
          have hgq := le_skip (b := b) (n := n) q
          have hlq := skip_le (b := b) (n := n) (i := q) hle1
          simp only [show ((st.go q).go (skip b n (st.go q).i)).i = skip b n q from rfl]
          rcases lex_ref (b := b) (n := n) (i := q) hle1 with ⟨r2, u1, u2⟩ | ⟨u1, u2⟩
          · rw [u1]
            simp only []
            rw [if_neg (by simp [u2])] at hst
            have htk3 : (mkR (skip b n q) st.n V O false).take b n = mkR (wordEnd b n (skip b n q)) st.n V O false := by rw [takeR, lex_idem, u2]
            rw [htk3, u2, hx] at hst
            have hge3 : skip b n q ≤ wordEnd b n (skip b n q) := le_runF _ _
            have hle3 : wordEnd b n (skip b n q) ≤ n := runF_le _ _ hlq
            by_cases hrg : rangesOf O = true
            · rw [if_pos hrg]
              rw [if_pos (by exact hrg)] at hst
              refine sim_whole (st := st.go (wordEnd b n (skip b n q))) h0 (by show st.i + 1 ≤ wordEnd b n (skip b n q); omega) hle3 _ (V := V) (O := O) (h := false) (fun R hR => ends_mk ?_)
              rw [hst]; exact hR
            · rw [if_neg hrg]
              rw [if_neg (by exact hrg)] at hst
              refine sim_fail ?_ rfl rfl
              rw [hst, fail_ok (by exact h0)]
              exact Failed.new rfl (by decide)
          · rw [u1]
            simp only []
            rw [if_pos (by exact u2), lex_st hle1] at hst
            refine sim_fail ?_ rfl rfl
            rw [hst, fail_ok (by exact h0)]
            exact Failed.new rfl (by decide)
        · rw [e']
          obtain ⟨g1, g2⟩ := lookR_bad (b := b) (n := n) (i := q) hle1 hk' st.n V O false
          simp only [g2, lex_idem] at hst
          have hk1 : (lex b n q).kind = 1 := hk'
          rw [if_pos (by rw [hk1]; decide)] at hst
          have hFd := g1.fail 3 (lex b n q).st
          rw [← hst] at hFd
          simp only []
          split
          · rw [fail_err (by show (2 : Int) ≠ 0; decide)]
            exact sim_fail hFd rfl rfl
          · split
            · rw [add_err (by show (2 : Int) ≠ 0; decide)]
              exact sim_fail hFd rfl rfl
            · rw [fail_err (by show (2 : Int) ≠ 0; decide)]
              exact sim_fail hFd rfl rfl
      · rw [if_neg (by exact h58)]
        rw [if_pos (fun h => h58 ((lex_kind_of _ _ (by omega)).1 h))] at hst
        refine sim_whole (st := st.go (skip b n E)) h0 (by show st.i + 1 ≤ skip b n E; omega) hleE _ (V := V) (O := O) (h := false) (fun R hR => ends_mk ?_)
        rw [hst, hx]; exact hR
    · rw [e]
      simp only []
      rw [if_neg (by decide), add_err (by show (2 : Int) ≠ 0; decide)]
      refine sim_fail ?_ rfl rfl
      obtain ⟨g1, g2⟩ := lookR_bad (b := b) (n := n) (i := E) hle hk st.n V O false
      have hk1 : (lex b n E).kind = 1 := hk
      rw [hst]
      simp only [g2, lex_idem, hk1]
      rw [if_pos (by decide)]
      exact g1.whole _

theorem atomM_err {F : Nat} {ex : Bool → PS → PS × Int} {st : PS} (h : st.err ≠ 0) (rg : Bool) : atomM b n ex F rg st = (st.go (skip b n st.i), -1) := by
  unfold atomM
  rw [look_err h]
  simp only []
  rw [if_neg (by decide), if_neg (by decide), if_neg (by decide), if_neg (by decide), fail_err (by exact h)]
theorem sim_atom {f F : Nat} {ex : Bool → PS → PS × Int} (hex : ExOK b n f ex) (hF : n < F) {st : PS} (h0 : st.err = 0) (hi : st.i ≤ n) (hf : n - st.i ≤ f) (h45 : Ch b n st.i ≠ 45) (V : List Int) (O : List Mk) :
    Sim b n (st.i + 1) (atomM b n ex F (rangesOf O) st) (mkR st.i st.n V O false) QT (settleK V O) := by
  have hge := le_skip (b := b) (n := n) st.i
  have hle := skip_le (b := b) (n := n) (i := st.i) hi
  unfold atomM
  rcases (look_two (b := b) (n := n) (st := st) h0).symm with ⟨e, hk⟩ | ⟨e, hk, hkn⟩
  · rw [e]
    simp only []
    rw [if_neg (by decide), if_neg (by decide), if_neg (by decide), if_neg (by decide), fail_err (by show (2 : Int) ≠ 0; decide)]
    exact sim_fail (step_char hi hk _ _ _ _) rfl rfl
  rw [e]
  simp only [show (st.go (skip b n st.i)).i = skip b n st.i from rfl]
  rcases lex_cases (b := b) (n := n) st.i with ⟨h1, h2, h3⟩ | ⟨h1, h2, h3, h4⟩ | ⟨h1, h2, h3, h4⟩ | ⟨h1, h2, h3, h4⟩
  · -- the end
    rw [h2, if_neg (by decide), if_neg (by decide), if_neg (by decide), if_neg (by decide)]
    refine sim_fail ?_ rfl rfl
    rw [step_other hi hk (by rw [h3]; show (0 : Int) ≠ 2; decide) (by rw [h3]; show (0 : Int) ≠ 3; decide) (by rw [h3]; show (0 : Int) ≠ 4; decide) (by rw [h3]; show (0 : Int) ≠ 5; decide) (by rw [h3]; show (0 : Int) ≠ 40; decide) (.inl (by rw [h3]; show (0 : Int) ≠ 6; decide)), fail_ok (by exact h0)]
    exact Failed.new rfl (by decide)
  · -- a number
    rw [if_pos h3]
    rw [h2] at h3
    have hlt : skip b n st.i < digEnd b n (skip b n st.i) := lt_runF h1 h3
    have hle2 : digEnd b n (skip b n st.i) ≤ n := runF_le _ _ hle
    unfold lexNum at h4
    simp only [] at h4
    by_cases h9 : 9 < digEnd b n (skip b n st.i) - skip b n st.i
    · rw [if_pos h9] at h4 ⊢
      refine sim_fail ?_ rfl rfl
      rw [step_fault hi (by rw [h4]), h4, fail_ok (by exact h0)]
      exact Failed.new (e := 4) rfl (by decide)
    · rw [if_neg h9] at h4 ⊢
      refine sim_whole (st := st.go (digEnd b n (skip b n st.i))) h0 (by show st.i + 1 ≤ digEnd b n (skip b n st.i); omega) hle2 _ (V := V) (O := O) (h := false) (fun R hR => ends_mk ?_)
      rw [step_leaf hi (by rw [h4]), h4]; exact hR
  · -- a word
    rw [if_neg (by rw [isDig_iff]; rw [isCap_iff] at h3; omega), if_pos h3]
    rw [h2] at h3
    have := sim_name hex hF (st := st.go (skip b n st.i)) h0 h1 (skip_idem _) (by show n - skip b n st.i ≤ f; omega) h3 (by show lex b n (skip b n st.i) = lexWord b n (skip b n st.i); rw [lex_idem, h4]) V O
    exact this.from (by show st.i + 1 ≤ skip b n st.i + 1; omega) (fun R hR => ends_skip hi hR)
  · -- a sign
    rw [Bool.eq_false_iff, ne_eq, wordy_iff] at h3
    rw [if_neg (by rw [isDig_iff]; omega), if_neg (by rw [isCap_iff]; omega)]
    by_cases h35 : Ch b n st.i = 35
    · rw [if_pos h35]
      have hl : lex b n st.i = if nextB b n (skip b n st.i) = 35 then ⟨2, skip b n st.i, skip b n st.i + 2, 5, 0, rz⟩ else ⟨3, skip b n st.i, skip b n st.i + 1, 0, 2, rz⟩ := by
        rw [h4, h35]; rfl
      have hnx : nextB b n (skip b n st.i) = 35 ↔ skip b n st.i + 1 < n ∧ b (skip b n st.i + 1) = 35 := by
        unfold nextB; split
        · simp [*]
        · constructor
          · intro h; exact absurd h (by decide)
          · intro h; omega
      by_cases hd : skip b n st.i + 1 < n ∧ b (skip b n st.i + 1) = 35
      · rw [if_pos hd]
        rw [if_pos (hnx.2 hd)] at hl
        refine sim_whole (st := st.go (skip b n st.i + 2)) h0 (by show st.i + 1 ≤ skip b n st.i + 2; omega) (by show skip b n st.i + 2 ≤ n; omega) _ (V := V) (O := O) (h := false) (fun R hR => ends_mk ?_)
        rw [step_leaf hi (by rw [hl]), hl]; exact hR
      · rw [if_neg hd]
        rw [if_neg (fun h => hd (hnx.1 h))] at hl
        refine sim_fail ?_ rfl rfl
        rw [step_fault hi (by rw [hl]), hl, fail_ok (by exact h0)]
        exact Failed.new (e := 2) rfl (by decide)
    rw [if_neg h35]
    by_cases h40 : Ch b n st.i = 40
    · rw [if_pos h40]
      obtain ⟨t1, t2⟩ := lex_byte (b := b) (n := n) (i := st.i) (by omega)
      have hstep := step_open (b := b) (n := n) (i := st.i) (l := st.n) (V := V) (O := O) hi (by rw [t1]; exact h40)
      rw [t1] at hstep
      have hS := hex false (st.go (skip b n st.i + 1)) V (⟨3, 0, 0, 0, 0⟩ :: O) h0 (by show skip b n st.i + 1 ≤ n; omega) (by show n - (skip b n st.i + 1) < f; omega) (fun m O' e => by cases e; exact .inl rfl) rfl
      have hgo : ((st.go (skip b n st.i)).go (skip b n st.i + 1)) = st.go (skip b n st.i + 1) := rfl
      rw [hgo]
      generalize ex false (st.go (skip b n st.i + 1)) = r at hS ⊢
      obtain ⟨s, v⟩ := r
      simp only []
      by_cases he : s.err ≠ 0
      · rw [look_err he]
        simp only []
        rw [if_neg (by decide), fail_err (by exact he)]
        exact sim_bad he (ends_mk (by rw [hstep]; exact hS.1 he))
      have he0 : s.err = 0 := by simpa using he
      obtain ⟨g1, g2, g3, g4⟩ := hS.2 he0
      simp only [show (st.go (skip b n st.i + 1)).i = skip b n st.i + 1 from rfl] at g1 g2 g3 g4
      rw [look_lkd he0 g3]
      simp only []
      by_cases h41 : Ch b n s.i = 41
      · rw [if_pos h41]
        obtain ⟨w1, w2⟩ := lex_byte (b := b) (n := n) (i := s.i) (by omega)
        rw [g3.1] at w1 w2
        refine sim_good he0 (by show st.i + 1 ≤ s.i + 1; omega) (by show s.i + 1 ≤ n; omega) trivial (fun R hR => ends_mk ?_)
        rw [hstep]
        refine g4 R ?_
        unfold closeK RS.close
        simp only [mkR]
        rw [if_neg (by decide)]
        unfold RS.closeTail
        rw [if_neg (by rw [w1]; simp [h41])]
        simp only [if_true]
        have : (RS.take b n ⟨s.i, s.n, v :: V, ⟨3, 0, 0, 0, 0⟩ :: O, true, false, 0, 0⟩).vo (v :: V) O = mkR (lex b n s.i).fin s.n (v :: V) O true := rfl
        rw [this, w1]; exact hR
      · rw [if_neg h41]
        have k41 : (lex b n s.i).kind ≠ 41 := fun h => h41 ((lex_kind_of _ _ (by omega)).1 h)
        have hFd : Failed ((mkR s.i s.n (v :: V) (⟨3, 0, 0, 0, 0⟩ :: O) true).close b n (lex b n s.i)) (s.fail 3 s.i).err (s.fail 3 s.i).pos := by
          rw [fail_ok he0]
          unfold RS.close
          simp only [mkR]
          rw [if_neg (by decide)]
          unfold RS.closeTail
          rw [if_pos k41, lex_st g2, g3.1]
          exact Failed.new rfl (by decide)
        refine sim_bad hFd.ne (ends_mk ?_)
        rw [hstep]
        exact g4 _ (ends_failed hFd)
    · rw [if_neg h40]
      refine sim_fail ?_ rfl rfl
      rw [fail_ok (by exact h0)]
      have hg : ∀ x : Int, x = 40 ∨ x = 41 ∨ x = 44 ∨ x = 58 → ((lex b n st.i).kind = x ↔ Ch b n st.i = x) := fun x hx => lex_kind_of _ x hx
      have h40' : (lex b n st.i).kind ≠ 40 := fun h => h40 ((hg 40 (by omega)).1 h)
      have hrest : (lex b n st.i).kind ≠ 2 ∧ (lex b n st.i).kind ≠ 3 ∧ (lex b n st.i).kind ≠ 4 ∧ (lex b n st.i).kind ≠ 5 ∧ ((lex b n st.i).kind ≠ 6 ∨ (lex b n st.i).n ≠ 8) := by
        rw [h4]
        rcases lexSgn_cases (Ch b n st.i) (nextB b n (skip b n st.i)) (skip b n st.i) with ⟨g, e⟩ | ⟨g, e⟩ | ⟨g, e⟩ | ⟨g, e⟩ | ⟨g, _, e⟩ | ⟨g, _, e⟩ | ⟨g, e⟩ <;> rw [e] <;> simp only []
        · omega
        · have : addOp (Ch b n st.i) = 7 := by
            rw [addOp_ne] at g; unfold addOp; rw [if_pos (by omega)]
          rw [this]; decide
        · have : mulOp (Ch b n st.i) ≠ 8 := by unfold mulOp; split; decide; split <;> decide
          exact ⟨by decide, by decide, by decide, by decide, .inr this⟩
        · have : (cmpOp (Ch b n st.i) (nextB b n (skip b n st.i))).1 ≠ 8 := by
            unfold cmpOp; repeat' split
            all_goals simp
          exact ⟨by decide, by decide, by decide, by decide, .inr this⟩
        · omega
        · omega
        · decide
      rw [step_other hi hk hrest.1 hrest.2.1 hrest.2.2.1 hrest.2.2.2.1 h40' hrest.2.2.2.2]
      exact Failed.new rfl (by decide)
end
end Go.Proofs.Qxb6500326aGreat
