import Derived.Test.Qxb6500326aGreatX1
namespace Go.Proofs.Qxb6500326aGreat
set_option maxRecDepth 100000
set_option linter.unusedVariables false
set_option linter.unusedSimpArgs false
open Go.RowKit Go.PlainAid
theorem FM.lts {w : World} {B : FB} {F : Fmr} (h : FM w B F) : B.f < w.heap.size ∧ B.t < w.heap.size ∧ B.a < w.heap.size ∧ B.v < w.heap.size ∧ B.o < w.heap.size ∧ B.n < w.heap.size ∧ B.u < w.heap.size :=
  ⟨h.row.lt, Row.lt h.toks, Row.lt h.arena, h.opnd.lt, Row.lt h.ops, Row.lt h.notes, h.out.lt⟩
theorem FM.tokCells {w : World} {B : FB} {F : Fmr} (h : FM w B F) {i : Nat} (hi : i < 41) {t : Tok} (ht : F.toks i = t) :
    w.cell? ⟨B.t, i * 9, none⟩ = some (I t.kind) ∧ w.cell? ⟨B.t, i * 9 + 1, none⟩ = some (I t.st) ∧ w.cell? ⟨B.t, i * 9 + 2, none⟩ = some (I t.fin) ∧ w.cell? ⟨B.t, i * 9 + 3, none⟩ = some (I t.op) ∧ w.cell? ⟨B.t, i * 9 + 4, none⟩ = some (I t.n) ∧
    w.cell? ⟨B.t, i * 9 + 5, none⟩ = some (I t.r.col) ∧ w.cell? ⟨B.t, i * 9 + 6, none⟩ = some (I t.r.row) ∧ w.cell? ⟨B.t, i * 9 + 7, none⟩ = some (.bool t.r.absC) ∧ w.cell? ⟨B.t, i * 9 + 8, none⟩ = some (.bool t.r.absR) := by
  subst ht
  exact ⟨h.toks.cell0 i hi (by omega), h.toks.cell i 1 hi (by omega), h.toks.cell i 2 hi (by omega), h.toks.cell i 3 hi (by omega), h.toks.cell i 4 hi (by omega), h.toks.cell i 5 hi (by omega), h.toks.cell i 6 hi (by omega), h.toks.cell i 7 hi (by omega), h.toks.cell i 8 hi (by omega)⟩
abbrev tkA (t : Tok) : Array Value := #[I t.kind, I t.st, I t.fin, I t.op, I t.n, I t.r.col, I t.r.row, .bool t.r.absC, .bool t.r.absR]
theorem tk_new (w : World) (t : Tok) {H : Nat} (e : w.heap.size = H) : Row (w.alloc (.cells (tkA t) 213)) H 9 (tkC t) := by
  subst e
  exact Row.new _ _ _ _ _ rfl (by
    intro i hi
    have : i = 0 ∨ i = 1 ∨ i = 2 ∨ i = 3 ∨ i = 4 ∨ i = 5 ∨ i = 6 ∨ i = 7 ∨ i = 8 := by omega
    rcases this with e | e | e | e | e | e | e | e | e <;> subst e <;> rfl)
theorem Tryz.size213 : (Tryz.prog.info? 213).map (·.size) = some 9 := by kernel_rfl
theorem tk_heap {w : World} {b : Nat} {t : Tok} (h : Row w b 9 (tkC t)) : ∃ T, w.heap[b]? = some (.cells (tkA t) T (0, 0)) := by
  obtain ⟨arr, T, h1, h2, h3⟩ := h
  refine ⟨T, ?_⟩
  rw [h1]
  have : arr = tkA t := by
    apply Array.ext_getElem?
    intro i
    rcases Nat.lt_or_ge i 9 with hi | hi
    · rw [h3 i hi]
      have : i = 0 ∨ i = 1 ∨ i = 2 ∨ i = 3 ∨ i = 4 ∨ i = 5 ∨ i = 6 ∨ i = 7 ∨ i = 8 := by omega
      rcases this with e | e | e | e | e | e | e | e | e <;> subst e <;> rfl
    · rw [Array.getElem?_eq_none (by omega), Array.getElem?_eq_none (by simpa using hi)]
  rw [this]
/-- A function that answers a token returns. -/
theorem ret_tok {fn : Func} {R : Ending → World → Prop} {a : Act} {w : World} {p : Tmp} {g : Nat} {t : Tok} (hr : fn.results = #[.cell p 213]) (hp : a.tmps.getD p undef = pt g) (hrow : Row w g 9 (tkC t)) (hd : a.defers = [])
    (hR : R (.returned (tkV t)) w) : bodyPost Tryz.prog fn R .ret a w := by
  obtain ⟨T, hh⟩ := tk_heap hrow
  exact bodyPost_ret (results_cell_row hr a.tmps w g T _ (0, 0) _ hp hh Tryz.underlying213 rfl (by rw [Tryz.size213]; rfl)) hd hR
theorem tk_sets {w : World} {b : Nat} {f : Nat → Value} (h : Row w b 9 f) (t : Tok) : Row (sets w b 0 (tkA t).toList) b 9 (tkC t) :=
  (sets_row (tkA t).toList w 0 f h).congr (by
    intro i hi
    have : i = 0 ∨ i = 1 ∨ i = 2 ∨ i = 3 ∨ i = 4 ∨ i = 5 ∨ i = 6 ∨ i = 7 ∨ i = 8 := by omega
    rcases this with e | e | e | e | e | e | e | e | e <;> subst e <;> rfl)
theorem Row.tk {w : World} {B : Nat} {t : Tok} (h : Row w B 9 (tkC t)) :
    w.cell? ⟨B, 0, none⟩ = some (I t.kind) ∧ w.cell? ⟨B, 1, none⟩ = some (I t.st) ∧ w.cell? ⟨B, 2, none⟩ = some (I t.fin) ∧ w.cell? ⟨B, 3, none⟩ = some (I t.op) ∧ w.cell? ⟨B, 4, none⟩ = some (I t.n) ∧
    w.cell? ⟨B, 5, none⟩ = some (I t.r.col) ∧ w.cell? ⟨B, 6, none⟩ = some (I t.r.row) ∧ w.cell? ⟨B, 7, none⟩ = some (.bool t.r.absC) ∧ w.cell? ⟨B, 8, none⟩ = some (.bool t.r.absR) :=
  ⟨h.cell 0 (by omega), h.cell 1 (by omega), h.cell 2 (by omega), h.cell 3 (by omega), h.cell 4 (by omega), h.cell 5 (by omega), h.cell 6 (by omega), h.cell 7 (by omega), h.cell 8 (by omega)⟩
theorem AF.fr {w w' : World} {B : FB} {b : Nat → Int} {n nt k : Nat} {st : RS} (h : AF w B b n nt k st) {S : Nat → Prop} (f : Fr S w w') (hS : ∀ k, FmS B k → ¬ S k) : AF w' B b n nt k st := by
  obtain ⟨F, h1, h2⟩ := h; exact ⟨F, h1.fr f hS, h2⟩
def tok0 : Tok := ⟨0, 0, 0, 0, 0, rz⟩
set_option maxRecDepth 100000 in
set_option maxHeartbeats 2000000 in
theorem lookX (B : FB) (b : Nat → Int) (n nt k : Nat) (st : RS) (w : World) (h : AF w B b n nt k st) :
    Calls Tryz.prog 190 #[pt B.f] w (Ran w B b n nt k (st.look b n) (tkV (lex b n st.pos))) := by
  obtain ⟨F, hF, hR, rfl, rfl⟩ := h
  have hkn := hR.kn
  have hn41 := hR.n41
  have c0 := hF.row.cell 0 (by omega)
  have c2 := hF.row.cell 2 (by omega)
  have c3 := hF.row.cell 3 (by omega)
  have z3 := hF.row.frozen 3
  simp only [fmC] at c0 c2 c3
  obtain ⟨l1, l2, l3, l4, l5, l6, l7⟩ := hF.lts
  have hk : (F.k : Int) < 41 := by omega
  have hrel0 : ∀ t, lex b n st.pos = t → Rel b n { F with pos := t.st } { st with pos := t.st } := fun t ht => { hR with pos := rfl, pn := by subst ht; show (lex b n st.pos).st ≤ n; rw [lex_st hR.pn]; exact skip_le hR.pn, tok := by subst ht; show F.toks F.k = lex b n (lex b n st.pos).st; rw [lex_look hR.pn]; exact hR.tok }
  unfold RS.look RS.lookAt
  generalize ht : lex b n st.pos = t at *
  have hrel := Bx.mk (hrel0 t rfl)
  obtain ⟨k0, k1, k2, k3, k4, k5, k6, k7, k8⟩ := hF.tokCells (i := F.k) (by omega) (hR.tok.trans ht)
  have h1 := Bx.mk (hF.set (F' := { F with pos := t.st }) 3 (I t.st) (by intro i hi; rcases i with _ | _ | _ | _ | _ | _ | _ | _ | _ | _ | _ | _ | _ | _ | _ | _ | _ | i <;> first | rfl | omega) rfl rfl rfl rfl rfl rfl rfl)
  clear hrel0
  by_cases hk1 : t.kind = 1
  · rw [if_pos hk1]
    have hkd : (t.kind == 1) = true := by simpa using hk1
    have hAF : AF ((((w.setCell ⟨B.f, 3, none⟩ (I t.st)).alloc (.cells (tkA tok0) 213)).alloc (.cells (tkA t) 213)).drew) B b n F.nt F.k { st with pos := t.st } := ⟨_, ((h1.out.alloc _).alloc _).drew, hrel.out, rfl, rfl⟩
    have hfl := Bx.mk (failX B b n F.nt F.k { st with pos := t.st } 2 t.st _ hAF)
    have hz := Bx.mk ((tk_new (w.setCell ⟨B.f, 3, none⟩ (I t.st)) tok0 (H := w.heap.size) (by simp)).alloc (.cells (tkA t) 213)).drew
    have hT := Bx.mk ((tk_new ((w.setCell ⟨B.f, 3, none⟩ (I t.st)).alloc (.cells (tkA tok0) 213)) t (H := w.heap.size + 1) (by simp))).drew
    have hfr0 : Bx (Fr (FmS B) w ((((w.setCell ⟨B.f, 3, none⟩ (I t.st)).alloc (.cells (tkA tok0) 213)).alloc (.cells (tkA t) 213)).drew)) := Bx.mk ((((Fr.refl _ _).fm 3 _).alloc _).alloc _).drew
    clear hF hR hk1 hAF
    go_enter Tryz.func190, Tryz.ntmps190
    go_wp2_with fail
    go_region
    go_wp2_with (first
      | (go_at_call 195; refine hfl.out.mono ?_; clear hfl; rintro e w1 ⟨rfl, hA1, hf1⟩; have hA1 := Bx.mk hA1; have hT1 := Bx.mk (hf1.row hT.out (by show ¬ FmS B (w.heap.size + 1); rintro (e | e | e | e | e | e | e) <;> omega)); have hz1 := Bx.mk (hf1.row hz.out (by show ¬ FmS B w.heap.size; rintro (e | e | e | e | e | e | e) <;> omega)); obtain ⟨j0, j1, j2, j3, j4, j5, j6, j7, j8⟩ := hT1.out.tk; obtain ⟨i0, i1, i2, i3, i4, i5, i6, i7, i8⟩ := hz1.out.tk; have y0 := hz1.out.frozen 0; have y1 := hz1.out.frozen 1; have y2 := hz1.out.frozen 2; have y3 := hz1.out.frozen 3; have y4 := hz1.out.frozen 4; have y5 := hz1.out.frozen 5; have y6 := hz1.out.frozen 6; have y7 := hz1.out.frozen 7; have y8 := hz1.out.frozen 8))
    refine ret_tok (p := 2) rfl rfl (tk_sets hz1.out t) rfl ?_
    have hs : Fr (fun k => k = w.heap.size) w1 (sets w1 w.heap.size 0 (tkA t).toList) := sets_fr (S := fun k => k = w.heap.size) (.inl rfl) _ _ _ (Fr.refl _ _)
    exact ⟨rfl, hA1.out.fr hs (by rintro k (e | e | e | e | e | e | e) (h : k = w.heap.size) <;> omega), sets_fr (S := FmS B) (a := w) (b := w.heap.size) (.inr (Nat.le_refl _)) (tkA t).toList w1 0 (hfr0.out.trans hf1)⟩
  · rw [if_neg hk1]
    have hkd : (t.kind == 1) = false := by simpa using hk1
    clear hR hk1 hF
    go_enter Tryz.func190, Tryz.ntmps190
    go_wp2_with fail
    go_region
    go_wp2
    refine ret_tok (p := 2) rfl rfl (((tk_new (w.setCell ⟨B.f, 3, none⟩ (I t.st)) t (H := w.heap.size) (by simp)).alloc (.cells (tkA t) 213)).drew) rfl ?_
    exact ⟨rfl, ⟨_, ((h1.out.alloc _).alloc _).drew, hrel.out, rfl, rfl⟩, ((((Fr.refl _ _).fm 3 _).alloc _).alloc _).drew⟩
set_option maxRecDepth 100000 in
set_option maxHeartbeats 2000000 in
theorem takeX (B : FB) (b : Nat → Int) (n nt k : Nat) (st : RS) (w : World) (h : AF w B b n nt k st) (hk0 : (lex b n st.pos).kind ≠ 0) :
    Calls Tryz.prog 196 #[pt B.f] w (Ran w B b n nt (k + 1) (st.take b n) (.tuple #[])) := by
  obtain ⟨F, hF, hR, rfl, rfl⟩ := h
  have hkn := hR.kn
  have hn41 := hR.n41
  have hnx : F.k + 1 < F.nt := by
    have := hR.ends F.k hkn
    rw [hR.tok] at this
    have : ¬ F.k + 1 = F.nt := fun e => hk0 (this.2 e)
    omega
  have c0 := hF.row.cell 0 (by omega)
  have c2 := hF.row.cell 2 (by omega)
  have c3 := hF.row.cell 3 (by omega)
  have z3 := hF.row.frozen 3
  simp only [fmC] at c0 c2 c3
  have hk : (F.k : Int) < 41 := by omega
  have hrel : Bx (Rel b n { F with pos := (lex b n st.pos).fin, k := F.k + 1 } (st.take b n)) := Bx.mk
    { hR with pos := rfl, pn := (lex_fin hR.pn).1, kn := hnx, tok := by show F.toks (F.k + 1) = lex b n (lex b n st.pos).fin; rw [hR.chain F.k hnx, hR.tok] }
  generalize ht : lex b n st.pos = t at *
  obtain ⟨k0, k1, k2, k3, k4, k5, k6, k7, k8⟩ := hF.tokCells (i := F.k) (by omega) (hR.tok.trans ht)
  have h1 := hF.set (F' := { F with pos := t.fin }) 3 (I t.fin) (by intro i hi; rcases i with _ | _ | _ | _ | _ | _ | _ | _ | _ | _ | _ | _ | _ | _ | _ | _ | _ | i <;> first | rfl | omega) rfl rfl rfl rfl rfl rfl rfl
  have d2 := h1.drew.row.cell 2 (by omega)
  have y2 := h1.drew.row.frozen 2
  simp only [fmC] at d2
  have h2 := Bx.mk (h1.drew.set (F' := { F with pos := t.fin, k := F.k + 1 }) 2 (I ((F.k : Int) + 1)) (by intro i hi; rcases i with _ | _ | _ | _ | _ | _ | _ | _ | _ | _ | _ | _ | _ | _ | _ | _ | _ | i <;> first | rfl | omega | (show I ((F.k : Int) + 1) = I ((F.k + 1 : Nat) : Int); congr 1)) rfl rfl rfl rfl rfl rfl rfl)
  clear hF hR h1 k0 k1 k3 k4 k5 k6 k7 k8
  go_enter Tryz.func196, Tryz.ntmps196
  go_wp2_with fail
  go_region
  go_wp2
  go_end0
  exact ⟨rfl, ⟨_, h2.out, hrel.out, rfl, rfl⟩, (((Fr.refl _ _).fm 3 _).drew).fm 2 _⟩
end Go.Proofs.Qxb6500326aGreat
