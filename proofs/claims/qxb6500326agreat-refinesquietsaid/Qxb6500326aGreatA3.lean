/-
  DERIVED. THE PLAIN LAW OF LAYER val: the program of a lawful tree leaves the tree's worth.
-/
import Derived.Test.Qxb6500326aGreatA2
namespace Go.Proofs.Qxb6500326aGreat
set_option linter.unusedVariables false
set_option linter.unusedSimpArgs false
def AgrE (set : BitVec 32) (env env' : Nat → Vl) : Prop := ∀ j, set.getLsbD j = true → env j = env' j
theorem AgrE.left {a b : BitVec 32} {e e' : Nat → Vl} (h : AgrE (a ||| b) e e') : AgrE a e e' := fun j hj => h j (by simp [hj])
theorem AgrE.right {a b : BitVec 32} {e e' : Nat → Vl} (h : AgrE (a ||| b) e e') : AgrE b e e' := fun j hj => h j (by simp [hj])
structure Sub (L : List Nd) (lo i : Nat) (pre : List Ins) (val : (Nat → Vl) → Vl) : Prop where
  comp : ∀ s : Cm, ∃ ow', desc L lo (i + 1 - lo) s = ⟨ow', pre ++ s.code, s.cells ||| rdS L lo (i + 1 - lo)⟩ ∧ ∀ j, j < lo ∨ i < j → ow' j = s.ow j
  lw : ∀ env, LwE env → Lw (val env)
  wo : ∀ env, LwE env → Wo L env i (val env)
  run : ∀ env, LwE env → ∀ S T, S.length + (i + 1 - lo) ≤ 24 → T.length + (i + 1 - lo) ≤ 24 → RunM env pre ⟨S, T⟩ ⟨val env :: S, T⟩
  agree : ∀ env env', AgrE (rdS L lo (i + 1 - lo)) env env' → val env = val env'
structure SubA (L : List Nd) (fn : Int) (m j : Nat) (pre : List Ins) (ps : (Nat → Vl) → List Vl) (tk : (Nat → Vl) → Fd → Fd) : Prop where
  comp : ∀ (s : Cm) c0, s.cells = c0 ||| linkS (nd L j) → ∃ ow', desc L m (j + 1 - m) s = ⟨ow', pre ++ s.code, c0 ||| rdS L m (j + 1 - m)⟩ ∧ ∀ i, i < m ∨ j < i → ow' i = s.ow i
  plen : ∀ env, (ps env).length ≤ 1
  run : ∀ env, LwE env → ∀ S T, S.length + (j + 1 - m) ≤ 24 → T.length + (j + 1 - m) ≤ 24 → RunM env pre ⟨S, T⟩ ⟨ps env ++ S, T⟩
  step : ∀ env, LwE env → ∀ S T s k, FI k s → k ≤ 576 → S.length < 24 → T.length < 24 → StepM env ⟨linkD (nd L j), fn, v0, linkS (nd L j)⟩ ⟨ps env ++ S, tl fn s :: T⟩ ⟨S, tl fn (tk env s) :: T⟩
  fi : ∀ env, LwE env → ∀ s k, FI k s → FI (k + 24) (tk env s)
  fo : ∀ env, LwE env → ∀ b s k, j + 1 < L.length → nd L (j + 1) = nArg j b → b < j → Fo L env fn k b s → FI k s → Fo L env fn (k + 24) ((j + 1 : Nat) : Int) (tk env s)
  agree : ∀ env env', AgrE (rdS L m (j + 1 - m)) env env' → tk env = tk env'
structure SubF (L : List Nd) (fn : Int) (k lo i : Nat) (pre : List Ins) (fd : (Nat → Vl) → Fd) : Prop where
  comp : ∀ s : Cm, s.ow i = fn → ∃ ow', desc L lo (i + 1 - lo) s = ⟨ow', pre ++ s.code, s.cells ||| rdS L lo (i + 1 - lo)⟩ ∧ ∀ j, j < lo ∨ i < j → ow' j = s.ow j
  len : lo + 2 * k ≤ i + 1
  fi : ∀ env, LwE env → FI (24 * k) (fd env)
  fo : ∀ env, LwE env → Fo L env fn (24 * k) i (fd env)
  run : ∀ env, LwE env → ∀ S T, S.length + (i + 1 - lo) ≤ 24 → T.length + (i + 1 - lo) ≤ 24 → RunM env pre ⟨S, T⟩ ⟨S, tl fn (fd env) :: T⟩
  agree : ∀ env env', AgrE (rdS L lo (i + 1 - lo)) env env' → fd env = fd env'
def ArgsW (L : List Nd) (env : Nat → Vl) : Int → List Vl → Prop
  | i, [] => i = -1
  | i, v :: r => ∃ (j : Nat) (b : Int), i = ((j + 1 : Nat) : Int) ∧ nd L (j + 1) = nArg j b ∧ b < j ∧ Wo L env j v ∧ Lw v ∧ ArgsW L env b r
structure SubV (L : List Nd) (fn : Int) (k lo i : Nat) (pre : List Ins) (vs : (Nat → Vl) → List Vl) : Prop where
  comp : ∀ s : Cm, s.ow i = fn → ∃ ow', desc L lo (i + 1 - lo) s = ⟨ow', pre ++ s.code, s.cells ||| rdS L lo (i + 1 - lo)⟩ ∧ ∀ j, j < lo ∨ i < j → ow' j = s.ow j
  len : lo + 2 * k ≤ i + 1
  vlen : ∀ env, (vs env).length = k
  wo : ∀ env, LwE env → ArgsW L env i (vs env)
  run : ∀ env, LwE env → ∀ S T, S.length + (i + 1 - lo) ≤ 24 → T.length + (i + 1 - lo) ≤ 24 → RunM env pre ⟨S, T⟩ ⟨vs env ++ S, T⟩
  agree : ∀ env env', AgrE (rdS L lo (i + 1 - lo)) env env' → vs env = vs env'
theorem desc_one (L : List Nd) (i : Nat) (s : Cm) : desc L i 1 s = cmp1 L i s := rfl
theorem rdS_one (L : List Nd) (i : Nat) : rdS L i 1 = rdN (nd L i) := by
  show 0#32 ||| rdN (nd L (i + 0)) = _
  rw [BitVec.zero_or, Nat.add_zero]
theorem sub_push {L : List Nd} {i : Nat} (v : Vl) (hv : Lw v) (h1 : ∀ s : Cm, cmp1 L i s = s.emit 1 0 v 0#32) (h2 : rdN (nd L i) = 0#32) (h3 : ∀ env, LwE env → Wo L env i v) : Sub L i i [⟨1, 0, v, 0#32⟩] (fun _ => v) := by
  have e : i + 1 - i = 1 := by omega
  refine ⟨fun s => ?_, fun _ _ => hv, h3, fun env he S T hS hT => .one (.push _ _ _ _ _ (by omega)), fun _ _ _ => rfl⟩
  rw [e, desc_one, h1, rdS_one, h2]
  exact ⟨s.ow, rfl, fun _ _ => rfl⟩
theorem leaf_sub {L : List Nd} {i : Nat} (hi : i < L.length) (h : Leaf (nd L i) false) : ∃ pre val, Sub L i i pre val := by
  rcases h with ⟨v, e, h1, h2⟩ | e | e | ⟨r, e, hr⟩ | e | ⟨h, _⟩
  · exact ⟨_, _, sub_push (vInt v) (.int _ (by omega) h2) (fun s => by simp [cmp1, e, nNum]) (by simp [rdN, e, nNum]) (fun env _ => .num _ _ hi e)⟩
  · exact ⟨_, _, sub_push ⟨3, 0, es⟩ (.bool _ (.inl rfl)) (fun s => by simp [cmp1, e, nBool]) (by simp [rdN, e, nBool]) (fun env _ => .bool _ _ hi e)⟩
  · exact ⟨_, _, sub_push ⟨3, 1, es⟩ (.bool _ (.inr rfl)) (fun s => by simp [cmp1, e, nBool]) (by simp [rdN, e, nBool]) (fun env _ => .bool _ _ hi e)⟩
  · cases hg : inGrid r
    · exact ⟨_, _, sub_push (vErr 2) (.err _ (by decide) (by decide)) (fun s => by simp [cmp1, e, nRef, referC, hg]) (by simp [rdN, e, nRef, hg]) (fun env _ => .refOut _ r hi e hg)⟩
    · have hb := cellOf_bd hg
      have e1 : i + 1 - i = 1 := by omega
      have hrd : rdN (nd L i) = bit (cellOf r).toNat := by simp [rdN, e, nRef, hg]
      refine ⟨[⟨2, cellOf r, v0, bit (cellOf r).toNat⟩], fun env => env (cellOf r).toNat, fun s => ?_, fun env he => he _ (by omega), fun env he => .ref _ r hi e hg, fun env he S T hS hT => .one ?_, fun env env' ha => ha _ ?_⟩
      · rw [e1, desc_one, rdS_one, hrd]
        refine ⟨s.ow, ?_, fun _ _ => rfl⟩
        simp [cmp1, e, nRef, referC, hg, Cm.emit]
      · have := StepM.cell (env := env) (cellOf r).toNat v0 (bit (cellOf r).toNat) S T (by omega) (by omega)
        rw [show (((cellOf r).toNat : Nat) : Int) = cellOf r from by omega] at this
        exact this
      · rw [e1, rdS_one, hrd]; unfold bit; simp; omega
  · exact ⟨_, _, sub_push (vErr 2) (.err _ (by decide) (by decide)) (fun s => by simp [cmp1, e, nBad]) (by simp [rdN, e, nBad]) (fun env _ => .bad _ hi e)⟩
  · cases h
theorem argv {L : List Nd} {fn : Int} (hf : 1 ≤ fn) (ht : tallies fn = true) {m j : Nat} (hk : (nd L j).kind ≠ 4) {pre : List Ins} {val : (Nat → Vl) → Vl} (h : Sub L m j pre val) :
    SubA L fn m j pre (fun env => [val env]) (fun env s => takeM s fn (val env) false) := by
  have hk' : ((nd L j).kind == 4) = false := by simpa using hk
  have hS : linkS (nd L j) = 0#32 := by simp [linkS, hk']
  have hD : linkD (nd L j) = 7 := by simp [linkD, hk']
  refine ⟨fun s c0 hc => ?_, fun _ => by simp, h.run, fun env he S T s k fs hk6 hS6 hT6 => ?_, fun env he s k fs => ?_, fun env he b s k hj hn hb hs fs => .arg _ _ _ _ _ _ hj hn hb hs fs hk (h.wo env he) (h.lw env he), fun env env' ha => by rw [h.agree env env' ha]⟩
  · obtain ⟨ow', e1, e2⟩ := h.comp s
    refine ⟨ow', ?_, e2⟩
    rw [e1, hc, hS, BitVec.or_zero]
  · rw [hD, hS, ← take_eq hf ht (h.lw env he)]
    exact .take _ _ _ _ _ _ _ k ⟨hf, ht⟩ hS6 hT6 (by omega) (fs.tb fn) (h.lw env he)
  · exact (fs.take fn (h.lw env he) false).up (by omega)
theorem argr {L : List Nd} {fn : Int} (hf : 1 ≤ fn) (ht : tallies fn = true) {j : Nat} {p q : Ref} (hk : nd L j = nRange p q) :
    ∃ tk, SubA L fn j j [] (fun env => []) tk := by
  have e1 : j + 1 - j = 1 := by omega
  have hS : linkS (nd L j) = blockS p q := by simp [linkS, hk, nRange]
  have hR : rdN (nd L j) = blockS p q := by simp [rdN, hk, nRange]
  have hc : ∀ s : Cm, cmp1 L j s = s := fun s => by simp [cmp1, hk, nRange]
  have comp : ∀ (s : Cm) c0, s.cells = c0 ||| linkS (nd L j) → ∃ ow', desc L j (j + 1 - j) s = ⟨ow', [] ++ s.code, c0 ||| rdS L j (j + 1 - j)⟩ ∧ ∀ i, i < j ∨ j < i → ow' i = s.ow i := by
    intro s c0 h
    refine ⟨s.ow, ?_, fun _ _ => rfl⟩
    rw [e1, desc_one, hc, rdS_one, hR, ← hS, ← h]; rfl
  cases hb : blockOK p q
  · have hD : linkD (nd L j) = 9 := by simp [linkD, hk, nRange, hb]
    have l2 : Lw (vErr 2) := .err _ (by decide) (by decide)
    refine ⟨fun env s => takeM s fn (vErr 2) true, comp, fun _ => by simp, fun env he S T _ _ => .nil _, fun env he S T s k fs hk6 hS6 hT6 => ?_, fun env he s k fs => (fs.take fn l2 true).up (by omega), fun env he b s k hj hn hb' hs fs => .lost _ _ _ _ _ p q hj hn hb' hs fs hk hb, fun _ _ _ => rfl⟩
    rw [hD, hS, ← take_eq hf ht l2]
    exact .lost _ _ _ _ _ _ k ⟨hf, ht⟩ hT6 (by omega) (fs.tb fn)
  · have hD : linkD (nd L j) = 8 := by simp [linkD, hk, nRange, hb]
    refine ⟨fun env s => sweepM fn (blockS p q) env 0 24 s, comp, fun _ => by simp, fun env he S T _ _ => .nil _, fun env he S T s k fs hk6 hS6 hT6 => ?_, fun env he s k fs => FI.sweep he 24 0 s k (by omega) fs, fun env he b s k hj hn hb' hs fs => .range _ _ _ _ _ p q hj hn hb' hs fs hk hb, fun env env' ha => ?_⟩
    · rw [hD, hS, ← sweep_eq hf ht _ he 24 0 s (by omega)]
      exact .range _ _ _ _ _ _ k ⟨hf, ht⟩ hT6 (by omega) (fs.tb fn)
    · funext s
      rw [e1, rdS_one, hR] at ha
      exact sweep_agree 24 0 s ha
theorem rd_arg {L : List Nd} {i : Nat} {a b : Int} (h : nd L i = nArg a b) : rdN (nd L i) = 0#32 := by simp [rdN, h, nArg]
theorem lkF {L : List Nd} (hL : L.length ≤ 24) {fn : Int} (hf : 1 ≤ fn) (ht : tallies fn = true) {S : Nat → Nat → Bool → Prop} {rg : Bool} (hle : ∀ j m a, S j m a → m ≤ j)
    (hS : ∀ j m, S j m rg → ∃ pre ps tk, SubA L fn m j pre ps tk) : ∀ (k i lo : Nat), Lk S L rg k i lo → ∃ pre fo, SubF L fn k lo i pre fo
  | 0, _, _, h => h.elim
  | k + 1, i, lo, h => by
    obtain ⟨h1, h2, m, h3, h4⟩ := h
    obtain ⟨j, rfl⟩ : ∃ j, i = j + 1 := ⟨i - 1, by omega⟩
    rw [show j + 1 - 1 = j from by omega] at h3
    have hm := hle _ _ _ h3
    obtain ⟨pa, ps, tk, hA⟩ := hS _ _ h3
    rcases h4 with ⟨e0, e, el⟩ | ⟨a, b, e, d⟩
    · subst e0 el
      rw [show (((j + 1 : Nat) : Int) - 1) = (j : Int) from by omega] at e
      have hrd := rd_arg e
      refine ⟨pa ++ [⟨6, fn, v0, 0#32⟩, ⟨linkD (nd L j), fn, v0, linkS (nd L j)⟩], fun env => tk env fd0, fun s hs => ?_, by omega, fun env he => ?_, fun env he => ?_, fun env he S' T hS' hT => ?_, fun env env' ha => ?_⟩
      · have hc : cmp1 L (j + 1) s = (s.emit (linkD (nd L j)) fn v0 (linkS (nd L j))).emit 6 fn v0 0#32 := by
          simp [cmp1, e, nArg, linkC, hs, ht]
        obtain ⟨ow', e1, e2⟩ := hA.comp ((s.emit (linkD (nd L j)) fn v0 (linkS (nd L j))).emit 6 fn v0 0#32) s.cells (by simp [Cm.emit])
        refine ⟨ow', ?_, fun i hi => ?_⟩
        · rw [show j + 1 + 1 - lo = (j + 1 - lo) + 1 from by omega]
          show desc L lo (j + 1 - lo) (cmp1 L (lo + (j + 1 - lo)) s) = _
          rw [show lo + (j + 1 - lo) = j + 1 from by omega, hc, e1]
          show _ = Cm.mk ow' _ (s.cells ||| (rdS L lo (j + 1 - lo) ||| rdN (nd L (lo + (j + 1 - lo)))))
          rw [show lo + (j + 1 - lo) = j + 1 from by omega, hrd, BitVec.or_zero]
          simp [Cm.emit]
        · rw [e2 i (by omega)]; rfl
      · exact (hA.fi env he fd0 0 FI.zero).up (by omega)
      · have := hA.fo env he (-1) fd0 0 h2 e (by omega) (.nil _) FI.zero
        rw [show 24 * (0 + 1) = 0 + 24 from rfl]
        exact this
      · refine (hA.run env he S' T (by omega) (by omega)).append (.cons _ _ _ ⟨ps env ++ S', tl0 :: T⟩ _ (.opn _ _ _ _ _ (by omega)) (.one ?_))
        have := hA.step env he S' T fd0 0 FI.zero (by omega) (by omega) (by omega)
        rw [tl_zero] at this
        exact this
      · rw [show j + 1 + 1 - lo = (j + 1 - lo) + 1 from by omega] at ha
        rw [hA.agree env env' ha.left]
    · rw [show (((j + 1 : Nat) : Int) - 1) = (j : Int) from by omega] at e
      obtain ⟨q, rfl⟩ : ∃ q, m = q + 1 := ⟨m - 1, by omega⟩
      rw [show q + 1 - 1 = q from by omega] at d
      rw [show (((q + 1 : Nat) : Int) - 1) = (q : Int) from by omega] at e
      obtain ⟨pl, fo, hF⟩ := lkF hL hf ht hle hS k q lo d
      have hlen := hF.len
      have hrd := rd_arg e
      refine ⟨pl ++ (pa ++ [⟨linkD (nd L j), fn, v0, linkS (nd L j)⟩]), fun env => tk env (fo env), fun s hs => ?_, by omega, fun env he => ?_, fun env he => ?_, fun env he S' T hS' hT => ?_, fun env env' ha => ?_⟩
      · have hc : cmp1 L (j + 1) s = (s.own q fn).emit (linkD (nd L j)) fn v0 (linkS (nd L j)) := by
          simp [cmp1, e, nArg, linkC, hs, ht]
          all_goals (intro hq; omega)
        obtain ⟨ow1, e1, e2⟩ := hA.comp ((s.own q fn).emit (linkD (nd L j)) fn v0 (linkS (nd L j))) s.cells (by simp [Cm.emit, Cm.own])
        have hq : ow1 q = fn := by rw [e2 q (by omega)]; simp [Cm.emit, Cm.own]
        obtain ⟨ow2, e3, e4⟩ := hF.comp ⟨ow1, pa ++ ⟨linkD (nd L j), fn, v0, linkS (nd L j)⟩ :: s.code, s.cells ||| rdS L (q + 1) (j + 1 - (q + 1))⟩ hq
        refine ⟨ow2, ?_, fun i hi => ?_⟩
        · rw [show j + 1 + 1 - lo = (j + 1 - lo) + 1 from by omega]
          show desc L lo (j + 1 - lo) (cmp1 L (lo + (j + 1 - lo)) s) = Cm.mk ow2 _ (s.cells ||| (rdS L lo (j + 1 - lo) ||| rdN (nd L (lo + (j + 1 - lo)))))
          rw [show lo + (j + 1 - lo) = j + 1 from by omega, hc, hrd, BitVec.or_zero, show j + 1 - lo = (q + 1 - lo) + (j + 1 - (q + 1)) from by omega, desc_add, rdS_add, show lo + (q + 1 - lo) = q + 1 from by omega, e1]
          refine e3.trans ?_
          simp only [List.append_assoc, List.cons_append, List.nil_append]
          congr 1
          ac_rfl
        · rw [e4 i (by omega)]
          show ow1 i = _
          rw [e2 i (by omega)]
          simp [Cm.emit, Cm.own]; omega
      · exact (hA.fi env he _ _ (hF.fi env he)).up (by omega)
      · have := hA.fo env he q (fo env) (24 * k) h2 e (by omega) (hF.fo env he) (hF.fi env he)
        rw [show 24 * (k + 1) = 24 * k + 24 from by omega]
        exact this
      · refine (hF.run env he S' T (by omega) (by omega)).append ((hA.run env he S' (tl fn (fo env) :: T) (by omega) (by simp; omega)).append (.one ?_))
        exact hA.step env he S' T (fo env) (24 * k) (hF.fi env he) (by omega) (by omega) (by omega)
      · rw [show j + 1 + 1 - lo = (j + 1 - lo) + 1 from by omega] at ha
        have hb := ha.left
        rw [show j + 1 - lo = (q + 1 - lo) + (j + 1 - (q + 1)) from by omega, rdS_add, show lo + (q + 1 - lo) = q + 1 from by omega] at hb
        rw [hA.agree env env' hb.right, hF.agree env env' hb.left]
theorem lkV {L : List Nd} (hL : L.length ≤ 24) {fn : Int} (ht : tallies fn = false) {S : Nat → Nat → Bool → Prop} {rg : Bool} (hle : ∀ j m a, S j m a → m ≤ j)
    (hS : ∀ j m, S j m rg → ∃ pre val, Sub L m j pre val) : ∀ (k i lo : Nat), Lk S L rg k i lo → ∃ pre vs, SubV L fn k lo i pre vs
  | 0, _, _, h => h.elim
  | k + 1, i, lo, h => by
    obtain ⟨h1, h2, m, h3, h4⟩ := h
    obtain ⟨j, rfl⟩ : ∃ j, i = j + 1 := ⟨i - 1, by omega⟩
    rw [show j + 1 - 1 = j from by omega] at h3
    have hm := hle _ _ _ h3
    obtain ⟨pa, val, hA⟩ := hS _ _ h3
    rcases h4 with ⟨e0, e, el⟩ | ⟨a, b, e, d⟩
    · subst e0 el
      rw [show (((j + 1 : Nat) : Int) - 1) = (j : Int) from by omega] at e
      have hrd := rd_arg e
      refine ⟨pa, fun env => [val env], fun s hs => ?_, by omega, fun env => rfl, fun env he => ⟨j, -1, rfl, e, by omega, hA.wo env he, hA.lw env he, rfl⟩, fun env he S' T hS' hT => hA.run env he S' T (by omega) (by omega), fun env env' ha => ?_⟩
      · have hc : cmp1 L (j + 1) s = s := by
          simp [cmp1, e, nArg, linkC, hs, ht]
        obtain ⟨ow', e1, e2⟩ := hA.comp s
        refine ⟨ow', ?_, fun i hi => e2 i (by omega)⟩
        rw [show j + 1 + 1 - lo = (j + 1 - lo) + 1 from by omega]
        show desc L lo (j + 1 - lo) (cmp1 L (lo + (j + 1 - lo)) s) = Cm.mk ow' _ (s.cells ||| (rdS L lo (j + 1 - lo) ||| rdN (nd L (lo + (j + 1 - lo)))))
        rw [show lo + (j + 1 - lo) = j + 1 from by omega, hc, e1, hrd, BitVec.or_zero]
      · rw [show j + 1 + 1 - lo = (j + 1 - lo) + 1 from by omega] at ha
        rw [hA.agree env env' ha.left]
    · rw [show (((j + 1 : Nat) : Int) - 1) = (j : Int) from by omega] at e
      obtain ⟨q, rfl⟩ : ∃ q, m = q + 1 := ⟨m - 1, by omega⟩
      rw [show q + 1 - 1 = q from by omega] at d
      rw [show (((q + 1 : Nat) : Int) - 1) = (q : Int) from by omega] at e
      obtain ⟨pl, vs, hF⟩ := lkV hL ht hle hS k q lo d
      have hlen := hF.len
      have hrd := rd_arg e
      refine ⟨pl ++ pa, fun env => val env :: vs env, fun s hs => ?_, by omega, fun env => by simp [hF.vlen], fun env he => ⟨j, q, rfl, e, by omega, hA.wo env he, hA.lw env he, hF.wo env he⟩, fun env he S' T hS' hT => ?_, fun env env' ha => ?_⟩
      · have hc : cmp1 L (j + 1) s = s.own q fn := by
          simp [cmp1, e, nArg, linkC, hs, ht]
          all_goals (intro hq; omega)
        obtain ⟨ow1, e1, e2⟩ := hA.comp (s.own q fn)
        have hq : ow1 q = fn := by rw [e2 q (by omega)]; simp [Cm.own]
        obtain ⟨ow2, e3, e4⟩ := hF.comp ⟨ow1, pa ++ s.code, s.cells ||| rdS L (q + 1) (j + 1 - (q + 1))⟩ hq
        refine ⟨ow2, ?_, fun i hi => ?_⟩
        · rw [show j + 1 + 1 - lo = (j + 1 - lo) + 1 from by omega]
          show desc L lo (j + 1 - lo) (cmp1 L (lo + (j + 1 - lo)) s) = Cm.mk ow2 _ (s.cells ||| (rdS L lo (j + 1 - lo) ||| rdN (nd L (lo + (j + 1 - lo)))))
          rw [show lo + (j + 1 - lo) = j + 1 from by omega, hc, hrd, BitVec.or_zero, show j + 1 - lo = (q + 1 - lo) + (j + 1 - (q + 1)) from by omega, desc_add, rdS_add, show lo + (q + 1 - lo) = q + 1 from by omega, e1]
          refine e3.trans ?_
          simp only [List.append_assoc]
          congr 1
          ac_rfl
        · rw [e4 i (by omega)]
          show ow1 i = _
          rw [e2 i (by omega)]
          simp [Cm.own]; omega
      · have hvl := hF.vlen env
        refine (hF.run env he S' T (by omega) (by omega)).append (hA.run env he (vs env ++ S') T ?_ (by omega))
        rw [List.length_append, hvl]; omega
      · rw [show j + 1 + 1 - lo = (j + 1 - lo) + 1 from by omega] at ha
        have hb := ha.left
        rw [show j + 1 - lo = (q + 1 - lo) + (j + 1 - (q + 1)) from by omega, rdS_add, show lo + (q + 1 - lo) = q + 1 from by omega] at hb
        rw [hA.agree env env' hb.right, hF.agree env env' hb.left]
theorem arity_op {op k : Int} (h : arity op k = true) : (op = 1 ∨ op = 2 ∨ op = 3 ∨ op = 4 ∨ op = 6 ∨ op = 7) ∨ (op = 5 ∧ k = 3) ∨ ((op = 8 ∨ op = 9 ∨ op = 10) ∧ k = 1) := by
  unfold arity at h
  repeat' split at h
  all_goals simp at h <;> omega
theorem sp_sub {L : List Nd} (hL : L.length ≤ 24) : ∀ (f i lo : Nat), Sp L f i lo false → ∃ pre val, Sub L lo i pre val
  | 0, _, _, h => h.elim
  | f + 1, i, lo, h => by
    obtain ⟨h0, h⟩ := h
    rcases h with ⟨el, hl⟩ | ⟨h1, h2, h3⟩ | ⟨op, m, h1, h2, h3, h4, h5, h6, h7⟩ | ⟨op, k, h1, h2, h3, h4⟩
    · subst el; exact leaf_sub h0 hl
    · obtain ⟨j, rfl⟩ : ∃ j, i = j + 1 := ⟨i - 1, by omega⟩
      rw [show j + 1 - 1 = j from by omega] at h3
      rw [show (((j + 1 : Nat) : Int) - 1) = (j : Int) from by omega] at h2
      have hle := Sp.le _ _ _ _ h3
      obtain ⟨pre, val, hA⟩ := sp_sub hL f _ _ h3
      have hrd : rdN (nd L (j + 1)) = 0#32 := by simp [rdN, h2, nNeg]
      refine ⟨pre ++ [⟨3, 0, v0, 0#32⟩], fun env => unaryP 0 (val env), fun s => ?_, fun env he => lw_unary (hA.lw env he), fun env he => .neg _ _ h0 h2 (hA.wo env he) (hA.lw env he), fun env he S T hS hT => ?_, fun env env' ha => ?_⟩
      · have hc : cmp1 L (j + 1) s = s.emit 3 0 v0 0#32 := by simp [cmp1, h2, nNeg]
        obtain ⟨ow', e1, e2⟩ := hA.comp (s.emit 3 0 v0 0#32)
        refine ⟨ow', ?_, fun i hi => e2 i (by omega)⟩
        rw [show j + 1 + 1 - lo = (j + 1 - lo) + 1 from by omega]
        show desc L lo (j + 1 - lo) (cmp1 L (lo + (j + 1 - lo)) s) = Cm.mk ow' _ (s.cells ||| (rdS L lo (j + 1 - lo) ||| rdN (nd L (lo + (j + 1 - lo)))))
        rw [show lo + (j + 1 - lo) = j + 1 from by omega, hc, e1, hrd, BitVec.or_zero]
        simp [Cm.emit]
      · exact (hA.run env he S T (by omega) (by omega)).append (.one (.unary _ _ _ _ _ _ (by omega) (hA.lw env he)))
      · rw [show j + 1 + 1 - lo = (j + 1 - lo) + 1 from by omega] at ha
        rw [hA.agree env env' ha.left]
    · obtain ⟨j, rfl⟩ : ∃ j, i = j + 1 := ⟨i - 1, by omega⟩
      obtain ⟨q, rfl⟩ : ∃ q, m = q + 1 := ⟨m - 1, by omega⟩
      rw [show j + 1 - 1 = j from by omega] at h6
      rw [show q + 1 - 1 = q from by omega] at h7
      rw [show (((j + 1 : Nat) : Int) - 1) = (j : Int) from by omega, show (((q + 1 : Nat) : Int) - 1) = (q : Int) from by omega] at h5
      have hle := Sp.le _ _ _ _ h6
      have hle' := Sp.le _ _ _ _ h7
      obtain ⟨pb, vb, hB⟩ := sp_sub hL f _ _ h6
      obtain ⟨pa, va, hA⟩ := sp_sub hL f _ _ h7
      have hrd : rdN (nd L (j + 1)) = 0#32 := by simp [rdN, h5, nBin]
      refine ⟨pa ++ (pb ++ [⟨4, op, v0, 0#32⟩]), fun env => binP op (va env) (vb env), fun s => ?_, fun env he => lw_bin (hA.lw env he) (hB.lw env he), fun env he => .bin _ _ _ _ _ h0 ⟨h1, h2⟩ h5 (by omega) (hA.wo env he) (hB.wo env he) (hA.lw env he) (hB.lw env he), fun env he S T hS hT => ?_, fun env env' ha => ?_⟩
      · have hc : cmp1 L (j + 1) s = s.emit 4 op v0 0#32 := by simp [cmp1, h5, nBin]
        obtain ⟨ow1, e1, e2⟩ := hB.comp (s.emit 4 op v0 0#32)
        obtain ⟨ow2, e3, e4⟩ := hA.comp ⟨ow1, pb ++ (s.emit 4 op v0 0#32).code, (s.emit 4 op v0 0#32).cells ||| rdS L (q + 1) (j + 1 - (q + 1))⟩
        refine ⟨ow2, ?_, fun i hi => ?_⟩
        · rw [show j + 1 + 1 - lo = (j + 1 - lo) + 1 from by omega]
          show desc L lo (j + 1 - lo) (cmp1 L (lo + (j + 1 - lo)) s) = Cm.mk ow2 _ (s.cells ||| (rdS L lo (j + 1 - lo) ||| rdN (nd L (lo + (j + 1 - lo)))))
          rw [show lo + (j + 1 - lo) = j + 1 from by omega, hc, hrd, BitVec.or_zero, show j + 1 - lo = (q + 1 - lo) + (j + 1 - (q + 1)) from by omega, desc_add, rdS_add, show lo + (q + 1 - lo) = q + 1 from by omega, e1]
          refine e3.trans ?_
          simp only [Cm.emit, BitVec.or_zero, List.append_assoc, List.cons_append, List.nil_append]
          congr 1
          ac_rfl
        · rw [e4 i (by omega)]
          show ow1 i = _
          rw [e2 i (by omega)]; rfl
      · refine (hA.run env he S T (by omega) (by omega)).append ((hB.run env he (va env :: S) T (by simp; omega) (by omega)).append (.one ?_))
        exact .bin _ _ _ _ _ _ _ ⟨h1, h2⟩ (by omega) (hA.lw env he) (hB.lw env he)
      · rw [show j + 1 + 1 - lo = (j + 1 - lo) + 1 from by omega] at ha
        have hb := ha.left
        rw [show j + 1 - lo = (q + 1 - lo) + (j + 1 - (q + 1)) from by omega, rdS_add, show lo + (q + 1 - lo) = q + 1 from by omega] at hb
        rw [hB.agree env env' hb.right, hA.agree env env' hb.left]
    · obtain ⟨j, rfl⟩ : ∃ j, i = j + 1 := ⟨i - 1, by omega⟩
      rw [show j + 1 - 1 = j from by omega] at h4
      rw [show (((j + 1 : Nat) : Int) - 1) = (j : Int) from by omega] at h2
      have hle := Lk.le (Sp.le f) _ _ _ h4
      have hrd : rdN (nd L (j + 1)) = 0#32 := by simp [rdN, h2, nCall]
      have compC : ∀ (d : Int) (pre : List Ins), (if (op == 5) = true then 5 else if tallies op = true then 10 else 3) = d →
          (∀ s : Cm, s.ow j = op → ∃ ow', desc L lo (j + 1 - lo) s = ⟨ow', pre ++ s.code, s.cells ||| rdS L lo (j + 1 - lo)⟩ ∧ ∀ i, i < lo ∨ j < i → ow' i = s.ow i) →
          ∀ s : Cm, ∃ ow', desc L lo (j + 1 + 1 - lo) s = ⟨ow', (pre ++ [⟨d, op, v0, 0#32⟩]) ++ s.code, s.cells ||| rdS L lo (j + 1 + 1 - lo)⟩ ∧ ∀ i, i < lo ∨ j + 1 < i → ow' i = s.ow i := by
        intro d pre hd hcomp s
        have hc : cmp1 L (j + 1) s = (s.own j op).emit d op v0 0#32 := by
          rw [← hd]; simp [cmp1, h2, nCall, callC]
        obtain ⟨ow', e1, e2⟩ := hcomp ((s.own j op).emit d op v0 0#32) (by simp [Cm.emit, Cm.own])
        refine ⟨ow', ?_, fun i hi => ?_⟩
        · rw [show j + 1 + 1 - lo = (j + 1 - lo) + 1 from by omega]
          show desc L lo (j + 1 - lo) (cmp1 L (lo + (j + 1 - lo)) s) = Cm.mk ow' _ (s.cells ||| (rdS L lo (j + 1 - lo) ||| rdN (nd L (lo + (j + 1 - lo)))))
          rw [show lo + (j + 1 - lo) = j + 1 from by omega, hc, e1, hrd, BitVec.or_zero]
          simp [Cm.emit, Cm.own]
        · rw [e2 i (by omega)]; simp [Cm.emit, Cm.own]; omega
      have agr : ∀ {env env' : Nat → Vl}, AgrE (rdS L lo (j + 1 + 1 - lo)) env env' → AgrE (rdS L lo (j + 1 - lo)) env env' := by
        intro env env' ha
        rw [show j + 1 + 1 - lo = (j + 1 - lo) + 1 from by omega] at ha
        exact ha.left
      rcases arity_op h3 with ho | ⟨rfl, rfl⟩ | ⟨ho, rfl⟩
      · have hf : 1 ≤ op := by omega
        have ht : tallies op = true := by rcases ho with e | e | e | e | e | e <;> subst e <;> rfl
        have hkp := arity_pos h3
        obtain ⟨pre, fo, hF⟩ := lkF hL hf ht (Sp.le f) (fun q m hq => by
          by_cases hk4 : (nd L q).kind = 4
          · cases f with
            | zero => exact hq.elim
            | succ f =>
              obtain ⟨_, hq⟩ := hq
              rcases hq with ⟨el, hl⟩ | ⟨_, hn, _⟩ | ⟨_, _, _, _, _, _, hn, _⟩ | ⟨_, _, _, hn, _⟩
              · subst el
                rcases hl with ⟨v, e, _⟩ | e | e | ⟨r, e, _⟩ | e | ⟨_, r, s, e, _⟩
                · rw [e] at hk4; simp [nNum] at hk4
                · rw [e] at hk4; simp [nBool] at hk4
                · rw [e] at hk4; simp [nBool] at hk4
                · rw [e] at hk4; simp [nRef] at hk4
                · rw [e] at hk4; simp [nBad] at hk4
                · obtain ⟨tk, h⟩ := argr hf ht e
                  exact ⟨_, _, _, h⟩
              · rw [hn] at hk4; simp [nNeg] at hk4
              · rw [hn] at hk4; simp [nBin] at hk4
              · rw [hn] at hk4; simp [nCall] at hk4
          · obtain ⟨pre, val, h⟩ := sp_sub hL f q m (hq.noarg hk4)
            exact ⟨_, _, _, argv hf ht hk4 h⟩) _ _ _ h4
        have hlen := hF.len
        have hd : (if (op == 5) = true then (5 : Int) else if tallies op = true then 10 else 3) = 10 := by
          rw [if_neg (by rcases ho with e | e | e | e | e | e <;> subst e <;> decide), if_pos ht]
        refine ⟨pre ++ [⟨10, op, v0, 0#32⟩], fun env => foldedM (fo env) op, compC 10 pre hd hF.comp, fun env he => lw_folded (hF.fi env he) (by omega) op, fun env he => .fold _ _ _ _ _ h0 ho h2 (hF.fo env he) (by omega), fun env he S T hS hT => ?_, fun env env' ha => by rw [hF.agree env env' (agr ha)]⟩
        refine (hF.run env he S T (by omega) (by omega)).append (.one ?_)
        rw [← shut_eq hf ht]
        exact .close _ _ _ _ _ _ _ ⟨hf, ht⟩ (by omega) (by omega) (by omega) ((hF.fi env he).tb op)
      · obtain ⟨pre, vs, hF⟩ := lkV hL (fn := 5) rfl (Sp.le f) (fun q m hq => sp_sub hL f q m hq) _ _ _ h4
        have hlen := hF.len
        have h3v : ∀ env, ∃ y x c, vs env = [y, x, c] := fun env => by
          have := hF.vlen env
          match hv : vs env, this with
          | [y, x, c], _ => exact ⟨y, x, c, rfl⟩
        refine ⟨pre ++ [⟨5, 5, v0, 0#32⟩], fun env => chooseP ((vs env)[2]?.getD v0) ((vs env)[1]?.getD v0) ((vs env)[0]?.getD v0), compC 5 pre rfl hF.comp, fun env he => ?_, fun env he => ?_, fun env he S T hS hT => ?_, fun env env' ha => by rw [hF.agree env env' (agr ha)]⟩
        · obtain ⟨y, x, c, e⟩ := h3v env
          have hw := hF.wo env he
          rw [e] at hw ⊢
          obtain ⟨j3, b3, _, _, _, _, l3, j2, b2, _, _, _, _, l2, j1, b1, _, _, _, _, l1, _⟩ := hw
          exact lw_choose l1 l2 l3
        · obtain ⟨y, x, c, e⟩ := h3v env
          have hw := hF.wo env he
          rw [e] at hw ⊢
          obtain ⟨j3, b3, a3, n3, c3, w3, l3, j2, b2, a2, n2, c2, w2, l2, j1, b1, a1, n1, c1, w1, l1, a0⟩ := hw
          subst a2 a1 a0
          rw [a3] at h2
          exact .cond _ j1 j2 j3 _ _ _ _ h0 h2 n3 n2 n1 (by omega) (by omega) (by omega) w1 w2 w3 l1 l2 l3
        · obtain ⟨y, x, c, e⟩ := h3v env
          have hw := hF.wo env he
          have hr := hF.run env he S T (by omega) (by omega)
          rw [e] at hw hr ⊢
          obtain ⟨j3, b3, a3, n3, c3, w3, l3, j2, b2, a2, n2, c2, w2, l2, j1, b1, a1, n1, c1, w1, l1, a0⟩ := hw
          exact hr.append (.one (.choose _ _ _ _ _ _ S _ (by have : (3 : Int).toNat = 3 := rfl; omega) l1))
      · have ht : tallies op = false := by rcases ho with e | e | e <;> subst e <;> rfl
        have hrg : rangeOK op = false := by rcases ho with e | e | e <;> subst e <;> rfl
        rw [hrg] at h4
        obtain ⟨pre, vs, hF⟩ := lkV hL (fn := op) ht (Sp.le f) (fun q m hq => sp_sub hL f q m hq) _ _ _ h4
        have hlen := hF.len
        have h1v : ∀ env, ∃ y, vs env = [y] := fun env => by
          have := hF.vlen env
          match hv : vs env, this with
          | [y], _ => exact ⟨y, rfl⟩
        have hd : (if (op == 5) = true then (5 : Int) else if tallies op = true then 10 else 3) = 3 := by
          rw [if_neg (by rcases ho with e | e | e <;> subst e <;> decide), if_neg (by rw [ht]; decide)]
        refine ⟨pre ++ [⟨3, op, v0, 0#32⟩], fun env => unaryP op ((vs env)[0]?.getD v0), compC 3 pre hd hF.comp, fun env he => ?_, fun env he => ?_, fun env he S T hS hT => ?_, fun env env' ha => by rw [hF.agree env env' (agr ha)]⟩
        · obtain ⟨y, e⟩ := h1v env
          have hw := hF.wo env he
          rw [e] at hw ⊢
          obtain ⟨j3, b3, _, _, _, _, l3, _⟩ := hw
          exact lw_unary l3
        · obtain ⟨y, e⟩ := h1v env
          have hw := hF.wo env he
          rw [e] at hw ⊢
          obtain ⟨j3, b3, a3, n3, c3, w3, l3, a0⟩ := hw
          subst a0
          rw [a3] at h2
          exact .one _ j3 _ _ _ h0 ho h2 n3 (by omega) w3 l3
        · obtain ⟨y, e⟩ := h1v env
          have hw := hF.wo env he
          have hr := hF.run env he S T (by omega) (by omega)
          rw [e] at hw hr ⊢
          obtain ⟨j3, b3, a3, n3, c3, w3, l3, a0⟩ := hw
          exact hr.append (.one (.unary _ _ _ _ S _ (by have : (1 : Int).toNat = 1 := rfl; omega) l3))
end Go.Proofs.Qxb6500326aGreat
