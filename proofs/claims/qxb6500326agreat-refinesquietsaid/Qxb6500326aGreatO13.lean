import Derived.Test.Qxb6500326aGreatO10
import Derived.Test.Qxb6500326aGreatO11
namespace Go.Proofs.Qxb6500326aGreat
set_option maxRecDepth 100000
set_option linter.unusedVariables false
set_option linter.unusedSimpArgs false
open Go.RowKit Go.PlainAid

section
variable {L : List Nd}
theorem lk_count {f : Nat} {rg : Bool} : ∀ (k i lo : Nat), Lk (Sp L f) L rg k i lo → k ≤ i
  | 0, _, _, h => h.elim
  | k + 1, i, lo, h => by
    obtain ⟨a1, a2, m, h3, h4⟩ := h
    have hle := Sp.le _ _ _ _ h3
    rcases h4 with ⟨e, _⟩ | ⟨_, hm, _, d⟩
    · omega
    · have := lk_count k _ _ d; omega
theorem lk_num {f : Nat} {rg : Bool} (hS : ∀ i lo a, Sp L f i lo a → ∀ j, lo ≤ j → j ≤ i → (nd L j).n ≤ 999999999) : ∀ (k i lo : Nat), Lk (Sp L f) L rg k i lo → ∀ j, lo ≤ j → j ≤ i → (nd L j).n ≤ 999999999
  | 0, _, _, h => h.elim
  | k + 1, i, lo, h => by
    obtain ⟨a1, a2, m, h3, h4⟩ := h
    intro j h1 h2
    by_cases e : j = i
    · subst e
      rcases h4 with ⟨_, e, _⟩ | ⟨_, hm, e, _⟩ <;> (rw [e]; show (0 : Int) ≤ _; decide)
    · by_cases c : m ≤ j
      · exact hS _ _ _ h3 j c (by omega)
      · rcases h4 with ⟨_, _, rfl⟩ | ⟨_, hm, _, d⟩
        · omega
        · exact lk_num hS k _ _ d j h1 (by omega)
theorem sp_num (hL : L.length ≤ 100) : ∀ (f i lo : Nat) (a : Bool), Sp L f i lo a → ∀ j, lo ≤ j → j ≤ i → (nd L j).n ≤ 999999999
  | 0, _, _, _, h => h.elim
  | f + 1, i, lo, a, h => by
    obtain ⟨h0, h⟩ := h
    intro j h1 h2
    rcases h with ⟨e, hl⟩ | ⟨a1, a2, a3⟩ | ⟨op, m, a1, a2, a3, a4, a5, a6, a7⟩ | ⟨op, k, a1, a2, a3, a4⟩
    · rw [show j = i from by omega]
      rcases hl with ⟨v, e, _, h⟩ | e | e | ⟨r, e, _⟩ | e | ⟨_, r, s, e, _⟩ <;> rw [e]
      · exact h
      all_goals (first | (show (0 : Int) ≤ _; decide) | (show (1 : Int) ≤ _; decide))
    · by_cases e : j = i
      · subst e; rw [a2]; show (0 : Int) ≤ _; decide
      · exact sp_num hL f _ _ _ a3 j h1 (by omega)
    · have hle6 := Sp.le _ _ _ _ a6
      by_cases e : j = i
      · subst e; rw [a5]; show (0 : Int) ≤ _; decide
      · by_cases c : m ≤ j
        · exact sp_num hL f _ _ _ a6 j c (by omega)
        · exact sp_num hL f _ _ _ a7 j h1 (by omega)
    · by_cases e : j = i
      · subst e
        have hc := lk_count _ _ _ a4
        rw [a2]
        show k ≤ 999999999
        omega
      · exact lk_num (sp_num hL f) _ _ _ a4 j h1 (by omega)
end
theorem TreeOK.numOK {t : Tr} (h : TreeOK t) : NumOK t.nodes := by
  have hm := h.max
  have h1 := h.one
  intro x hx
  obtain ⟨j, hj, e⟩ := List.getElem_of_mem hx
  have := sp_num (L := t.nodes) (by omega) _ _ _ _ h.sp j (Nat.zero_le _) (by omega)
  unfold nd at this
  rw [List.getElem?_eq_getElem hj] at this
  have e2 : (some t.nodes[j]).getD nBad = x := e
  rw [e2] at this
  omega

theorem print_len' {t : Tr} (h : TreeOK t) : (printOf t).length ≤ 1000 := by have := print_len h; omega
theorem printX_ok {B : FB} {g n : Nat} {t : Tr} (ht : TreeOK t) (hn : t.nodes.length = n) (hg : ¬ FmS B g) (w : World) (hz : FZ w B) (hX : XL w g (sl g n n) t.nodes) :
    Calls Tryz.prog 134 #[pt B.f, treeV (sl g n n) t] w fun e w' => e = .returned (.tuple #[.string (bs (printOf t)), I 0]) ∧ FZ w' B ∧ Fr (FmS B) w w' := by
  have := printX B (sl g n n) t w hz (hX.nl (by have := ht.max; omega)) ht.numOK (fun k hk => by cases hk; exact hg)
  rw [prT_ok ht] at this
  exact this
theorem printM_ok {fb g n : Nat} {t : Tr} (ht : TreeOK t) (hn : t.nodes.length = n) (hg : g ≠ fb) (w : World) (hz : MF w fb) (hX : XL w g (sl g n n) t.nodes) :
    Calls Tryz.prog 112 #[pt fb, treeV (sl g n n) t] w fun e w' => e = .returned (.tuple #[.string (bs (printOf t)), I 0]) ∧ MF w' fb ∧ Fr (fun k => k = fb) w w' := by
  have := printM_any fb (sl g n n) t w hz (hX.nl (by have := ht.max; omega)) ht.numOK (fun k hk => by cases hk; exact hg)
  rw [prT_ok ht] at this
  exact this
theorem treeV_map {v : Value} {t : Tr} (h : TreeOK t) (f : Nd → Nd) : treeV v t = treeV v (mapT f t) := by
  obtain ⟨a, b, c, d⟩ := t
  have h1 := h.err
  have h2 := h.pos
  simp only at h1 h2
  subst h1; subst h2
  rfl
/-- The list of a tree that 'tree' has answered is the caller's to turn. -/
theorem XL.agn {w : World} {g n : Nat} {L : List Nd} (h : XL w g (sl g n n) L) (hn : L.length = n) (h0 : L ≠ []) : AG w g n (nd L) := by
  obtain ⟨g', -, e, hA⟩ := h.ag h0
  rw [hn] at e hA
  injection e with e1
  injection e1 with e1
  injection e1 with e1
  subst e1
  exact hA
theorem AG.turned {w : World} {g n : Nat} {t : Tr} {f : Nd → Nd} (h : AG w g n (fun j => f (nd t.nodes j))) (hn : t.nodes.length = n) (h0 : t.nodes ≠ []) : XL w g (sl g n n) (mapT f t).nodes :=
  AG.xl h (by show (t.nodes.map _).length = n; rw [List.length_map, hn]) (fun j hj => nd_mapL (by omega)) (by show t.nodes.map _ ≠ []; simpa using h0)
theorem TreeOK.ne {t : Tr} (h : TreeOK t) : t.nodes ≠ [] := fun e => by have := h.one; rw [e] at this; simp at this
theorem TreeOK.rb {t : Tr} (h : TreeOK t) : ∀ j, j < t.nodes.length → RB (nd t.nodes j).r1 ∧ RB (nd t.nodes j).r2 := fun j hj => by
  rcases h.nodes_ref hj with ⟨r, e, hr⟩ | ⟨r, s, e, hr, hs⟩ | ⟨-, -, e1, e2⟩
  · rw [e]; exact ⟨refIn_RB hr, refIn_RB refIn_z⟩
  · rw [e]; exact ⟨refIn_RB hr, refIn_RB hs⟩
  · rw [e1, e2]; exact ⟨refIn_RB refIn_z, refIn_RB refIn_z⟩
def TrY (w : World) (P : World → Prop) (SF : Nat → Prop) (t : Tr) (n : Nat) : Ending → World → Prop := fun e w' => ∃ g, w.heap.size ≤ g ∧ g < w'.heap.size ∧ e = .returned (.tuple #[treeV (sl g n n) t, .bool true]) ∧ XL w' g (sl g n n) t.nodes ∧ P w' ∧ Fr SF w w'
def TrN (w : World) (P : World → Prop) (SF : Nat → Prop) : Ending → World → Prop := fun e w' => ∃ sa sn sc t', e = .returned (.tuple #[treeV (.slice sa sn sc) t', .bool false]) ∧ P w' ∧ Fr SF w w'
theorem TrP.yes {w : World} {P : World → Prop} {SF : Nat → Prop} {s : ByteArray} (hfrm : frm s = true) {n : Nat} (hn : (tlT s).nodes.length = n) (h0 : (tlT s).nodes ≠ []) {e : Ending} {w' : World} (h : TrP w P SF s e w') : TrY w P SF (tlT s) n e w' := by
  obtain ⟨sa, sn, sc, t', he, hy, hp, hf⟩ := h
  obtain ⟨rfl, g, hg, hsl, hX⟩ := hy hfrm
  rw [hn] at hsl hX
  rw [hsl, hfrm] at he
  refine ⟨g, hg, ?_, he, hX, hp, hf⟩
  exact (hX.agn hn h0).lt
theorem TrP.no {w : World} {P : World → Prop} {SF : Nat → Prop} {s : ByteArray} (hfrm : frm s = false) {e : Ending} {w' : World} (h : TrP w P SF s e w') : TrN w P SF e w' := by
  obtain ⟨sa, sn, sc, t', he, hy, hp, hf⟩ := h
  rw [hfrm] at he
  exact ⟨sa, sn, sc, t', he, hp, hf⟩
section
variable {A : XA} {x : Gr.XS} {T : Nat → ByteArray} {E : Nat → Vl}
theorem xTree_any (s : ByteArray) (w : World) (Bf : Nat → ByteArray) (h : EX w A x T E Bf) : Calls Tryz.prog 102 #[pt A.xe, .string s] w (TrP w (fun w => FZ w A.B2) (FmS A.B2) s) := by
  obtain ⟨c0, -⟩ := h.obj.ex3
  cases hp : isForm s
  · exact xTree_plain (fmx_real A.B2) A.xe A.B2.f s w c0 h.obj.lt h.fz hp
  · exact xTree_form (fmx_real A.B2) A.xe A.B2.f s w c0 h.obj.lt h.fz (fun w h => parseX A.B2 (tlS s) w h) hp
theorem xText_ok {g n : Nat} {t : Tr} (ht : TreeOK t) (hn : t.nodes.length = n) (w : World) (Bf : Nat → ByteArray) (h : EX w A x T E Bf) (hX : XL w g (sl g n n) t.nodes) (hg : ¬ FmS A.B2 g) (hgl : g < w.heap.size) :
    Calls Tryz.prog 104 #[pt A.xe, treeV (sl g n n) t] w fun e w' => e = .returned (.string (eqS (printOf t))) ∧ FZ w' A.B2 ∧ Fr (FmS A.B2) w w' := by
  obtain ⟨c0, -⟩ := h.obj.ex3
  exact xText_any (fmx_real A.B2) A.xe A.B2.f g n t w c0 h.obj.lt h.fz hX hg hgl (fun w hz hX => printX_ok ht hn hg w hz hX) (print_len' ht)

def bufT (N : Nat → ByteArray) (k i : Nat) : ByteArray := if i < k then N i else es
def bufU (N : Nat → ByteArray) (k i : Nat) : ByteArray := if i < k then es else N i
theorem bufT_step (N : Nat → ByteArray) (k i : Nat) : upd (bufT N k) k (N k) i = bufT N (k + 1) i := by
  unfold upd bufT
  by_cases e : i = k
  · subst e; rw [if_pos rfl, if_pos (by omega)]
  · rw [if_neg e]
    by_cases e2 : i < k
    · rw [if_pos e2, if_pos (by omega)]
    · rw [if_neg e2, if_neg (by omega)]
theorem bufT_same (N : Nat → ByteArray) (k i : Nat) (h : N k = es) : bufT N k i = bufT N (k + 1) i := by
  unfold bufT
  by_cases e : i = k
  · subst e; rw [if_neg (by omega), if_pos (by omega), h]
  · by_cases e2 : i < k
    · rw [if_pos e2, if_pos (by omega)]
    · rw [if_neg e2, if_neg (by omega)]
theorem bufU_step (N : Nat → ByteArray) (k i : Nat) : upd (bufU N k) k es i = bufU N (k + 1) i := by
  unfold upd bufU
  by_cases e : i = k
  · subst e; rw [if_pos rfl, if_pos (by omega)]
  · rw [if_neg e]
    by_cases e2 : i < k
    · rw [if_pos e2, if_pos (by omega)]
    · rw [if_neg e2, if_neg (by omega)]
theorem fr_putB {S : Nat → Prop} {a w : World} {b c : Nat} {v : Value} (h : Fr S a w) (hb : S b) : Fr S a (w.setCell ⟨b, c, none⟩ v) := h.setCell (p := ⟨b, c, none⟩) (.inl hb) v
theorem SB.se {A : XA} : ∀ k, SB A k → SE A k := by
  rintro k (e | e)
  · exact .inr (.inl e)
  · exact .inr (.inr (.inr e))
set_option maxHeartbeats 16000000 in
theorem xEdit_ok (rows ins : Bool) (at_ : Int) (w : World) (h : EX w A x T E (fun _ => es)) (hS : Sheet T E) (h0 : 0 ≤ at_) (h1 : at_ < nAx rows) :
    Calls Tryz.prog 68 #[pt A.xe, I (kd rows ins), I at_] w fun e w' => e = .returned (I 0) ∧ (∃ x' E', EX w' A x' (edT rows ins at_ T) E' (fun _ => es) ∧ Sheet (edT rows ins at_ T) E') ∧ Fr (SE A) w w' := by
  have hOK : Bx (∀ wx, Calls Tryz.prog 73 #[I (kd rows ins), I at_] wx fun e w' => e = .returned (.bool true) ∧ wx = w') := ⟨fun wx => by have := editOK_any (kd rows ins) at_ wx; rw [edOK_of h0 h1] at this; exact this⟩
  have hGap : Bx (∀ wx, Calls Tryz.prog 100 #[I (kd rows ins), I at_] wx fun e w' => e = .returned (gpV rows ins at_) ∧ Fr S0 wx w') := ⟨gapOf_any rows ins at_⟩
  have hSrc : Bx (∀ (k : Nat) wx, k < 24 → Calls Tryz.prog 101 #[gpV rows ins at_, I k] wx fun e w' => e = .returned (I (fromP rows ins at_ k)) ∧ Fr S0 wx w') := ⟨fun k wx hk => source_any rows ins at_ k wx hk h0 h1⟩
  have hShift : Bx (∀ (g n : Nat) (L : Nat → Nd) wx, AG wx g n L → n ≤ 24 → Calls Tryz.prog 103 #[gpV rows ins at_, sl g n n] wx fun e w' => e = .returned (.tuple #[]) ∧ AG w' g n (fun j => moveN rows ins at_ (L j)) ∧ Fr (fun k => k = g) wx w') := ⟨fun g n L wx hA hn => shiftAll_any rows ins at_ g n L wx h0 h1 hA hn⟩
  have hLM : Bx (LM (moveN rows ins at_)) := ⟨moveN_lm h0 h1⟩
  have hbd : Bx (∀ k : Nat, k < 24 → 0 ≤ fromP rows ins at_ k → (fromP rows ins at_ k).toNat < 24) := ⟨fun k hk h => ((from_lines (ins := ins) h0 h1 hk).2 h).1⟩
  have hNok : Bx (TxOK (edT rows ins at_ T)) := ⟨edT_ok h0 h1 hS.ok⟩
  have hX0 := Bx.mk h
  have hl0 := h.obj.lt
  have hltA : Bx (∀ k, SE A k → k < w.heap.size) := ⟨h.lt⟩
  have hnA := Bx.mk h.n
  have hSB := Bx.mk hS
  clear h hS h0 h1
  go_enter Tryz.func68, Tryz.ntmps68
  go_wp2_with (first
    | (go_at_call 73; refine (hOK.out _).mono ?_; clear hOK; rintro e _ ⟨rfl, rfl⟩)
    | (go_at_call 100; refine (hGap.out _).mono ?_; clear hGap; rintro e w1 ⟨rfl, hf1⟩; have hX1 := Bx.mk (hX0.out.fr0 (hf1.alloc (.cells (gpA rows ins at_) 133))); have hg1 := Bx.mk (gp_new w1 rows ins at_ 133 rfl); have hHw := hf1.size; have hf1 := Bx.mk (hf1.alloc (.cells (gpA rows ins at_) 133))))
  generalize hHH : w1.heap.size = H at *
  have hHA : Bx (¬ SE A H) := ⟨fun e => by have := hltA.out H e; omega⟩
  go_loopw [8] (fun c wr => ∃ k : Nat, k ≤ 24 ∧ c = I (k : Int) ∧ Bx (EX wr A x T E (bufT (edT rows ins at_ T) k)) ∧ Bx (Row wr H 4 (gpC rows ins at_)) ∧ Bx (Fr (SB A) w wr)) (fun c _ => 24 - (intOf c).toNat)
  case atStart => exact ⟨0, by omega, rfl, ⟨hX1.out.bufEq (fun i hi => by unfold bufT; rw [if_neg (by omega)])⟩, hg1, ⟨hf1.out.up⟩⟩
  case round =>
    clear hX1 hg1 hf1 hX0
    obtain ⟨k, hk, rfl, hX, hgp, hf⟩ := hrel
    cases hlt : decide ((k : Int) < 24)
    · have hk24 : Bx (k = 24) := ⟨by simp at hlt; omega⟩
      have hX : Bx (EX wr A x (layT (edT rows ins at_ T) T 0) E (bufU (edT rows ins at_ T) 0)) := ⟨by rw [layT_zero]; exact hX.out.bufEq (fun i hi => by unfold bufT bufU; rw [if_pos (by rw [hk24.out]; exact hi), if_neg (by omega)])⟩
      have hSB : Bx (Sheet (layT (edT rows ins at_ T) T 0) E) := ⟨by rw [layT_zero]; exact hSB.out⟩
      have hfE : Bx (Fr (SE A) w wr) := ⟨hf.out.mono SB.se⟩
      go_wp2_with fail
      go_loopw [13] (fun c wz => ∃ k : Nat, k ≤ 24 ∧ c = I (k : Int) ∧ ∃ x' E', Bx (EX wz A x' (layT (edT rows ins at_ T) T k) E' (bufU (edT rows ins at_ T) k)) ∧ Bx (Sheet (layT (edT rows ins at_ T) T k) E') ∧ Bx (Fr (SE A) w wz)) (fun c _ => 24 - (intOf c).toNat)
      case atStart => exact ⟨0, by omega, rfl, x, E, hX, hSB, hfE⟩
      case round =>
        clear hX hgp hf hSB hfE
        obtain ⟨k, hk, rfl, x', E', hX, hS, hf⟩ := hrel
        cases hlt : decide ((k : Int) < 24)
        · have hk24 : k = 24 := by simp at hlt; omega
          have hk24 := Bx.mk hk24
          go_wp2_with fail
          go_ret
          have hX := hX.out
          have hS := hS.out
          rw [hk24.out] at hX hS
          exact ⟨rfl, ⟨x', E', by have := hX.bufEq (Bf' := fun _ => es) (fun i hi => by unfold bufU; rw [if_pos hi]); rw [layT_all] at this; exact this, by have := hS; rw [layT_all] at this; exact this⟩, hf.out⟩
        · have hk24 : k < 24 := by simp at hlt; omega
          have hkI : (k : Int) < 24 := by omega
          obtain ⟨c0, c1, c2⟩ := hX.out.obj.ex3
          have b0 := hX.out.buf.cell k hk24
          have hlx := hX.out.obj.lt
          have hlb := hX.out.buf.lt
          have eB : bufU (edT rows ins at_ T) k k = edT rows ins at_ T k := by unfold bufU; rw [if_neg (by omega)]
          rw [eB] at b0
          have hLay := Bx.mk (lay_any k (edT rows ins at_ T k) _ hX.out hS.out hk24 (hNok.out k hk24))
          have estep := Bx.mk (layT_step (edT rows ins at_ T) T k)
          have ebuf := Bx.mk (bufU_step (edT rows ins at_ T) k)
          clear eB
          generalize edT rows ins at_ T k = sk at b0 hLay estep
          go_wp2_with (first
            | (go_at_call 105; refine hLay.out.mono ?_; clear hLay; rintro e w3 ⟨rfl, ⟨x2, E2, hX2, hS2⟩, hf2⟩; have hX2 := Bx.mk (estep.out ▸ hX2); have hS2 := Bx.mk (estep.out ▸ hS2); have hf2 := Bx.mk (hf.out.trans (hf2.mono (fun k hk => .inl hk))); obtain ⟨c0, c1, c2⟩ := hX2.out.obj.ex3; have b0 := hX2.out.buf.cell k hk24; have z0 := hX2.out.buf.frozen k; have hlx := hX2.out.obj.lt; have hlb := hX2.out.buf.lt))
          go_roundw
          case rel => exact ⟨k + 1, by omega, by go_num, x2, E2, ⟨(hX2.out.put k es).bufEq (fun i _ => ebuf.out i)⟩, hS2, ⟨fr_putB hf2.out (.inr (.inr (.inr rfl)))⟩⟩
          case measure => simp [intOf]; omega
    · have hk24 : k < 24 := by simp at hlt; omega
      have hkI : (k : Int) < 24 := by omega
      obtain ⟨b0, b1, b2, b3⟩ := hgp.out.gp4
      have hlg := hgp.out.lt
      have hSrc := Bx.mk (fun wx => hSrc.out k wx hk24)
      have hnone := Bx.mk (fun h => edT_none (rows := rows) (ins := ins) (at_ := at_) (T := T) hk24 h)
      have hsome := Bx.mk (fun p h => edT_some (rows := rows) (ins := ins) (at_ := at_) (T := T) (p := p) hk24 h)
      have hbd := Bx.mk (hbd.out k hk24)
      generalize fromP rows ins at_ k = q at *
      cases hq : decide (0 ≤ q)
      · have hNk := Bx.mk (hnone.out (by simpa using hq))
        go_wp2_with (first
          | (go_at_call 101; refine (hSrc.out _).mono ?_; clear hSrc; rintro e w2 ⟨rfl, hf2⟩; have hX := Bx.mk (hX.out.fr0 hf2); have hgp := Bx.mk (hf2.row0 hgp.out); have hf := Bx.mk (hf.out.trans hf2.up)))
        go_roundw
        case rel => exact ⟨k + 1, by omega, by go_num, ⟨hX.out.bufEq (fun i _ => bufT_same _ _ _ hNk.out)⟩, hgp, hf⟩
        case measure => simp [intOf]; omega
      · obtain ⟨p, hp⟩ : ∃ p : Nat, q = (p : Int) := ⟨q.toNat, by have : 0 ≤ q := (by simpa using hq); omega⟩
        subst hp
        have hp24 : p < 24 := hbd.out (by omega)
        have hNk := Bx.mk (hsome.out p rfl)
        clear hnone hsome hbd
        have hRaw : Bx (∀ wx Bf, EX wx A x T E Bf → Calls Tryz.prog 80 #[pt A.xb, I p] wx fun e w' => e = .returned (.string (T p)) ∧ wx = w') := ⟨fun wx Bf h => by have := kRaw_any (p : Int) wx h.km; rw [rawP_at hp24] at this; exact this⟩
        have hTree0 : Bx (∀ wx Bf, EX wx A x T E Bf → Calls Tryz.prog 102 #[pt A.xe, .string (T p)] wx (TrP wx (fun w => FZ w A.B2) (FmS A.B2) (T p))) := ⟨fun wx Bf h => xTree_any (T p) wx Bf h⟩
        generalize T p = s at *
        have hfst : Bx (∀ w2, EX w2 A x T E (bufT (edT rows ins at_ T) k) → EX (w2.setCell ⟨A.bb, k, none⟩ (.string (movS (moveN rows ins at_) s))) A x T E (bufT (edT rows ins at_ T) (k + 1))) := ⟨fun w2 h => (h.put k (movS (moveN rows ins at_) s)).bufEq (fun i _ => by rw [← hNk.out]; exact bufT_step _ _ _)⟩
        cases hfrm : frm s
        · rw [movS_no hfrm] at hfst
          have hTree : Bx (∀ wx Bf, EX wx A x T E Bf → Calls Tryz.prog 102 #[pt A.xe, .string s] wx (TrN wx (fun w => FZ w A.B2) (FmS A.B2))) := ⟨fun wx Bf h => (hTree0.out wx Bf h).mono (fun e w' h => h.no hfrm)⟩
          clear hTree0
          go_wp2_with (first
            | (go_at_call 101; refine (hSrc.out _).mono ?_; clear hSrc; rintro e w2 ⟨rfl, hf2⟩; have hX := Bx.mk (hX.out.fr0 hf2); have hgp := Bx.mk (hf2.row0 hgp.out); have hf := Bx.mk (hf.out.trans hf2.up); obtain ⟨c0, c1, c2⟩ := hX.out.obj.ex3; have hlx := hX.out.obj.lt; clear hf2)
            | (go_at_call 80; refine (hRaw.out _ _ hX.out).mono ?_; clear hRaw; rintro e _ ⟨rfl, rfl⟩)
            | (go_at_call 102; refine (hTree.out _ _ hX.out).mono ?_; clear hTree; rintro e w3 ⟨sa, sn, sc, t', rfl, hz2, hf2⟩; have hX3 := Bx.mk ((hX.out.stepF hz2 hf2).fr0 ((Fr.refl S0 _).alloc (.cells (trA (.slice sa sn sc) t') 105))); have hgp3 := Bx.mk ((hf2.row hgp.out (fun e => hHA.out (.inr (.inl e)))).alloc (.cells (trA (.slice sa sn sc) t') 105)); have hf3 := Bx.mk ((hf.out.trans (hf2.mono (fun k hk => .inl hk))).alloc (.cells (trA (.slice sa sn sc) t') 105)); obtain ⟨c0, c1, c2⟩ := hX3.out.obj.ex3; have b0 := hX3.out.buf.cell k hk24; have z0 := hX3.out.buf.frozen k; have hlx := hX3.out.obj.lt; have hlb := hX3.out.buf.lt; clear hf2 hz2 hX hgp hf))
          go_roundw
          case rel => exact ⟨k + 1, by omega, by go_num, ⟨hfst.out _ hX3.out⟩, ⟨hgp3.out.set_other (p := ⟨A.bb, k, none⟩) (fun e => hHA.out (.inr (.inr (.inr e)))) _⟩, ⟨fr_putB hf3.out (.inr rfl)⟩⟩
          case measure => simp [intOf]; omega
        · have hto := (frm_tree hfrm).1
          have hlen := hto.max
          have ht2 := hLM.out.tree hto
          rw [movS_yes hfrm] at hfst
          obtain ⟨n, hn⟩ : ∃ n, (tlT s).nodes.length = n := ⟨_, rfl⟩
          have hText : Bx (∀ (g : Nat) wx Bf, EX wx A x T E Bf → AG wx g n (fun j => moveN rows ins at_ (nd (tlT s).nodes j)) → ¬ FmS A.B2 g → Calls Tryz.prog 104 #[pt A.xe, treeV (sl g n n) (tlT s)] wx fun e w' => e = .returned (.string (eqS (printOf (mapT (moveN rows ins at_) (tlT s))))) ∧ FZ w' A.B2 ∧ Fr (FmS A.B2) wx w') := ⟨fun g wx Bf h hA hg => by
            rw [treeV_map hto (moveN rows ins at_)]
            exact xText_ok ht2 (by show ((tlT s).nodes.map _).length = n; rw [List.length_map, hn]) wx Bf h (AG.turned hA hn hto.ne) hg hA.lt⟩
          have hTree : Bx (∀ wx Bf, EX wx A x T E Bf → Calls Tryz.prog 102 #[pt A.xe, .string s] wx (TrY wx (fun w => FZ w A.B2) (FmS A.B2) (tlT s) n)) := ⟨fun wx Bf h => (hTree0.out wx Bf h).mono (fun e w' h => h.yes hfrm hn hto.ne)⟩
          clear hTree0
          have hagn : Bx (∀ wx g, XL wx g (sl g n n) (tlT s).nodes → AG wx g n (nd (tlT s).nodes)) := ⟨fun wx g hX => hX.agn hn hto.ne⟩
          have hn24 : n ≤ 24 := by omega
          have hn := Bx.mk hn
          clear hto hlen ht2
          generalize eqS (printOf (mapT (moveN rows ins at_) (tlT s))) = S1 at *
          generalize tlT s = t at *
          go_wp2_with (first
            | (go_at_call 101; refine (hSrc.out _).mono ?_; clear hSrc; rintro e w2 ⟨rfl, hf2⟩; have hX := Bx.mk (hX.out.fr0 hf2); have hgp := Bx.mk (hf2.row0 hgp.out); have hf := Bx.mk (hf.out.trans hf2.up); obtain ⟨c0, c1, c2⟩ := hX.out.obj.ex3; have hlx := hX.out.obj.lt; clear hf2)
            | (go_at_call 80; refine (hRaw.out _ _ hX.out).mono ?_; clear hRaw; rintro e _ ⟨rfl, rfl⟩)
            | (go_at_call 102; refine (hTree.out _ _ hX.out).mono ?_; clear hTree; rintro e w3 ⟨g, hgw, hgl3, rfl, hXL, hz2, hf2⟩; have hgA : Bx (¬ SE A g) := ⟨fun e => by have := hX.out.lt g e; omega⟩; have hgH : g ≠ H := (by have := hgp.out.lt; omega); have hgw0 : w.heap.size ≤ g := (by have := hf.out.size; omega); have hsz := hf2.size; have hX3 := Bx.mk ((hX.out.stepF hz2 hf2).fr0 ((Fr.refl S0 _).alloc (.cells (trA (sl g n n) t) 105))); have hgp3 := Bx.mk ((hf2.row hgp.out (fun e => hHA.out (.inr (.inl e)))).alloc (.cells (trA (sl g n n) t) 105)); have hf3 := Bx.mk ((hf.out.trans (hf2.mono (fun k hk => .inl hk))).alloc (.cells (trA (sl g n n) t) 105)); have hAG3 := Bx.mk (hagn.out _ _ (hXL.fr ((Fr.refl S0 _).alloc (.cells (trA (sl g n n) t) 105)) (fun _ _ _ e => e))); have hT3 := Bx.mk (tv_new w3 (sl g n n) t 105 rfl); obtain ⟨b0, b1, b2, b3⟩ := hgp3.out.gp4; have hlg := hgp3.out.lt; obtain ⟨x0, x1, x2, x3⟩ := hT3.out.tr4; clear hf2 hz2 hX hgp hf hXL)
            | (go_at_call 103; refine (hShift.out g n _ _ hAG3.out hn24).mono ?_; clear hShift; rintro e w4 ⟨rfl, hA4, hf4⟩; have hA4 := Bx.mk hA4; have hX4 := Bx.mk (hX3.out.fr hf4 (fun k hk e => hgA.out (e ▸ hk))); have hgp4 := Bx.mk (hf4.row hgp3.out (fun e => hgH e.symm)); have hT4 := Bx.mk (hf4.row hT3.out (by show ¬ w3.heap.size = g; omega)); have hf4 := Bx.mk (hf3.out.step hf4 (fun k hk => .inr (by rw [show k = g from hk]; exact hgw0))); obtain ⟨x0, x1, x2, x3⟩ := hT4.out.tr4; have hlT := hT4.out.lt; clear hX3 hgp3 hT3 hf3 hAG3)
            | (go_at_call 104; refine (hText.out g _ _ hX4.out hA4.out (fun e => hgA.out (.inr (.inl e)))).mono ?_; clear hText; rintro e w5 ⟨rfl, hz5, hf5⟩; have hX5 := Bx.mk (hX4.out.stepF hz5 hf5); have hgp5 := Bx.mk (hf5.row hgp4.out (fun e => hHA.out (.inr (.inl e)))); have hf5 := Bx.mk (hf4.out.trans (hf5.mono (fun k hk => .inl hk))); obtain ⟨c0, c1, c2⟩ := hX5.out.obj.ex3; have b0 := hX5.out.buf.cell k hk24; have z0 := hX5.out.buf.frozen k; have hlx := hX5.out.obj.lt; have hlb := hX5.out.buf.lt; clear hX4 hgp4 hT4 hf4 hA4))
          go_roundw
          case rel => exact ⟨k + 1, by omega, by go_num, ⟨hfst.out _ hX5.out⟩, ⟨hgp5.out.set_other (p := ⟨A.bb, k, none⟩) (fun e => hHA.out (.inr (.inr (.inr e)))) _⟩, ⟨fr_putB hf5.out (.inr rfl)⟩⟩
          case measure => simp [intOf]; omega
end
end Go.Proofs.Qxb6500326aGreat
