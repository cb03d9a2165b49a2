import Derived.Test.Qxb6500326aGreatO15
namespace Go.Proofs.Qxb6500326aGreat
set_option maxRecDepth 100000
set_option linter.unusedVariables false
set_option linter.unusedSimpArgs false
open Go.RowKit Go.PlainAid
section
variable {M : YA} {sb : Nat} {T : Nat → ByteArray} {E : Nat → Vl}
theorem nx_set {w : World} {nb k : Nat} {f g : Nat → ByteArray} (h : Row w nb 24 (fun i => .string (f i))) (s : ByteArray) (e : ∀ i, i < 24 → upd f k s i = g i) : Row (w.setCell ⟨nb, k, none⟩ (.string s)) nb 24 (fun i => .string (g i)) :=
  (h.set k (.string s)).congr (fun i hi => by rw [← e i hi]; unfold upd; split <;> rfl)
theorem upd_twice {α : Type} {f : Nat → α} {k : Nat} {a b : α} (i : Nat) : upd (upd f k a) k b i = upd f k b i := by unfold upd; split <;> rfl
theorem EY.put {w : World} (h : EY w M sb T E) {nb : Nat} (hn : ¬ SYa M sb nb) (k : Nat) (v : Value) : EY (w.setCell ⟨nb, k, none⟩ v) M sb T E :=
  h.fr (S := fun k => k = nb) ((Fr.refl (fun k => k = nb) w).setCell (p := ⟨nb, k, none⟩) (.inl rfl) v) (fun k hk e => hn (by have e : k = nb := e; exact e ▸ hk))
theorem fr_nw {S : Nat → Prop} {a w : World} {b c : Nat} {v : Value} (h : Fr S a w) (hb : a.heap.size ≤ b) : Fr S a (w.setCell ⟨b, c, none⟩ v) := h.setCell (p := ⟨b, c, none⟩) (.inr hb) v
set_option maxHeartbeats 16000000 in
theorem yEdit_ok (rows ins : Bool) (at_ : Int) (w : World) (h : EY w M sb T E) (hS : Sheet T E) (h0 : 0 ≤ at_) (h1 : at_ < nAx rows) :
    Calls Tryz.prog 39 #[pt M.me, I (kd rows ins), I at_] w fun e w' => e = .returned (I 0) ∧ (∃ sb' E', (sb' = sb ∨ w.heap.size ≤ sb') ∧ EY w' M sb' (edT rows ins at_ T) E' ∧ Sheet (edT rows ins at_ T) E') ∧ Fr (SY M) w w' := by
  have hOK : Bx (∀ wx, Calls Tryz.prog 73 #[I (kd rows ins), I at_] wx fun e w' => e = .returned (.bool true) ∧ wx = w') := ⟨fun wx => by have := editOK_any (kd rows ins) at_ wx; rw [edOK_of h0 h1] at this; exact this⟩
  have hFrom : Bx (∀ (k : Nat) wx, k < 24 → Calls Tryz.prog 74 #[I k, I (kd rows ins), I at_] wx fun e w' => e = .returned (I (fromP rows ins at_ k)) ∧ wx = w') := ⟨fun k wx hk => from_any rows ins at_ k wx hk h0 h1⟩
  have hLM : Bx (LM (moveN rows ins at_)) := ⟨moveN_lm h0 h1⟩
  have hbd : Bx (∀ k : Nat, k < 24 → 0 ≤ fromP rows ins at_ k → (fromP rows ins at_ k).toNat < 24) := ⟨fun k hk h => ((from_lines (ins := ins) h0 h1 hk).2 h).1⟩
  have hNok : Bx (TxOK (edT rows ins at_ T)) := ⟨edT_ok h0 h1 hS.ok⟩
  have hX0 := Bx.mk h
  have hltA : Bx (∀ k, SYa M sb k → k < w.heap.size) := ⟨h.lt⟩
  have hSB := Bx.mk hS
  have kk1 := mk38
  generalize hA : MS = A1 at kk1
  have hA := Bx.mk hA
  have hX1 := Bx.mk (h.fr0 ((Fr.refl S0 w).alloc (.cells A1 9)))
  have hN1 : Bx (Row (w.alloc (.cells A1 9)) w.heap.size 24 (fun _ => .string es)) := ⟨ms_row hA.out w rfl⟩
  have hf1 := Bx.mk ((Fr.refl (SY M) w).alloc (.cells A1 9))
  clear h hS h0 h1
  go_enter Tryz.func39, Tryz.ntmps39
  go_wp2_with (first
    | (go_at_call 73; refine (hOK.out _).mono ?_; clear hOK; rintro e _ ⟨rfl, rfl⟩))
  generalize hHH : w.heap.size = H at *
  have hHA : Bx (¬ SYa M sb H) := ⟨fun e => by have := hltA.out H e; omega⟩
  have hHw : w.heap.size ≤ H := by omega
  go_loopw [8] (fun c wr => ∃ k : Nat, k ≤ 24 ∧ c = I (k : Int) ∧ Bx (EY wr M sb T E) ∧ Bx (Row wr H 24 (fun i => .string (bufT (edT rows ins at_ T) k i))) ∧ Bx (Fr (SY M) w wr)) (fun c _ => 24 - (intOf c).toNat)
  case atStart => exact ⟨0, by omega, rfl, hX1, ⟨hN1.out.congr (fun i hi => by unfold bufT; rw [if_neg (by omega)])⟩, hf1⟩
  case round =>
    clear hX1 hN1 hf1 hX0
    obtain ⟨k, hk, rfl, hX, hN, hf⟩ := hrel
    cases hlt : decide ((k : Int) < 24)
    · have hk24 : Bx (k = 24) := ⟨by simp at hlt; omega⟩
      have hX : Bx (EY wr M sb (layT (edT rows ins at_ T) T 0) E) := ⟨by rw [layT_zero]; exact hX.out⟩
      have hSB : Bx (Sheet (layT (edT rows ins at_ T) T 0) E) := ⟨by rw [layT_zero]; exact hSB.out⟩
      have hN : Bx (Row wr H 24 (fun i => .string (edT rows ins at_ T i))) := ⟨hN.out.congr (fun i hi => by unfold bufT; rw [if_pos (by rw [hk24.out]; exact hi)])⟩
      go_wp2_with fail
      go_loopw [13] (fun c wz => ∃ k : Nat, k ≤ 24 ∧ c = I (k : Int) ∧ ∃ sb' E', Bx (sb' = sb ∨ w.heap.size ≤ sb') ∧ Bx (EY wz M sb' (layT (edT rows ins at_ T) T k) E') ∧ Bx (Sheet (layT (edT rows ins at_ T) T k) E') ∧ Bx (Row wz H 24 (fun i => .string (edT rows ins at_ T i))) ∧ Bx (Fr (SY M) w wz)) (fun c _ => 24 - (intOf c).toNat)
      case atStart => exact ⟨0, by omega, rfl, sb, E, ⟨.inl rfl⟩, hX, hSB, hN, hf⟩
      case round =>
        clear hX hN hf hSB
        obtain ⟨k, hk, rfl, sb', E', hsb, hX, hS, hN, hf⟩ := hrel
        cases hlt : decide ((k : Int) < 24)
        · have hk24 : k = 24 := by simp at hlt; omega
          have hk24 := Bx.mk hk24
          go_wp2_with fail
          go_ret
          have hX := hX.out
          have hS := hS.out
          rw [hk24.out, layT_all] at hX hS
          exact ⟨rfl, ⟨sb', E', hsb.out, hX, hS⟩, hf.out⟩
        · have hk24 : k < 24 := by simp at hlt; omega
          have hkI : (k : Int) < 24 := by omega
          obtain ⟨c0, c1, hlx⟩ := hX.out.em2
          have b0 := hN.out.cell k hk24
          have hlb := hN.out.lt
          have e0 := setP_ok (s := edT rows ins at_ T k) hk24 (hNok.out k hk24)
          have hSet : Bx (Calls Tryz.prog 72 #[pt M.cb, I k, .string (edT rows ins at_ T k)] wr.drew fun e w2 => e = .returned (I 0) ∧ Fr (SCm M) wr w2 ∧ ∃ sb2 E2, wr.heap.size ≤ sb2 ∧ EY w2 M sb2 (layT (edT rows ins at_ T) T (k + 1)) E2 ∧ Sheet (layT (edT rows ins at_ T) T (k + 1)) E2) := ⟨by
            refine (cSet_any (k : Int) _ wr.drew (hX.out.fr0 ((Fr.refl S0 wr).drew)).cm hS.out).mono ?_
            rintro e w2 ⟨rfl, hf2, hr⟩
            rw [e0] at hr ⊢
            have hf3 : Fr (SCm M) wr w2 := ⟨hf2.os, hf2.tape, hf2.output, hf2.size, hf2.block⟩
            refine ⟨rfl, hf3, ?_⟩
            rcases hr with ⟨a, -⟩ | ⟨-, sb2, E2, hsb2, hk2, hS2⟩
            · exact absurd rfl a
            · rw [show ((k : Int)).toNat = k from rfl, layT_step] at hk2 hS2
              exact ⟨sb2, E2, hsb2, hX.out.stepC hk2 hf3 (.inr hsb2), hS2⟩⟩
          clear e0
          generalize edT rows ins at_ T k = sk at b0 hSet
          go_wp2_with fail
          refine region_cut (fun w' => Bx (Fr (SCm M) wr w' ∧ ∃ sb2 E2, wr.heap.size ≤ sb2 ∧ EY w' M sb2 (layT (edT rows ins at_ T) T (k + 1)) E2 ∧ Sheet (layT (edT rows ins at_ T) T (k + 1)) E2)) ?_
          apply Exists.intro
          apply And.intro
          · go_region_with (first | (go_at_call 72; refine hSet.out.mono ?_; rintro e w2 ⟨rfl, hr2⟩; have hr2 := Bx.mk hr2))
            all_goals exact ⟨rfl, hr2⟩
          rintro w2 ⟨hf2, sb2, E2, hsb2, hX2, hS2⟩
          have hsb2 : Bx (sb2 = sb ∨ w.heap.size ≤ sb2) := ⟨.inr (by have := hf.out.size; omega)⟩
          have hX2 := Bx.mk hX2
          have hS2 := Bx.mk hS2
          have hN2 : Bx (Row w2 H 24 (fun i => .string (edT rows ins at_ T i))) := ⟨hf2.row hN.out (fun e => hHA.out (SYa.of (SCm.md sb e)))⟩
          have hf2 := Bx.mk (hf.out.trans (hf2.mono (fun k hk => SCm.sy hk)))
          clear hX hN hSet hS hf
          go_wp2_with fail
          go_roundw
          case rel => exact ⟨k + 1, by omega, by go_num, sb2, E2, hsb2, hX2, hS2, hN2, hf2⟩
          case measure => simp [intOf]; omega
    · have hk24 : k < 24 := by simp at hlt; omega
      have hkI : (k : Int) < 24 := by omega
      have hFrom := Bx.mk (fun wx => hFrom.out k wx hk24)
      have hnone := Bx.mk (fun h => edT_none (rows := rows) (ins := ins) (at_ := at_) (T := T) hk24 h)
      have hsome := Bx.mk (fun p h => edT_some (rows := rows) (ins := ins) (at_ := at_) (T := T) (p := p) hk24 h)
      have hbd := Bx.mk (hbd.out k hk24)
      generalize fromP rows ins at_ k = q at *
      cases hq : decide (q < 0)
      · obtain ⟨p, hp⟩ : ∃ p : Nat, q = (p : Int) := ⟨q.toNat, by have : 0 ≤ q := (by simpa using hq); omega⟩
        subst hp
        have hp24 : p < 24 := hbd.out (by omega)
        have hNk := Bx.mk (hsome.out p rfl)
        clear hnone hsome hbd
        have hRaw : Bx (∀ wx, EY wx M sb T E → Calls Tryz.prog 75 #[pt M.cb, I p] wx fun e w' => e = .returned (.string (T p)) ∧ wx = w') := ⟨fun wx h => by have := cRaw_any (p : Int) wx h.cm; rw [rawP_at hp24] at this; exact this⟩
        have hTree0 : Bx (∀ wx, EY wx M sb T E → Calls Tryz.prog 76 #[pt M.me, .string (T p)] wx (TrP wx (fun w => MF w M.fm) (fun k => k = M.fm) (T p))) := ⟨fun wx h => mTree_any (T p) wx h⟩
        generalize T p = s at *
        obtain ⟨c0, c1, hlx⟩ := hX.out.em2
        have b0 := hN.out.cell k hk24
        have z0 := hN.out.frozen k
        have hlb := hN.out.lt
        have hX0r := hX
        have hX1 := Bx.mk (hX.out.put hHA.out k (.string s))
        have hN1 := Bx.mk (hN.out.set k (.string s))
        have hf1 := Bx.mk (fr_nw (c := k) (v := .string s) hf.out hHw)
        have hNn : Bx (∀ w2, Row w2 H 24 (upd (fun i => Value.string (bufT (edT rows ins at_ T) k i)) k (.string s)) → Row (w2.setCell ⟨H, k, none⟩ (.string (movS (moveN rows ins at_) s))) H 24 (fun i => .string (bufT (edT rows ins at_ T) (k + 1) i))) := ⟨fun w2 h => (h.set k _).congr (fun i _ => by rw [upd_twice, ← bufT_step, hNk.out]; unfold upd; split <;> rfl)⟩
        have hNo : Bx (s = movS (moveN rows ins at_) s → ∀ w2, Row w2 H 24 (upd (fun i => Value.string (bufT (edT rows ins at_ T) k i)) k (.string s)) → Row w2 H 24 (fun i => .string (bufT (edT rows ins at_ T) (k + 1) i))) := ⟨fun es w2 h => h.congr (fun i _ => by rw [← bufT_step, hNk.out, ← es]; unfold upd; split <;> rfl)⟩
        clear hX hN hf
        cases hfrm : frm s
        · have hNo := Bx.mk (hNo.out (movS_no hfrm).symm)
          have hTree : Bx (∀ wx, EY wx M sb T E → Calls Tryz.prog 76 #[pt M.me, .string s] wx (TrN wx (fun w => MF w M.fm) (fun k => k = M.fm))) := ⟨fun wx h => (hTree0.out wx h).mono (fun e w' h => h.no hfrm)⟩
          clear hTree0 hNn
          go_wp2_with (first
            | (go_at_call 74; refine (hFrom.out _).mono ?_; clear hFrom; rintro e _ ⟨rfl, rfl⟩)
            | (go_at_call 75; refine (hRaw.out _ hX0r.out).mono ?_; clear hRaw; rintro e _ ⟨rfl, rfl⟩)
            | (go_at_call 76; refine (hTree.out _ hX1.out).mono ?_; clear hTree; rintro e w3 ⟨sa, sn, sc, t', rfl, hz2, hf2⟩; have hX3 := Bx.mk ((hX1.out.stepF hz2 hf2).fr0 ((Fr.refl S0 _).alloc (.cells (trA (.slice sa sn sc) t') 105))); have hN3 := Bx.mk ((hf2.row hN1.out (fun e => hHA.out (.inl (.inr (.inl e))))).alloc (.cells (trA (.slice sa sn sc) t') 105)); have hf3 := Bx.mk ((hf1.out.trans (hf2.mono (fun k hk => .inr (.inl hk)))).alloc (.cells (trA (.slice sa sn sc) t') 105)); clear hf2 hz2 hX1 hN1 hf1))
          go_roundw
          case rel => exact ⟨k + 1, by omega, by go_num, hX3, ⟨hNo.out _ hN3.out⟩, hf3⟩
          case measure => simp [intOf]; omega
        · have hto := (frm_tree hfrm).1
          have hlen := hto.max
          have ht2 := hLM.out.tree hto
          rw [movS_yes hfrm] at hNn
          obtain ⟨n, hn⟩ : ∃ n, (tlT s).nodes.length = n := ⟨_, rfl⟩
          have hn2 : (mapT (moveN rows ins at_) (tlT s)).nodes.length = n := by show ((tlT s).nodes.map _).length = n; rw [List.length_map, hn]
          have hMov : Bx (∀ (g : Nat) wx, XL wx g (sl g n n) (tlT s).nodes → Calls Tryz.prog 77 #[treeV (sl g n n) (tlT s), I (kd rows ins), I at_] wx fun e w' => ∃ g2, wx.heap.size ≤ g2 ∧ e = .returned (treeV (sl g2 n n) (mapT (moveN rows ins at_) (tlT s))) ∧ XL w' g2 (sl g2 n n) (mapT (moveN rows ins at_) (tlT s)).nodes ∧ Fr S0 wx w') := ⟨fun g wx hXL => (moved_any rows ins at_ (sl g n n) (tlT s) wx (hXL.nl (by omega)) hto.ne hlen).mono (by
            rintro e w' ⟨g2, a1, a2, a3, a4⟩
            rw [hn2] at a2 a3
            exact ⟨g2, a1, a2, a3, a4⟩)⟩
          have hText : Bx (∀ (g : Nat) wx, EY wx M sb T E → XL wx g (sl g n n) (mapT (moveN rows ins at_) (tlT s)).nodes → g ≠ M.fm → Calls Tryz.prog 78 #[pt M.me, treeV (sl g n n) (mapT (moveN rows ins at_) (tlT s))] wx fun e w' => e = .returned (.string (eqS (printOf (mapT (moveN rows ins at_) (tlT s))))) ∧ MF w' M.fm ∧ Fr (fun k => k = M.fm) wx w') := ⟨fun g wx h hXL hg => mText_ok ht2 hn2 wx h hXL hg (hXL.agn hn2 ht2.ne).lt⟩
          have hTree : Bx (∀ wx, EY wx M sb T E → Calls Tryz.prog 76 #[pt M.me, .string s] wx (TrY wx (fun w => MF w M.fm) (fun k => k = M.fm) (tlT s) n)) := ⟨fun wx h => (hTree0.out wx h).mono (fun e w' h => h.yes hfrm hn hto.ne)⟩
          clear hTree0 hNo
          clear hto hlen ht2 hn hn2
          generalize eqS (printOf (mapT (moveN rows ins at_) (tlT s))) = S1 at *
          generalize mapT (moveN rows ins at_) (tlT s) = t2 at *
          generalize tlT s = t at *
          go_wp2_with (first
            | (go_at_call 74; refine (hFrom.out _).mono ?_; clear hFrom; rintro e _ ⟨rfl, rfl⟩)
            | (go_at_call 75; refine (hRaw.out _ hX0r.out).mono ?_; clear hRaw; rintro e _ ⟨rfl, rfl⟩)
            | (go_at_call 76; refine (hTree.out _ hX1.out).mono ?_; clear hTree; rintro e w3 ⟨g, hgw, hgl3, rfl, hXL, hz2, hf2⟩; have hX3 := Bx.mk ((hX1.out.stepF hz2 hf2).fr0 ((Fr.refl S0 _).alloc (.cells (trA (sl g n n) t) 105))); have hN3 := Bx.mk ((hf2.row hN1.out (fun e => hHA.out (.inl (.inr (.inl e))))).alloc (.cells (trA (sl g n n) t) 105)); have hf3 := Bx.mk ((hf1.out.trans (hf2.mono (fun k hk => .inr (.inl hk)))).alloc (.cells (trA (sl g n n) t) 105)); have hXL3 := Bx.mk (hXL.fr ((Fr.refl S0 _).alloc (.cells (trA (sl g n n) t) 105)) (fun _ _ _ e => e)); have hT3 := Bx.mk (tv_new w3 (sl g n n) t 105 rfl); obtain ⟨x0, x1, x2, x3⟩ := hT3.out.tr4; clear hf2 hz2 hX1 hN1 hf1 hXL)
            | (go_at_call 77; refine (hMov.out g _ hXL3.out).mono ?_; clear hMov; rintro e w4 ⟨g2, hg2, rfl, hXL4, hf4⟩; have hX4 := Bx.mk (hX3.out.fr0 (hf4.alloc (.cells (trA (sl g2 n n) t2) 105))); have hN4 := Bx.mk ((hf4.row0 hN3.out).alloc (.cells (trA (sl g2 n n) t2) 105)); have hg2f : g2 ≠ M.fm := (by have := hX3.out.lt M.fm (.inl (.inr (.inl rfl))); omega); have hXL4 := Bx.mk (hXL4.fr ((Fr.refl S0 _).alloc (.cells (trA (sl g2 n n) t2) 105)) (fun _ _ _ e => e)); have hf4 := Bx.mk ((hf3.out.trans hf4.up).alloc (.cells (trA (sl g2 n n) t2) 105)); have hT4 := Bx.mk (tv_new w4 (sl g2 n n) t2 105 rfl); obtain ⟨x0, x1, x2, x3⟩ := hT4.out.tr4; clear hX3 hT3 hf3 hXL3 hN3)
            | (go_at_call 78; refine (hText.out g2 _ hX4.out hXL4.out hg2f).mono ?_; clear hText; rintro e w5 ⟨rfl, hz5, hf5⟩; have hX5 := Bx.mk (hX4.out.stepF hz5 hf5); have hN5 := Bx.mk (hf5.row hN4.out (fun e => hHA.out (.inl (.inr (.inl e))))); have hf5 := Bx.mk (hf4.out.trans (hf5.mono (fun k hk => .inr (.inl hk)))); have b0 := hN5.out.cell k hk24; have z0 := hN5.out.frozen k; have hlb := hN5.out.lt; clear hX4 hT4 hf4 hXL4 hN4))
          go_roundw
          case rel => exact ⟨k + 1, by omega, by go_num, ⟨hX5.out.put hHA.out k _⟩, ⟨hNn.out _ hN5.out⟩, ⟨fr_nw hf5.out hHw⟩⟩
          case measure => simp [intOf]; omega
      · have hNk := Bx.mk (hnone.out (by simpa using hq))
        go_wp2_with (first
          | (go_at_call 74; refine (hFrom.out _).mono ?_; clear hFrom; rintro e _ ⟨rfl, rfl⟩))
        go_roundw
        case rel => exact ⟨k + 1, by omega, by go_num, hX, ⟨hN.out.congr (fun i _ => by rw [bufT_same _ _ _ hNk.out])⟩, hf⟩
        case measure => simp [intOf]; omega
end
end Go.Proofs.Qxb6500326aGreat
