import Derived.Test.Qxb6500326aGreatK3
import Derived.Deep.CutRange
import Derived.Deep.RegionHeld3
namespace Go.Proofs.Qxb6500326aGreat
set_option maxRecDepth 100000
set_option linter.unusedVariables false
set_option linter.unusedSimpArgs false
open Go.RowKit Go.PlainAid
attribute [local go_sem] bv_and bv_or bv_eq_zero bv_ne_zero bv_bit

theorem to_step {α : Type} {P Q : Nat → α} {k : Nat} {v : α} (hv : v = P k) (c : Nat) : upd (fun c => if c < k then P c else Q c) k v c = (if c < k + 1 then P c else Q c) := by
  by_cases e : c = k
  · subst e; rw [upd_same, if_pos (by omega)]; exact hv
  · rw [upd_other _ _ e]
    show (if c < k then _ else _) = _
    by_cases e2 : c < k
    · rw [if_pos e2, if_pos (by omega)]
    · rw [if_neg e2, if_neg (by omega)]
theorem to_same {α : Type} {P Q : Nat → α} {k : Nat} (hv : Q k = P k) (c : Nat) : (if c < k then P c else Q c) = (if c < k + 1 then P c else Q c) := by
  by_cases e : c = k
  · subst e; rw [if_neg (by omega), if_pos (by omega)]; exact hv
  · by_cases e2 : c < k
    · rw [if_pos e2, if_pos (by omega)]
    · rw [if_neg e2, if_neg (by omega)]
theorem MEv.fr0 {w w' : World} {mb fb : Nat} (h : MEv w mb fb) (f : Fr S0 w w') : MEv w' mb fb := h.fr f (by simp) (by simp)
theorem Gr.MG.eq {w : World} {b : Nat} {R R' : Nat → BitVec 32} (h : Gr.MG w b R) (he : ∀ i, i < 24 → R i = R' i) : Gr.MG w b R' := ⟨h.row.congr (fun i hi => by rw [he i hi]), h.obj⟩
theorem cell_sets3 {w : World} {H : Nat} {a : Addr} {v1 v2 v3 : Value} (h : ¬ a.block = H) : (((w.setCell ⟨H, 0, none⟩ v1).setCell ⟨H, 1, none⟩ v2).setCell ⟨H, 2, none⟩ v3).cell? a = w.cell? a :=
  World.cell?_of_block (w := w) (by rw [Below.heap_setCell _ _ _ _ h, Below.heap_setCell _ _ _ _ h, Below.heap_setCell _ _ _ _ h])
/-! A region that draws, calls, and lays the answer in a new block: the block is made behind the call, or ahead of it. -/
theorem cut_A {S : Nat → Prop} {wr w2 : World} (x : Vl) (f : Fr S wr.drew w2) : Row (w2.alloc (.cells (vA x) 92)) w2.heap.size 3 (vC x) ∧ Fr S wr (w2.alloc (.cells (vA x) 92)) ∧ wr.heap.size ≤ w2.heap.size ∧ Fr S0 w2 (w2.alloc (.cells (vA x) 92)) :=
  ⟨v_new w2 x 92 rfl, (((Fr.refl S wr).drew).trans f).alloc _, f.size, (Fr.refl _ _).alloc _⟩
theorem cut_B {S : Nat → Prop} {wr w2 : World} (x : Vl) {o : Obj} {f0 : Nat → Value} (f : Fr S (wr.alloc o).drew w2) (hz : Row w2 wr.heap.size 3 f0) : Row (sets w2 wr.heap.size 0 (vA x).toList) wr.heap.size 3 (vC x) ∧ Fr S wr (sets w2 wr.heap.size 0 (vA x).toList) ∧ wr.heap.size ≤ wr.heap.size ∧ Fr (fun k => k = wr.heap.size) w2 (sets w2 wr.heap.size 0 (vA x).toList) :=
  ⟨v_sets hz x, sets_fr (S := S) (a := wr) (b := wr.heap.size) (.inr (Nat.le_refl _)) (vA x).toList w2 0 ((((Fr.refl S wr).alloc o).drew).trans f), Nat.le_refl _, sets_fr (S := fun k => k = wr.heap.size) (a := w2) (b := wr.heap.size) (.inl rfl) (vA x).toList w2 0 (Fr.refl _ _)⟩
section
variable {cb mb fb rb sb : Nat} {T : Nat → ByteArray} {E : Nat → Vl}
set_option maxHeartbeats 4000000 in
theorem wires_any (w : World) (h : CM w cb mb fb rb sb T E) : Calls Tryz.prog 137 #[pt cb] w fun e w' => e = .returned (pt (w.heap.size + 1)) ∧ Gr.MG w' w.heap.size (RT T) ∧ MEv w' mb fb ∧ Fr (MeS mb fb) w w' := by
  obtain ⟨n, ho⟩ := h.obj
  have hlt := h.lt
  have hm1 := hlt mb (.inr (.inl rfl))
  have hm2 := hlt fb (.inr (.inr (.inl rfl)))
  have HO : Bx (∀ w', Fr (MeS mb fb) w w' → Row w' cb 4 (cmC mb rb sb n)) := ⟨fun w' f => f.row ho (by rintro (e | e); exact h.n1.1 e; exact h.n1.2.1 e)⟩
  have HR : Bx (∀ w', Fr (MeS mb fb) w w' → Row w' rb 24 (fun i => .string (T i))) := ⟨fun w' f => f.row h.raw (by rintro (e | e); exact h.n2.1 e; exact h.n2.2.1 e)⟩
  have HM : Bx (∀ w', Fr S0 w w' → MEv w' mb fb) := ⟨fun w' f => h.me.fr f (fun e => e) (fun e => e)⟩
  have HRd : Bx (∀ (s : ByteArray) (w' : World), MEv w' mb fb → Calls Tryz.prog 165 #[pt mb, .string s] w' fun e w'' => e = .returned (.tuple #[U (readsP s).1, I (readsP s).2]) ∧ MEv w'' mb fb ∧ Fr (MeS mb fb) w' w'') := ⟨fun s w' h => readsM_any mb fb s w' h⟩
  have hgm : Bx (w.heap.size ≠ mb ∧ w.heap.size ≠ fb ∧ w.heap.size + 1 ≠ mb ∧ w.heap.size + 1 ≠ fb) := ⟨⟨by omega, by omega, by omega, by omega⟩⟩
  clear ho h hlt hm1 hm2
  go_enter Tryz.func137, Tryz.ntmps137
  go_wp2_with (first | (go_at_call 164; refine (Gr.mNew_any _).mono ?_; rintro e w1 ⟨rfl, hG, hf, hsz⟩; have hG := Bx.mk hG; have hf := Bx.mk hf; clear hsz))
  go_loopw [4] (fun c wr => ∃ k : Nat, k ≤ 24 ∧ c = I (k : Int) ∧ Bx (Gr.MG wr w.heap.size (fun i => if i < k then RT T i else 0#32)) ∧ Bx (MEv wr mb fb) ∧ Bx (Fr (MeS mb fb) w wr)) (fun c _ => 24 - (intOf c).toNat)
  case atStart => exact ⟨0, by omega, rfl, ⟨hG.out.eq (fun i hi => by simp)⟩, ⟨HM.out _ hf.out⟩, ⟨hf.out.up⟩⟩
  case round =>
    clear hG hf HM
    obtain ⟨k, hk, rfl, hG, hM, hf⟩ := hrel
    cases hlt : decide ((k : Int) < 24)
    · have hk24 : k = 24 := by simp at hlt; omega
      go_wp2_with fail
      go_ret
      exact ⟨rfl, hG.out.eq (fun i hi => by rw [if_pos (by omega)]), hM.out, hf.out⟩
    · have hk24 : k < 24 := by simp at hlt; omega
      have hkI : (k : Int) < 24 := by omega
      obtain ⟨c0, c1, -, -, -, -⟩ := (HO.out _ hf.out).cm4
      have e0 := (HR.out _ hf.out).cell k hk24
      have l0 := (HO.out _ hf.out).lt
      have l1 := (HR.out _ hf.out).lt
      have hin : Bx ((readsP (T k)).1 &&& Gr.Out = 0#32) := ⟨readsP_in _⟩
      have heq : Bx (RT T k = (readsP (T k)).1) := ⟨rfl⟩
      have hRd := Bx.mk (HRd.out (T k))
      generalize readsP (T k) = r at hin heq hRd
      obtain ⟨r1, r2⟩ := r
      go_wp2_with fail
      refine region_cut (fun w' => Bx (MEv w' mb fb) ∧ Bx (Fr (MeS mb fb) wr w')) ?_
      apply Exists.intro
      apply And.intro
      · go_region_with (first | (go_at_call 165; refine (hRd.out _ (hM.out.fr0 (Fr.refl S0 wr).drew)).mono ?_; rintro e w2 ⟨rfl, hm2, hf2⟩))
        all_goals exact ⟨rfl, ⟨hm2⟩, ⟨(Fr.refl _ wr).thru hf2 rfl rfl rfl rfl⟩⟩
      rintro w2 ⟨hm2, hf2⟩
      have hG2 := Bx.mk (hG.out.fr hf2.out (by rintro (e | e); exact hgm.out.1 e; exact hgm.out.2.1 e) (by rintro (e | e); exact hgm.out.2.2.1 e; exact hgm.out.2.2.2 e))
      clear hRd hG hM c0 c1 e0
      go_wp2_with (first | (go_at_call 166; refine (Gr.mSet_ok w.heap.size _ k r1 _ hG2.out hk24 hin.out).mono ?_; rintro e w3 ⟨rfl, hG3, hf3⟩; have hG3 := Bx.mk hG3; have hf3 := Bx.mk hf3))
      go_roundw
      case rel =>
        refine ⟨k + 1, by omega, by go_num, ⟨hG3.out.eq (fun i hi => ?_)⟩, ⟨hm2.out.fr hf3.out ?_ ?_⟩, ⟨(hf.out.trans hf2.out).step hf3.out ?_⟩⟩
        · exact to_step heq.out.symm i
        · rintro (e | e); exact hgm.out.1 e.symm; exact hgm.out.2.2.1 e.symm
        · rintro (e | e); exact hgm.out.2.1 e.symm; exact hgm.out.2.2.2 e.symm
        · rintro x (e | e)
          · exact .inr (by omega)
          · exact .inr (by omega)
      case measure => simp [intOf]; omega
theorem sh0_lw {s : BitVec 32} (k : Nat) : LwE (fun c => if c < k then blighted s (fun _ => v0) c else v0) := by
  intro c _
  show Lw (if c < k then _ else _)
  split
  · unfold blighted; split
    · exact lw_ring
    · exact .none
  · exact .none
abbrev Full : BitVec 32 := 4294967295#32
theorem Full_all : ∀ c, c < 24 → Full.getLsbD c = true := by decide
/-- The list of an order, as a slice. -/
theorem ilv_slice {w : World} {lo : Nat} {v : Value} {L : List Nat} (h : Gr.ILv w lo v L) : ∃ ad cap, v = .slice ad L.length cap ∧ (L.length = 0 ∨ ∃ g, ad = some ⟨g, 0, none⟩ ∧ Gr.IL w lo g L) := by
  rcases h with ⟨rfl, rfl⟩ | ⟨g, cap, rfl, h⟩
  · exact ⟨none, 0, rfl, .inl rfl⟩
  · exact ⟨_, cap, rfl, .inr ⟨g, rfl, h⟩⟩
set_option maxHeartbeats 8000000 in
theorem sheet_any (w : World) (h : CM w cb mb fb rb sb T E) (hok : TxOK T) : Calls Tryz.prog 108 #[pt cb] w fun e w' => ∃ sb' E', e = .returned (.tuple #[]) ∧ w.heap.size ≤ sb' ∧ CM w' cb mb fb rb sb' T E' ∧ Sheet T E' ∧ Fr (fun k => k = cb ∨ MeS mb fb k) w w' := by
  obtain ⟨n, ho⟩ := h.obj
  have hlt := h.lt
  have hm1 := hlt mb (.inr (.inl rfl))
  have hm2 := hlt fb (.inr (.inr (.inl rfl)))
  have hl3 := hlt cb (.inl rfl)
  have hl4 := hlt rb (.inr (.inr (.inr (.inl rfl))))
  have hn1 := h.n1
  have hn2 := h.n2
  have HO : Bx (∀ w', Fr (MeS mb fb) w w' → Row w' cb 4 (cmC mb rb sb n)) := ⟨fun w' f => f.row ho (by rintro (e | e); exact hn1.1 e; exact hn1.2.1 e)⟩
  have HR : Bx (∀ w', Fr (MeS mb fb) w w' → Row w' rb 24 (fun i => .string (T i))) := ⟨fun w' f => f.row h.raw (by rintro (e | e); exact hn2.1 e; exact hn2.2.1 e)⟩
  have HW := Bx.mk (wires_any w h)
  have HC : Bx (∀ (c g : Nat) (env : Nat → Vl) (w' : World), c < 24 → MEv w' mb fb → EL w' g 24 env → g ≠ mb → g ≠ fb → LwE env → Calls Tryz.prog 141 #[pt mb, .string (T c), sl g 24 24] w' fun e w'' => e = .returned (.tuple #[vV (FT T c env), I 0]) ∧ MEv w'' mb fb ∧ Fr (MeS mb fb) w' w'') := ⟨fun c g env w' hc hm hE h1 h2 hl => (mf_mean (hok c hc)).model mb fb w' g 24 env hm hE h1 h2 hl⟩
  have hok := Bx.mk hok
  have hS := Bx.mk (sht_of hok.out)
  have hdis : Bx (cb ≠ mb ∧ cb ≠ fb ∧ cb ≠ rb ∧ rb ≠ mb ∧ rb ≠ fb ∧ mb < w.heap.size ∧ fb < w.heap.size ∧ cb < w.heap.size ∧ rb < w.heap.size) := ⟨⟨hn1.1, hn1.2.1, hn1.2.2.1, hn2.1, hn2.2.1, hm1, hm2, hl3, hl4⟩⟩
  have k2 := mk39
  generalize hB : M47 24 = A2 at k2
  have hB := Bx.mk hB
  generalize hRR : RT T = R at HW hS
  generalize hFF : FT T = F at HC hS
  have hRR := Bx.mk hRR
  have hFF := Bx.mk hFF
  clear ho h hlt hm1 hm2 hl3 hl4 hn1 hn2
  go_enter Tryz.func108, Tryz.ntmps108
  go_wp2_with (first
    | (go_at_call 137; refine HW.out.mono ?_; clear HW; rintro e w1 ⟨rfl, hG, hM, hf⟩; have hG := Bx.mk hG; have hM := Bx.mk hM; have hf := Bx.mk hf; have hg1 := Bx.mk hG.out.lt)
    | (go_at_call 138; refine (Gr.mCyclic_any w.heap.size R _ hG.out).mono ?_; rintro e w2 ⟨rfl, hG2, hf2⟩; have hM := Bx.mk (hM.out.fr hf2 (by have := hdis.out; show ¬ mb = w.heap.size + 1; omega) (by have := hdis.out; show ¬ fb = w.heap.size + 1; omega)); have hf := Bx.mk (hf.out.step hf2 (fun x e => .inr (by have e : x = w.heap.size + 1 := e; omega))); have hG := Bx.mk hG2; have hg2 := Bx.mk hG.out.lt; clear hG2 hf2))
  have hE := Bx.mk (mv_row hB.out w2 rfl)
  go_loopw [5] (fun c wr => ∃ k : Nat, k ≤ 24 ∧ c = I (k : Int) ∧ Bx (EL wr w2.heap.size 24 (fun c => if c < k then blighted (Gr.cyc R) (fun _ => v0) c else v0)) ∧ Bx (Fr S0 w2 wr)) (fun c _ => 24 - (intOf c).toNat)
  case atStart => exact ⟨0, by omega, rfl, ⟨hE.out.eeq (fun c hc => by simp)⟩, ⟨(Fr.refl S0 w2).alloc _⟩⟩
  case round =>
    clear hE
    obtain ⟨k, hk, rfl, hE, hfe⟩ := hrel
    cases hlt : decide ((k : Int) < 24)
    · have hk24 : k = 24 := by simp at hlt; omega
      have hM3 := Bx.mk (hM.out.fr hfe.out (by simp) (by simp))
      have hG3 := Bx.mk (hG.out.fr0 hfe.out)
      have hf3 := Bx.mk (hf.out.trans hfe.out.up)
      have hI : Bx (ShI R F Full 0 (fun c => if c < k then blighted (Gr.cyc R) (fun _ => v0) c else v0)) := ⟨⟨sh0_lw k, fun c hc hl => by
        show (if c < k then _ else _) = _
        rw [if_pos (by omega)]; unfold blighted; rw [if_pos (by rw [Gr.mem_cyc]; simp [hc, hl])], fun c _ hp => absurd hp (by omega)⟩⟩
      have hO : Bx (∀ w', Gr.MG w' w.heap.size R → Calls Tryz.prog 140 #[pt (w.heap.size + 1), .int .u32 4294967295] w' fun e w'' => ∃ ad cap, e = .returned (.slice ad (Gr.ord R Full).length cap) ∧ ((Gr.ord R Full).length = 0 ∨ ∃ g, ad = some ⟨g, 0, none⟩ ∧ Gr.IL w'' (w'.heap.size + 1) g (Gr.ord R Full)) ∧ Fr (fun k => k = w.heap.size + 1) w' w'') := ⟨fun w' hg => (Gr.mOrder_any w.heap.size R Full w' hg).mono (fun e w'' hh => by
        obtain ⟨v, rfl, hv, -, hf⟩ := hh
        obtain ⟨ad, cap, rfl, hh⟩ := ilv_slice hv
        exact ⟨ad, cap, rfl, hh, hf⟩)⟩
      have hL24 : Bx (∀ i, i < (Gr.ord R Full).length → Gr.nth (Gr.ord R Full) i < 24) := ⟨fun i hi => (Gr.ord_at R Full hi).1.1⟩
      have hst : Bx (∀ i e, ShI R F Full i e → i < (Gr.ord R Full).length → ShI R F Full (i + 1) (upd e (Gr.nth (Gr.ord R Full) i) (F (Gr.nth (Gr.ord R Full) i) e))) := ⟨fun i e h hi => h.step hS.out Full_all hi⟩
      have hfin : Bx (∀ e, ShI R F Full (Gr.ord R Full).length e → Sheet T e) := ⟨fun e h => ⟨hok.out, h.lw, by rw [hRR.out, hFF.out]; exact h.final Full_all⟩⟩
      have hw2 : Bx (w.heap.size ≤ w2.heap.size) := ⟨hf.out.size⟩
      have hwr : Bx (w2.heap.size < wr.heap.size) := ⟨Row.lt hE.out⟩
      have hLl : Bx ((Gr.ord R Full).length ≤ 576) := ⟨Gr.ordTo_len R Full 24⟩
      generalize Gr.ord R Full = L at hO hL24 hst hfin hLl
      clear hk hk24 hM hG hf k2 hS
      generalize (fun c => if c < k then blighted (Gr.cyc R) (fun _ => v0) c else v0) = e0 at hE hI
      go_wp2_with (first
        | (go_at_call 140; (refine (hO.out _ hG3.out).mono ?_; clear hO; rintro e w4 ⟨ad, cap, rfl, hL, hf4⟩; have hM4 := Bx.mk (hM3.out.fr hf4 (by have := hdis.out; show ¬ mb = w.heap.size + 1; omega) (by have := hdis.out; show ¬ fb = w.heap.size + 1; omega)); have hE4 := Bx.mk (hE.out.of hf4 (by have := hg2.out; show ¬ w2.heap.size = w.heap.size + 1; omega)); have hff := Bx.mk (hf3.out.step hf4 (fun x e => .inr (by have e : x = w.heap.size + 1 := e; omega))); obtain ⟨N, hN, hL⟩ : ∃ N, w2.heap.size < N ∧ (L.length = 0 ∨ ∃ g, ad = some ⟨g, 0, none⟩ ∧ Gr.IL w4 N g L) := ⟨_, Nat.lt_succ_of_lt hwr.out, hL⟩; have hL := Bx.mk hL; have hN := Bx.mk hN; clear hf4 hM3 hE hf3 hG3 hwr)))
      go_loopw [7] (fun c wx => ∃ (i : Nat) (ev : Nat → Vl), i ≤ L.length ∧ c = I (i : Int) ∧ Bx (ShI R F Full i ev) ∧ Bx (EL wx w2.heap.size 24 ev) ∧ Bx (MEv wx mb fb) ∧ Bx (L.length = 0 ∨ ∃ g, ad = some ⟨g, 0, none⟩ ∧ Gr.IL wx N g L) ∧ Bx (Fr (MeS mb fb) w wx) ∧ Bx (w4.heap.size ≤ wx.heap.size)) (fun c _ => L.length - (intOf c).toNat)
      case atStart => exact ⟨0, e0, by omega, rfl, hI, hE4, hM4, hL, hff, ⟨Nat.le_refl _⟩⟩
      case round =>
        clear hI hE4 hM4 hL hff
        obtain ⟨i, ev, hi, rfl, hI, hE, hM, hL, hf, hsz⟩ := hrel
        cases hlt : decide ((i : Int) < (L.length : Int))
        · have hiL : i = L.length := by simp at hlt; omega
          have hrow := HO.out _ hf.out
          obtain ⟨-, -, c2, -, z2, -⟩ := hrow.cm4
          have lc := hrow.lt
          have hrow := Bx.mk hrow
          have hrr := Bx.mk (HR.out _ hf.out)
          clear HO HR HC hst hL hL24
          go_wp2_with fail
          go_end0
          have d := hdis.out
          have hw2' := hw2.out
          have f : Fr (fun k => k = cb) wr (wr.setCell ⟨cb, 2, none⟩ (sl w2.heap.size 24 24)) := (Fr.refl (fun k => k = cb) wr).setCell (p := ⟨cb, 2, none⟩) (.inl rfl) _
          refine ⟨w2.heap.size, ev, rfl, hw2', ⟨⟨n, (hrow.out.set 2 _).congr (fun i hi => by
            match i, hi with
            | 0, _ => rfl
            | 1, _ => rfl
            | 2, _ => rfl
            | 3, _ => rfl)⟩, hM.out.fr f (fun e => d.1 e.symm) (fun e => d.2.1 e.symm), f.row hrr.out (fun e => d.2.2.1 e.symm), hE.out.of f (by show ¬ w2.heap.size = cb; omega), ⟨d.1, d.2.1, d.2.2.1, by omega⟩, ⟨d.2.2.2.1, d.2.2.2.2.1, by omega⟩, ⟨by omega, by omega⟩⟩, hfin.out ev (hiL ▸ hI.out), (hf.out.mono (fun k hk => .inr hk)).setCell (p := ⟨cb, 2, none⟩) (.inl (.inl rfl)) _⟩
        · have hiL : i < L.length := by simp at hlt; omega
          have hx24 := hL24.out i hiL
          have hi6 : i < 600 := by have := hLl.out; omega
          have hi6I : (i : Int) < 600 := by omega
          have hstep := Bx.mk (hst.out i ev hI.out hiL)
          obtain ⟨g2, rfl, hIL⟩ : ∃ g, ad = some ⟨g, 0, none⟩ ∧ Gr.IL wr N g L := by
            rcases hL.out with h0 | h0
            · omega
            · exact h0
          have o0 := hIL.cell i hiL
          have og := hIL.lt
          have hlo := hIL.lo
          have hIL := Bx.mk hIL
          obtain ⟨c0, c1, -, -, -, -⟩ := (HO.out _ hf.out).cm4
          have l0 := (HO.out _ hf.out).lt
          have l1 := (HR.out _ hf.out).lt
          generalize hcc : Gr.nth L i = c at *
          have hcc := Bx.mk hcc
          have e0' := (HR.out _ hf.out).cell c hx24
          have hcI : (c : Int) < 24 := by omega
          have hiI : (i : Int) < (L.length : Int) := by omega
          have d := hdis
          have hw2' := hw2.out
          have hC0 : Bx (∀ w', MEv w' mb fb → EL w' w2.heap.size 24 ev → Calls Tryz.prog 141 #[pt mb, .string (T c), sl w2.heap.size 24 24] w' fun e w'' => e = .returned (.tuple #[vV (F c ev), I 0]) ∧ MEv w'' mb fb ∧ Fr (MeS mb fb) w' w'') := ⟨fun w' h1 h2 => HC.out c _ ev w' hx24 h1 h2 (by have := d.out; omega) (by have := d.out; omega) hI.out.lw⟩
          generalize F c ev = x at hC0 hstep
          have hC1 := Bx.mk (hC0.out wr.drew (hM.out.fr0 (Fr.refl S0 wr).drew) hE.out)
          have hC2 : Bx (∀ o, Calls Tryz.prog 141 #[pt mb, .string (T c), sl w2.heap.size 24 24] (wr.alloc o).drew fun e w'' => e = .returned (.tuple #[vV x, I 0]) ∧ MEv w'' mb fb ∧ Fr (MeS mb fb) (wr.alloc o).drew w'') := ⟨fun o => hC0.out _ (hM.out.fr (S := S0) ((Fr.refl S0 wr).alloc o).drew (by simp) (by simp)) (hE.out.of (S := S0) ((Fr.refl S0 wr).alloc o).drew (by simp))⟩
          have hz : Bx (Row (wr.alloc (.cells #[I 0, I 0, .string es] 92)).drew wr.heap.size 3 (vC v0)) := ⟨(v_zero wr 92 rfl).drew⟩
          have hnq : Bx (¬ MeS mb fb wr.heap.size) := ⟨by have := d.out; have := hf.out.size; rintro (e | e) <;> omega⟩
          have hcells : Bx (∀ w', Fr (MeS mb fb) wr w' → w'.cell? ⟨cb, 0, none⟩ = some (pt mb) ∧ w'.cell? ⟨cb, 1, none⟩ = some (sl rb 24 24) ∧ w'.cell? ⟨g2, i, none⟩ = some (I (c : Int)) ∧ w'.cell? ⟨rb, c, none⟩ = some (.string (T c)) ∧ cb < w'.heap.size ∧ rb < w'.heap.size ∧ g2 < w'.heap.size) := ⟨fun w' f => by
            have q1 := HO.out _ (hf.out.trans f)
            have q2 := HR.out _ (hf.out.trans f)
            have q3 := hIL.out.fr f (by have := d.out; have := hN.out; rintro k (e | e) <;> omega)
            exact ⟨q1.cm4.1, q1.cm4.2.1, (q3.cell i hiL).trans (by rw [hcc.out]), q2.cell c hx24, q1.lt, q2.lt, q3.lt⟩⟩
          generalize T c = tc at e0' hC1 hC2 hcells
          have nq1 : ¬ cb = wr.heap.size := by omega
          have nq2 : ¬ rb = wr.heap.size := by omega
          have nq3 : ¬ g2 = wr.heap.size := by omega
          clear hC0 HC hst hL hL24 hfin hI
          go_upto_region 12 with fail
          go_cut [8] from 30 to 61 (fun p wy => ∃ H : Nat, p = pt H ∧ Bx (Row wy H 3 (vC x)) ∧ Bx (MEv wy mb fb) ∧ Bx (Fr (MeS mb fb) wr wy) ∧ Bx (wr.heap.size ≤ H))
          case first =>
            go_region_held3 (fun w' => w'.cell? ⟨cb, 0, none⟩ = some (pt mb) ∧ w'.cell? ⟨cb, 1, none⟩ = some (sl rb 24 24) ∧ w'.cell? ⟨g2, i, none⟩ = some (I (c : Int)) ∧ w'.cell? ⟨rb, c, none⟩ = some (.string tc)) (first | go_keep | exact ⟨(cell_sets3 nq1).trans (by assumption), (cell_sets3 nq1).trans (by assumption), (cell_sets3 nq3).trans (by assumption), (cell_sets3 nq2).trans (by assumption)⟩)
              (first
              | (go_at_call 141; refine hC1.out.mono ?_; rintro e w5 ⟨rfl, hm5, hf5⟩; obtain ⟨k0, k1, k2, k3, k4, k5, k6⟩ := hcells.out w5 (((Fr.refl _ wr).drew).trans hf5); have hm5 := Bx.mk hm5; have hf5A := Bx.mk hf5)
              | (go_at_call 141; refine (hC2.out _).mono ?_; rintro e w5 ⟨rfl, hm5, hf5⟩; obtain ⟨k0, k1, k2, k3, k4, k5, k6⟩ := hcells.out w5 ((((Fr.refl _ wr).alloc _).drew).trans hf5); have hT5 := Bx.mk (hf5.row hz.out hnq.out); obtain ⟨x0, x1, x2, y0, y1, y2⟩ := hT5.out.v3; have hm5 := Bx.mk hm5; have hf5B := Bx.mk hf5))
            all_goals (first | go_wp2_with fail | skip)
            all_goals go_meet
            all_goals first
              | (obtain ⟨a1, a2, a3, a4⟩ := cut_B x hf5B.out hT5.out
                 exact ⟨wr.heap.size, rfl, ⟨a1⟩, ⟨hm5.out.fr a4 (fun e => hnq.out (.inl e.symm)) (fun e => hnq.out (.inr e.symm))⟩, ⟨a2⟩, ⟨a3⟩⟩)
              | (obtain ⟨a1, a2, a3, a4⟩ := cut_A x hf5A.out
                 exact ⟨w5.heap.size, rfl, ⟨a1⟩, ⟨hm5.out.fr a4 (by simp) (by simp)⟩, ⟨a2⟩, ⟨a3⟩⟩)
          case rest =>
          obtain ⟨H, rfl, hX, hM5, hf5, hH⟩ := hcut
          obtain ⟨x0, x1, x2, -, -, -⟩ := hX.out.v3
          have hXl := hX.out.lt
          have hIL5 := Bx.mk (hIL.out.fr hf5.out (by have := d.out; have := hN.out; rintro k (e | e) <;> omega))
          have o5 := hIL5.out.cell i hiL
          rw [hcc.out] at o5
          have o5g := hIL5.out.lt
          have hE5 := Bx.mk (hE.out.of hf5.out (by have := d.out; rintro (e | e) <;> omega))
          obtain ⟨m0, m1, m2, z0, z1, z2⟩ := hE5.out.ev3 hx24
          have hEl := Row.lt hE5.out
          clear hC1 hC2 hz c0 c1 o0 e0' hX
          go_wp2_with fail
          refine region_cut (fun w' => Bx (Fr S0 (sets wc w2.heap.size (c * 3) (vA x).toList) w')) ?_
          apply Exists.intro
          apply And.intro
          · go_region
            all_goals exact ⟨rfl, ⟨⟨rfl, rfl, rfl, Nat.le_refl _, fun _ _ _ => rfl⟩⟩⟩
          rintro wd hfd
          go_wp2_with fail
          go_roundw
          case rel =>
            have d' := d.out
            have hN' := hN.out
            have hS0 : Fr (fun k => k = w2.heap.size) wc (sets wc w2.heap.size (c * 3) (vA x).toList) := fr_val (.inl rfl) (Fr.refl _ _)
            have hS1 := hS0.trans hfd.out.up
            have hS2 : Fr (MeS mb fb) w (sets wc w2.heap.size (c * 3) (vA x).toList) := fr_val (.inr (by omega)) (hf.out.trans hf5.out)
            exact ⟨i + 1, _, by omega, by go_num, hstep, ⟨(hE5.out.eput c x).of hfd.out (by simp)⟩, ⟨hM5.out.fr hS1 (by show ¬ mb = w2.heap.size; omega) (by show ¬ fb = w2.heap.size; omega)⟩, ⟨.inr ⟨g2, rfl, hIL5.out.fr hS1 (by intro k e; have e : k = w2.heap.size := e; omega)⟩⟩, ⟨hS2.trans hfd.out.up⟩, ⟨Nat.le_trans hsz.out (Nat.le_trans hf5.out.size hS1.size)⟩⟩
          case measure => simp [intOf]; omega
    · have hk24 : k < 24 := by simp at hlt; omega
      have hkI : (k : Int) < 24 := by omega
      clear HO HR HC hok hS hM hG hf hg1 hg2 hRR hFF hdis k2 hB
      cases hbit : (Gr.cyc R).getLsbD k
      · have hd1 : (Gr.cyc R &&& Gr.bit k != 0#32) = false := by rw [Gr.and_bit_bne (by omega)]; exact hbit
        go_wp2_with (first
          | (go_at_call 124; refine (Gr.bit_any k _ hk24).mono ?_; rintro e w' ⟨rfl, rfl⟩))
        go_roundw
        case rel =>
          exact ⟨k + 1, by omega, by go_num, ⟨hE.out.eeq (fun c hc => to_same (P := blighted (Gr.cyc R) (fun _ => v0)) (Q := fun _ => v0) (by unfold blighted; rw [hbit]; rfl) c)⟩, hfe⟩
        case measure => simp [intOf]; omega
      · have hd1 : (Gr.cyc R &&& Gr.bit k != 0#32) = true := by rw [Gr.and_bit_bne (by omega)]; exact hbit
        go_wp2_with (first
          | (go_at_call 124; refine (Gr.bit_any k _ hk24).mono ?_; rintro e w' ⟨rfl, rfl⟩)
          | (go_at_call 139; (refine (err_any 6 _).mono ?_; rintro e w0 ⟨rfl, hf0⟩; have hE0 := Bx.mk (hE.out.of hf0 (by simp)); obtain ⟨m0, m1, m2, z0, z1, z2⟩ := hE0.out.ev3 hk24; have hEl := Row.lt hE0.out; simp only [if_neg (Nat.lt_irrefl k)] at m0 m1 m2; have hf0 := Bx.mk hf0)))
        go_roundw
        case rel =>
          exact ⟨k + 1, by omega, by go_num, ⟨(hE0.out.eput k (vErr 6)).eeq (fun c hc => to_step (P := blighted (Gr.cyc R) (fun _ => v0)) (Q := fun _ => v0) (by unfold blighted; rw [hbit]; rfl) c)⟩, ⟨fr_val (.inr (Nat.le_refl _)) (hfe.out.trans hf0.out)⟩⟩
        case measure => simp [intOf]; omega
end
end Go.Proofs.Qxb6500326aGreat
