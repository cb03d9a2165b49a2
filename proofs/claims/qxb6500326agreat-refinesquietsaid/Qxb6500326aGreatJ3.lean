import Derived.Test.Qxb6500326aGreatJ2
import Derived.Test.Qxb6500326aGreatT4
import Derived.BigRegion
import Derived.OwnWalk
namespace Go.Proofs.Qxb6500326aGreat
set_option maxRecDepth 100000
set_option linter.unusedVariables false
set_option linter.unusedSimpArgs false
open Go.RowKit Go.PlainAid

/-- The colours of the model's side. -/
def MC (n : Nat) : Prop := n = 2 ∨ n = 3 ∨ n = 4 ∨ n = 8
/-- The model's document but for what its lists hold. -/
structure BY (w : World) (ρ : Nat → Nat) (mk : Nat) (M : YA) (T : Tx) (vp vn : Value) : Prop where
  ls : Row w mk 3 (bmC M vp vn)
  ed : YB w ρ M T
  co : ρ mk = 8
  tx : TxO T
structure BX (w : World) (ρ : Nat → Nat) (mk : Nat) (M : YA) (T : Tx) (past next : List Tx) (vp vn : Value) : Prop where
  by' : BY w ρ mk M T vp vn
  pt : LT w ρ 3 vp past
  nt : LT w ρ 4 vn next
  pl : past.length ≤ 6
  nl : next.length ≤ 6
def BM (w : World) (ρ : Nat → Nat) (mk : Nat) (M : YA) (T : Tx) (past next : List Tx) : Prop := ∃ vp vn, BX w ρ mk M T past next vp vn
/-- What done leaves; what Undo, Redo leave. -/
def MdP (w : World) (ρ : Nat → Nat) (e0 : Ending) (Q : World → (Nat → Nat) → Prop) : Ending → World → Prop := fun e w' => e = e0 ∧ (∃ ρ', Ext w ρ ρ' ∧ Q w' ρ') ∧ Fr (fun k => MC (ρ k)) w w'
section
variable {w w' : World} {ρ ρ' : Nat → Nat} {mk : Nat} {M : YA} {T T' : Tx} {vp vn v : Value} {past next L : List Tx} {c : Nat}
theorem BY.fr (h : BY w ρ mk M T vp vn) {S : Nat → Prop} (f : Fr S w w') (hS : ∀ k, ρ k = 2 ∨ ρ k = 8 → ¬ S k) (hx : Ext w ρ ρ') : BY w' ρ' mk M T vp vn :=
  ⟨f.row h.ls (hS mk (.inr h.co)), h.ed.fr f (fun k hk => hS k (.inl hk)) hx, (hx mk h.ls.lt).trans h.co, h.tx⟩
theorem BX.fr (h : BX w ρ mk M T past next vp vn) {S : Nat → Prop} (f : Fr S w w') (hS : ∀ k, ρ k = 0 ∨ MC (ρ k) → ¬ S k) (hx : Ext w ρ ρ') : BX w' ρ' mk M T past next vp vn :=
  ⟨h.by'.fr f (fun k hk => hS k (.inr (by unfold MC; omega))) hx, h.pt.fr f (fun k hk => hS k (hk.elim (fun e => .inr (by unfold MC; omega)) .inl)) hx, h.nt.fr f (fun k hk => hS k (hk.elim (fun e => .inr (by unfold MC; omega)) .inl)) hx, h.pl, h.nl⟩
theorem BX.fr0 (h : BX w ρ mk M T past next vp vn) (f : Fr S0 w w') : BX w' ρ mk M T past next vp vn := h.fr f (fun _ _ e => e) (Ext.refl _ _)
theorem BM.fr (h : BM w ρ mk M T past next) {S : Nat → Prop} (f : Fr S w w') (hS : ∀ k, ρ k = 0 ∨ MC (ρ k) → ¬ S k) (hx : Ext w ρ ρ') : BM w' ρ' mk M T past next := by
  obtain ⟨vp, vn, h⟩ := h; exact ⟨vp, vn, h.fr f hS hx⟩
theorem BM.fr0 (h : BM w ρ mk M T past next) (f : Fr S0 w w') : BM w' ρ mk M T past next := h.fr f (fun _ _ e => e) (Ext.refl _ _)
theorem fr_cell1 (hm : ρ mk = 8) (i : Nat) (x : Value) : Fr (Cq ρ 8) w (w.setCell ⟨mk, i, none⟩ x) := (Fr.refl _ w).setCell (p := ⟨mk, i, none⟩) (.inl hm) x
theorem BY.setP (h : BY w ρ mk M T vp vn) (x : Value) : BY (w.setCell ⟨mk, 1, none⟩ x) ρ mk M T x vn :=
  ⟨(h.ls.set 1 x).congr (fun i hi => by match i, hi with
    | 0, _ => rfl
    | 1, _ => rfl
    | 2, _ => rfl), h.ed.fr (fr_cell1 h.co 1 x) (fun k hk e => by simp only [Cq] at e; omega) (Ext.refl _ _), h.co, h.tx⟩
theorem BY.setN (h : BY w ρ mk M T vp vn) (x : Value) : BY (w.setCell ⟨mk, 2, none⟩ x) ρ mk M T vp x :=
  ⟨(h.ls.set 2 x).congr (fun i hi => by match i, hi with
    | 0, _ => rfl
    | 1, _ => rfl
    | 2, _ => rfl), h.ed.fr (fr_cell1 h.co 2 x) (fun k hk e => by simp only [Cq] at e; omega) (Ext.refl _ _), h.co, h.tx⟩
theorem LT.set8 (h : LT w ρ c v L) (hc : c ≠ 8) (hm : ρ mk = 8) (i : Nat) (x : Value) : LT (w.setCell ⟨mk, i, none⟩ x) ρ c v L := h.fr (fr_cell1 hm i x) (fun k hk e => by simp only [Cq] at e; omega) (Ext.refl _ _)
theorem LT.shape (h : LT w ρ c v L) {n : Nat} (hn : L.length = n) : ∃ ao cap, v = .slice ao n cap := by
  obtain ⟨ks, ⟨ao, b, off, cap, rfl, h1, hcol⟩, h2, h3⟩ := h
  exact ⟨ao, cap, by rw [h2, hn]⟩
theorem LT.shape1 (h : LT w ρ c v L) {n : Nat} (hn : L.length = n) (h0 : 0 < n) : ∃ b off cap, v = .slice (some ⟨b, off, none⟩) n cap ∧ n ≤ cap := by
  obtain ⟨b, off, cap, h1⟩ := h.open1 (by omega)
  exact ⟨b, off, cap, by rw [h1.e, hn], by have := h1.cn; omega⟩
theorem cell_one (w : World) (x : Value) (e : TypeId) : (w.alloc (.cells #[x] e)).cell? ⟨w.heap.size, 0, none⟩ = some x :=
  (Row.new w #[x] e 1 (fun _ => x) rfl (fun i hi => by match i, hi with
    | 0, _ => rfl)).cell 0 (by decide)
/-- The cells that a walk reads. -/
theorem BY.cells (h : BY w ρ mk M T vp vn) : w.cell? ⟨mk, 0, none⟩ = some (pt M.me) ∧ w.cell? ⟨mk, 1, none⟩ = some vp ∧ w.cell? ⟨mk, 2, none⟩ = some vn ∧ mk < w.heap.size ∧ w.frozen? ⟨mk, 1, none⟩ = false ∧ w.frozen? ⟨mk, 2, none⟩ = false :=
  ⟨h.ls.cell 0 (by decide), h.ls.cell 1 (by decide), h.ls.cell 2 (by decide), h.ls.lt, h.ls.frozen 1, h.ls.frozen 2⟩
/-- What an append onto the past leaves, ahead of its store. -/
theorem app_past {kw : Nat} {ks : List Value} {w1 : World} {ρ1 : Nat → Nat} {v1 : Value} {w0 : World} (h : BX w ρ mk M T past next vp vn) (h2 : ks.length = past.length) (h3 : ∀ (i : Nat) (S : Tx), past[i]? = some S → ∃ u, ks[i]? = some u ∧ Sn w ρ u S) (hs : Sn w ρ (sl kw 24 24) T') (f0 : Fr (fun k => MC (ρ k)) w0 w) (hw : w0.heap.size ≤ w.heap.size)
    (hx : Ext w ρ ρ1) (hl : LV w1 ρ1 3 v1 (ks ++ [sl kw 24 24])) (hf : Fr (Cq ρ 3) w w1) : LT w1 ρ1 3 v1 (past ++ [T']) ∧ BY w1 ρ1 mk M T vp vn ∧ LT w1 ρ1 4 vn next ∧ Fr (fun k => MC (ρ k)) w0 w1 ∧ Ext w0 ρ ρ1 :=
  ⟨LT.push h2 h3 hs hx hl hf (by decide), h.by'.fr hf (fun k hk e => by simp only [Cq] at e; omega) hx, h.nt.fr hf (fun k hk e => by simp only [Cq] at e; omega) hx, f0.trans (hf.mono (fun k hk => .inr (.inl hk))), fun k hk => hx k (by omega)⟩
theorem app_next {kw : Nat} {ks : List Value} {w1 : World} {ρ1 : Nat → Nat} {v1 : Value} {w0 : World} (h : BX w ρ mk M T past next vp vn) (h2 : ks.length = next.length) (h3 : ∀ (i : Nat) (S : Tx), next[i]? = some S → ∃ u, ks[i]? = some u ∧ Sn w ρ u S) (hs : Sn w ρ (sl kw 24 24) T') (f0 : Fr (fun k => MC (ρ k)) w0 w) (hw : w0.heap.size ≤ w.heap.size)
    (hx : Ext w ρ ρ1) (hl : LV w1 ρ1 4 v1 (ks ++ [sl kw 24 24])) (hf : Fr (Cq ρ 4) w w1) : LT w1 ρ1 4 v1 (next ++ [T']) ∧ BY w1 ρ1 mk M T vp vn ∧ LT w1 ρ1 3 vp past ∧ Fr (fun k => MC (ρ k)) w0 w1 ∧ Ext w0 ρ ρ1 :=
  ⟨LT.push h2 h3 hs hx hl hf (by decide), h.by'.fr hf (fun k hk e => by simp only [Cq] at e; omega) hx, h.pt.fr hf (fun k hk e => by simp only [Cq] at e; omega) hx, f0.trans (hf.mono (fun k hk => .inr (.inr (.inl hk)))), fun k hk => hx k (by omega)⟩
theorem fr8 {w0 : World} {ρ1 : Nat → Nat} (f : Fr (fun k => MC (ρ k)) w0 w) (hx : Ext w0 ρ ρ1) (hm : ρ1 mk = 8) (i : Nat) (x : Value) : Fr (fun k => MC (ρ k)) w0 (w.setCell ⟨mk, i, none⟩ x) :=
  Fr.col f hx ((fr_cell1 hm i x).mono (fun k hk => .inr (.inr (.inr hk))))

set_option maxHeartbeats 8000000 in
theorem done_few {kw : Nat} (w : World) (h : BX w ρ mk M T past next vp vn) (hs : Sn w ρ (sl kw 24 24) T') (h6 : past.length < 6) : Calls Tryz.prog 38 #[pt mk, sl kw 24 24] w (MdP w ρ (.returned (.tuple #[])) (fun w' ρ' => BM w' ρ' mk M T (past ++ [T']) [])) := by
  obtain ⟨ks, hLV, h2, h3⟩ := h.pt
  have hfa : Fr S0 w (w.alloc (.cells #[sl kw 24 24] 38)) := (Fr.refl S0 w).alloc _
  obtain ⟨c0, c1, c2, hl, z1, z2⟩ := h.by'.cells
  have hLV1 : Bx (LV (w.alloc (.cells #[sl kw 24 24] 38)) ρ 3 vp ks) := ⟨hLV.fr hfa (fun _ _ e => e) (Ext.refl _ _)⟩
  have hks : Bx (ks.length ≤ 100) := ⟨by have := h.pl; have := h.nl; omega⟩
  have hcell := Bx.mk (cell_one w (sl kw 24 24) 38)
  have hkey := Bx.mk (fun v1 w1 ρ1 => app_past (v1 := v1) (w1 := w1) (ρ1 := ρ1) (w0 := w) (h.fr0 hfa) h2 (fun i S hi => by obtain ⟨z, hz, hq⟩ := h3 i S hi; exact ⟨z, hz, hq.fr hfa (fun _ _ e => e) (Ext.refl _ _)⟩) (hs.fr hfa (fun _ _ e => e) (Ext.refl _ _)) hfa.up hfa.size)

  have hlen : Bx (past.length + 1 ≤ 6) := ⟨h6⟩
  obtain ⟨q, hq⟩ : ∃ q, (past ++ [T']).length = q := ⟨_, rfl⟩
  have hqd : decide ((6 : Int) < (q : Int)) = false := decide_eq_false (by simp at hq; omega)
  replace hq := Bx.mk hq
  clear hLV h2 h3 hfa h6 hs h
  go_enter Tryz.func38, Tryz.ntmps38
  go_wp2_with (first
    | (at_builtin; go_loud (refine wpList_append_lv rfl _ _ _ rfl hLV1.out rfl hks.out _ 1 (sl kw 24 24) rfl hcell.out rfl ?_); intro v1 w1 ρ1 hx1 hlv1 hfr1; obtain ⟨hlt1, hby1, -, hfm1, hext1⟩ := hkey.out v1 w1 ρ1 hx1 hlv1 hfr1; clear hkey hcell hLV1 hx1 hlv1 hfr1 c0 c1 c2 hl z1 z2; obtain ⟨ao1, cap1, rfl⟩ := hlt1.shape hq.out; obtain ⟨c0, c1, c2, hl, z1, z2⟩ := hby1.cells; replace hlt1 := Bx.mk hlt1; replace hby1 := Bx.mk hby1; replace hfm1 := Bx.mk hfm1; replace hext1 := Bx.mk hext1))
  go_end0
  refine ⟨rfl, ⟨ρ1, hext1.out, _, _, (hby1.out.setP _).setN _, (hlt1.out.set8 (by decide) hby1.out.co 1 _).set8 (by decide) hby1.out.co 2 _, lt_nil _ _ _, by simp; have := hlen.out; omega, by simp⟩, fr8 (fr8 hfm1.out hext1.out hby1.out.co 1 _) hext1.out hby1.out.co 2 _⟩
set_option maxHeartbeats 8000000 in
theorem done_many {kw : Nat} (w : World) (h : BX w ρ mk M T past next vp vn) (hs : Sn w ρ (sl kw 24 24) T') (h6 : past.length = 6) : Calls Tryz.prog 38 #[pt mk, sl kw 24 24] w (MdP w ρ (.returned (.tuple #[])) (fun w' ρ' => BM w' ρ' mk M T ((past ++ [T']).drop 1) [])) := by
  obtain ⟨ks, hLV, h2, h3⟩ := h.pt
  have hfa : Fr S0 w (w.alloc (.cells #[sl kw 24 24] 38)) := (Fr.refl S0 w).alloc _
  obtain ⟨c0, c1, c2, hl, z1, z2⟩ := h.by'.cells
  have hLV1 : Bx (LV (w.alloc (.cells #[sl kw 24 24] 38)) ρ 3 vp ks) := ⟨hLV.fr hfa (fun _ _ e => e) (Ext.refl _ _)⟩
  have hks : Bx (ks.length ≤ 100) := ⟨by have := h.pl; have := h.nl; omega⟩
  have hcell := Bx.mk (cell_one w (sl kw 24 24) 38)
  have hkey := Bx.mk (fun v1 w1 ρ1 => app_past (v1 := v1) (w1 := w1) (ρ1 := ρ1) (w0 := w) (h.fr0 hfa) h2 (fun i S hi => by obtain ⟨z, hz, hq⟩ := h3 i S hi; exact ⟨z, hz, hq.fr hfa (fun _ _ e => e) (Ext.refl _ _)⟩) (hs.fr hfa (fun _ _ e => e) (Ext.refl _ _)) hfa.up hfa.size)

  have hq : Bx ((past ++ [T']).length = 7) := ⟨by simp [h6]⟩
  clear hLV h2 h3 hfa h6 hs h
  go_enter Tryz.func38, Tryz.ntmps38
  go_wp2_with (first
    | (at_builtin; go_loud (refine wpList_append_lv rfl _ _ _ rfl hLV1.out rfl hks.out _ 1 (sl kw 24 24) rfl hcell.out rfl ?_); intro v1 w1 ρ1 hx1 hlv1 hfr1; obtain ⟨hlt1, hby1, -, hfm1, hext1⟩ := hkey.out v1 w1 ρ1 hx1 hlv1 hfr1; clear hkey hcell hLV1 hx1 hlv1 hfr1 c0 c1 c2 hl z1 z2; obtain ⟨b1, off1, cap1, rfl, hcap⟩ := hlt1.shape1 hq.out (by decide); obtain ⟨c0, c1, c2, hl, z1, z2⟩ := hby1.cells; have hcapI : (1 : Int) ≤ (cap1 : Int) := (by omega); have hcapI7 : (7 : Int) ≤ (cap1 : Int) := (by omega); replace hlt1 := Bx.mk hlt1; replace hby1 := Bx.mk hby1; replace hfm1 := Bx.mk hfm1; replace hext1 := Bx.mk hext1))
  go_end0
  refine ⟨rfl, ⟨ρ1, hext1.out, _, _, ((hby1.out.setP _).setP _).setN _, (((hlt1.out.drop1 (by rw [hq.out]; decide)).set8 (by decide) hby1.out.co 1 _).set8 (by decide) hby1.out.co 1 _).set8 (by decide) hby1.out.co 2 _, lt_nil _ _ _, by rw [List.length_drop, hq.out]; decide, by simp⟩, fr8 (fr8 (fr8 hfm1.out hext1.out hby1.out.co 1 _) hext1.out hby1.out.co 1 _) hext1.out hby1.out.co 2 _⟩
/-- The list of snapshots behind a command. -/
def pushL (past : List Tx) (T : Tx) : List Tx := if past.length < 6 then past ++ [T] else (past ++ [T]).drop 1
theorem done_any {kw : Nat} (w : World) (h : BX w ρ mk M T past next vp vn) (hs : Sn w ρ (sl kw 24 24) T') : Calls Tryz.prog 38 #[pt mk, sl kw 24 24] w (MdP w ρ (.returned (.tuple #[])) (fun w' ρ' => BM w' ρ' mk M T (pushL past T') [])) := by
  have h6 := h.pl
  rcases Nat.lt_or_ge past.length 6 with hl | hl
  · have := done_few w h hs hl
    unfold pushL; rw [if_pos hl]; exact this
  · have := done_many w h hs (by omega)
    unfold pushL; rw [if_neg (by omega)]; exact this
end
end Go.Proofs.Qxb6500326aGreat
