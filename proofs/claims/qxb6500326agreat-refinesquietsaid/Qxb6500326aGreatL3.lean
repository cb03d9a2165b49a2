import Derived.Test.Qxb6500326aGreatL2
namespace Go.Proofs.Qxb6500326aGreat
set_option maxRecDepth 100000
set_option linter.unusedVariables false
set_option linter.unusedSimpArgs false
open Go.RowKit Go.PlainAid

def opA (kd a b c : Int) (S1 T1 : ByteArray) : Array Value := #[I kd, I a, I b, I c, .string S1, .string T1]
def opC (kd a b c : Int) (S1 T1 : ByteArray) : Nat → Value
  | 0 => I kd
  | 1 => I a
  | 2 => I b
  | 3 => I c
  | 4 => .string S1
  | _ => .string T1
theorem op_new (w : World) (kd a b c : Int) (S1 T1 : ByteArray) {H : Nat} (e : w.heap.size = H) : Row (w.alloc (.cells (opA kd a b c S1 T1) 30)) H 6 (opC kd a b c S1 T1) := by
  subst e
  exact Row.new w _ 30 6 _ rfl (by intro i hi; rcases i with _ | _ | _ | _ | _ | _ | i <;> first | rfl | omega)
theorem Row.op6 {w : World} {kd a b c : Int} {S1 T1 : ByteArray} {g : Nat} (h : Row w g 6 (opC kd a b c S1 T1)) :
    w.cell? ⟨g, 0, none⟩ = some (I kd) ∧ w.cell? ⟨g, 1, none⟩ = some (I a) ∧ w.cell? ⟨g, 2, none⟩ = some (I b) ∧ w.cell? ⟨g, 3, none⟩ = some (I c) ∧ w.cell? ⟨g, 4, none⟩ = some (.string S1) ∧ w.cell? ⟨g, 5, none⟩ = some (.string T1) ∧ g < w.heap.size :=
  ⟨h.cell 0 (by omega), h.cell 1 (by omega), h.cell 2 (by omega), h.cell 3 (by omega), h.cell 4 (by omega), h.cell 5 (by omega), h.lt⟩
section
variable {w w' w1 : World} {ρ ρ' ρ1 : Nat → Nat} {D : Ad} {T T' : Tx} {past next past' next' : List Tx} {d : Dk} {va vp vn : Value}
theorem DX.cells {dk : Nat} (h : DX w ρ dk d past next va vp vn) : w.cell? ⟨dk, 0, none⟩ = some (.string d.text) ∧ w.cell? ⟨dk, 1, none⟩ = some (.string d.saved) ∧ w.cell? ⟨dk, 2, none⟩ = some va ∧ w.cell? ⟨dk, 3, none⟩ = some (.string d.last) ∧ w.cell? ⟨dk, 4, none⟩ = some vp ∧ w.cell? ⟨dk, 5, none⟩ = some vn ∧ dk < w.heap.size ∧ (∀ i, w.frozen? ⟨dk, i, none⟩ = false) :=
  ⟨h.ls.cell 0 (by omega), h.ls.cell 1 (by omega), h.ls.cell 2 (by omega), h.ls.cell 3 (by omega), h.ls.cell 4 (by omega), h.ls.cell 5 (by omega), h.ls.lt, h.ls.frozen⟩
theorem fr_dk {dk : Nat} (hm : ρ dk = 7) (i : Nat) (x : Value) : Fr (Cq ρ 7) w (w.setCell ⟨dk, i, none⟩ x) := (Fr.refl _ w).setCell (p := ⟨dk, i, none⟩) (.inl hm) x
theorem LT.dk {dk c : Nat} {v : Value} {L : List Tx} (h : LT w ρ c v L) (hc : c ≠ 7) (hm : ρ dk = 7) (i : Nat) (x : Value) : LT (w.setCell ⟨dk, i, none⟩ x) ρ c v L := h.fr (fr_dk hm i x) (fun k hk e => by simp only [Cq] at e; omega) (Ext.refl _ _)
theorem gh_dk {dk : Nat} (h : (va = .slice none 0 0 ∧ d.at_ = fun _ => es) ∨ Sn w ρ va d.at_) (hm : ρ dk = 7) (i : Nat) (x : Value) : (va = .slice none 0 0 ∧ d.at_ = fun _ => es) ∨ Sn (w.setCell ⟨dk, i, none⟩ x) ρ va d.at_ := h.imp id (fun g => g.fr (fr_dk hm i x) (fun k hk e => by simp only [Cq] at e; omega) (Ext.refl _ _))
theorem dk6 {f g : Nat → Value} (h : f 0 = g 0 ∧ f 1 = g 1 ∧ f 2 = g 2 ∧ f 3 = g 3 ∧ f 4 = g 4 ∧ f 5 = g 5) : ∀ i, i < 6 → f i = g i := by
  intro i hi
  obtain ⟨a0, a1, a2, a3, a4, a5⟩ := h
  have : i = 0 ∨ i = 1 ∨ i = 2 ∨ i = 3 ∨ i = 4 ∨ i = 5 := by omega
  rcases this with e | e | e | e | e | e <;> subst e <;> assumption
theorem DX.setLast {dk : Nat} (h : DX w ρ dk d past next va vp vn) (s : ByteArray) : DX (w.setCell ⟨dk, 3, none⟩ (.string s)) ρ dk { d with last := s } past next va vp vn :=
  ⟨(h.ls.set 3 _).congr (dk6 ⟨rfl, rfl, rfl, rfl, rfl, rfl⟩), h.co, gh_dk (d := d) h.gh h.co 3 _, h.pt.dk (by decide) h.co 3 _, h.nt.dk (by decide) h.co 3 _, h.sv, h.tx, h.rg⟩
theorem DX.setText {dk : Nat} (h : DX w ρ dk d past next va vp vn) (s : ByteArray) (hs : s.size ≤ 1057) : DX (w.setCell ⟨dk, 0, none⟩ (.string s)) ρ dk { d with text := s } past next va vp vn :=
  ⟨(h.ls.set 0 _).congr (dk6 ⟨rfl, rfl, rfl, rfl, rfl, rfl⟩), h.co, gh_dk (d := d) h.gh h.co 0 _, h.pt.dk (by decide) h.co 0 _, h.nt.dk (by decide) h.co 0 _, h.sv, h.tx, hs⟩
theorem DX.setP {dk : Nat} (h : DX w ρ dk d past next va vp vn) {v : Value} {L : List Tx} (hv : LT w ρ 5 v L) : DX (w.setCell ⟨dk, 4, none⟩ v) ρ dk d L next va v vn :=
  ⟨(h.ls.set 4 _).congr (dk6 ⟨rfl, rfl, rfl, rfl, rfl, rfl⟩), h.co, gh_dk (d := d) h.gh h.co 4 _, hv.dk (by decide) h.co 4 _, h.nt.dk (by decide) h.co 4 _, h.sv, h.tx, h.rg⟩
theorem DX.setN {dk : Nat} (h : DX w ρ dk d past next va vp vn) {v : Value} {L : List Tx} (hv : LT w ρ 6 v L) : DX (w.setCell ⟨dk, 5, none⟩ v) ρ dk d past L va vp v :=
  ⟨(h.ls.set 5 _).congr (dk6 ⟨rfl, rfl, rfl, rfl, rfl, rfl⟩), h.co, gh_dk (d := d) h.gh h.co 5 _, h.pt.dk (by decide) h.co 5 _, hv.dk (by decide) h.co 5 _, h.sv, h.tx, h.rg⟩
/-- The desk but for the list that a Push moves. -/
theorem DX.moveP {dk : Nat} (h : DX w ρ dk d past next va vp vn) (f : Fr (Cq ρ 5) w w') (hx : Ext w ρ ρ') {v : Value} {L : List Tx} (hv : LT w' ρ' 5 v L) : DX (w'.setCell ⟨dk, 4, none⟩ v) ρ' dk d L next va v vn := by
  have hco := (hx dk h.ls.lt).trans h.co
  exact ⟨((f.row h.ls (fun e => by simp only [Cq] at e; have := h.co; omega)).set 4 _).congr (dk6 ⟨rfl, rfl, rfl, rfl, rfl, rfl⟩), hco, gh_dk (d := d) (h.gh.imp id (fun g => g.fr f (fun k hk e => by simp only [Cq] at e; omega) hx)) hco 4 _, hv.dk (by decide) hco 4 _, (h.nt.fr f (fun k hk e => by simp only [Cq] at e; omega) hx).dk (by decide) hco 4 _, h.sv, h.tx, h.rg⟩
theorem DX.moveN {dk : Nat} (h : DX w ρ dk d past next va vp vn) (f : Fr (Cq ρ 6) w w') (hx : Ext w ρ ρ') {v : Value} {L : List Tx} (hv : LT w' ρ' 6 v L) : DX (w'.setCell ⟨dk, 5, none⟩ v) ρ' dk d past L va vp v := by
  have hco := (hx dk h.ls.lt).trans h.co
  exact ⟨((f.row h.ls (fun e => by simp only [Cq] at e; have := h.co; omega)).set 5 _).congr (dk6 ⟨rfl, rfl, rfl, rfl, rfl, rfl⟩), hco, gh_dk (d := d) (h.gh.imp id (fun g => g.fr f (fun k hk e => by simp only [Cq] at e; omega) hx)) hco 5 _, (h.pt.fr f (fun k hk e => by simp only [Cq] at e; omega) hx).dk (by decide) hco 5 _, hv.dk (by decide) hco 5 _, h.sv, h.tx, h.rg⟩
theorem BKH.dk {dk : Nat} (h : BKH w ρ D T past next) (hm : ρ dk = 7) (i : Nat) (x : Value) : BKH (w.setCell ⟨dk, i, none⟩ x) ρ D T past next := h.fr (fr_dk hm i x) (fun k hk e => by simp only [Cq] at e; omega) (Ext.refl _ _)
theorem BM.dk {dk mk : Nat} {M : YA} (h : BM w ρ mk M T past next) (hm : ρ dk = 7) (i : Nat) (x : Value) : BM (w.setCell ⟨dk, i, none⟩ x) ρ mk M T past next := h.fr (fr_dk hm i x) (fun k hk e => by simp only [Cq] at e; unfold MC at hk; omega) (Ext.refl _ _)
theorem fr_dkS {w0 : World} {dk : Nat} (f : Fr (fun k => ρ k ≠ 0) w0 w) (hx : Ext w0 ρ ρ') (hm : ρ' dk = 7) (i : Nat) (x : Value) : Fr (fun k => ρ k ≠ 0) w0 (w.setCell ⟨dk, i, none⟩ x) :=
  Fr.col (P := fun n => n ≠ 0) f hx ((fr_dk hm i x).mono (fun k hk => by simp only [Cq] at hk; omega))
/-- What a command leaves on the real side. -/
def RealP (w : World) (ρ : Nat → Nat) (D : Ad) (T : Tx) (past next : List Tx) (n : Int) (T' : Tx) (w' : World) : Prop := (n ≠ 0 ∧ BKH w' ρ D T past next) ∨ (n = 0 ∧ BKH w' ρ D T' (pushL past T) [])
theorem hist_noted {H H' : Nat → Tx} {u r u' : Nat} (hh : Hist H u r past next) (hc : H u = T) (hn : Noted H T' u u' H') : Hist H' u' 0 (pushL past T) [] := by
  rcases hn with ⟨h6, rfl, rfl⟩ | ⟨h6, rfl, rfl⟩
  · rw [pushL_few (by rw [hh.pl]; exact h6), ← hc]
    exact hh.done T'
  · subst h6
    have := hh.full (u := 5) T'
    rw [pushL_full (by rw [hh.pl]), ← hc]
    rw [List.drop_append_of_le_length (by rw [hh.pl]; omega)] at this
    exact this
theorem bkh_cmd {n : Int} {f : Nat} {args : Array Value} (h : BKH w ρ D T past next) (hb : ∀ H u r, BK w D.R D.A T H u r → Calls Tryz.prog f args w (CmdP w D.R D.A T H u r n T')) : Calls Tryz.prog f args w fun e w' => e = .returned (I n) ∧ RealP w ρ D T past next n T' w' ∧ Fr (fun k => ρ k = 1) w w' := by
  obtain ⟨⟨H, u, r, h1, h2⟩, h3⟩ := h
  refine (hb H u r h1).mono ?_
  rintro e w' ⟨rfl, hf, hr⟩
  refine ⟨rfl, ?_, hf.mono h3⟩
  rcases hr with ⟨hn, hb'⟩ | ⟨hn, u', H', hb', hnd⟩
  · exact .inl ⟨hn, ⟨H, u, r, hb', h2⟩, h3⟩
  · exact .inr ⟨hn, ⟨H', u', 0, hb', hist_noted h2 h1.cur hnd⟩, h3⟩
/-- What Command leaves. -/
def CmdL (w : World) (ρ : Nat → Nat) (D : Ad) (T : Tx) (past next : List Tx) (d : Dk) (n : Int) (T' : Tx) : Ending → World → Prop :=
  St w ρ (.returned (.tuple #[.bool true, I n])) (fun w' ρ' => (n ≠ 0 ∧ WS w' ρ' D T past next d) ∨ (n = 0 ∧ WS w' ρ' D T' (pushL past T) [] d))

set_option maxHeartbeats 16000000 in
theorem command_set {kw : Nat} {n : Int} (a b c : Int) (S1 T1 s : ByteArray) (w : World) (h : WS w ρ D T past next d) (hs : Sn w ρ (sl kw 24 24) T)
    (hR : ∀ w1 H u r, BK w1 D.R D.A T H u r → Calls Tryz.prog 90 #[pt D.R.bk, I a, .string s] w1 (CmdP w1 D.R D.A T H u r n T')) (hM : ∀ w1 ρ1, BM w1 ρ1 D.mb D.M T past next → Calls Tryz.prog 13 #[pt D.mb, I a, .string s] w1 (CmdM w1 ρ1 D.mb D.M T past next n T')) :
    Calls Tryz.prog 59 #[pt D.R.bk, pt D.mb, pt D.dk, .agg (opA 2 a b c S1 T1), .string s, sl kw 24 24] w (CmdL w ρ D T past next { d with last := s } n T') := by
  obtain ⟨va, vp, vn, hd⟩ := h.ds
  have hop := op_new w 2 a b c S1 T1 rfl
  have hfa : Fr S0 w (w.alloc (.cells (opA 2 a b c S1 T1) 30)) := (Fr.refl S0 w).alloc _
  have hx0 : Bx (Ext w ρ (ext ρ w.heap.size w.heap.size 0)) := ⟨ext_Ext _ _ _ _⟩
  have hg0 : Bx (ext ρ w.heap.size w.heap.size 0 w.heap.size = 0) := ⟨ext_new (Nat.le_refl _)⟩
  have hd0 := hd.fr hfa (fun _ _ e => e) hx0.out
  have hb0 := h.bk.fr hfa (fun _ _ e => e) hx0.out
  have hm0 := h.bm.fr hfa (fun _ _ e => e) hx0.out
  have hs0 := hs.fr hfa (fun _ _ e => e) hx0.out
  have hp6 : Bx (past.length ≤ 6) := ⟨by obtain ⟨vp', vn', hb⟩ := h.bm; exact hb.pl⟩
  have hf0 : Bx (Fr (fun k => ρ k ≠ 0) w (w.alloc (.cells (opA 2 a b c S1 T1) 30))) := ⟨hfa.up⟩
  clear h hd hs hfa
  generalize hρ0 : ext ρ w.heap.size w.heap.size 0 = ρ0 at *
  clear hρ0
  obtain ⟨q0, q1, q2, q3, q4, q5, hgl⟩ := hop.op6
  obtain ⟨c0, c1, c2, c3, c4, c5, hl, hz⟩ := hd0.cells
  replace hop := Bx.mk hop
  have z3 := hz 3
  clear hz
  have hco0 := hd0.co
  replace hd0 := hd0.setLast s
  replace hb0 := hb0.dk hco0 3 (.string s)
  replace hm0 := hm0.dk hco0 3 (.string s)
  replace hs0 : Sn ((w.alloc (.cells (opA 2 a b c S1 T1) 30)).setCell ⟨D.dk, 3, none⟩ (.string s)) _ (sl kw 24 24) T := hs0.fr (fr_dk hco0 3 (.string s)) (fun k hk e => by simp only [Cq] at e; omega) (Ext.refl _ _)
  replace hf0 := Bx.mk (fr_dkS hf0.out hx0.out hco0 3 (.string s))
  replace hop := Bx.mk ((fr_dk hco0 3 (.string s)).row hop.out (fun e => by simp only [Cq] at e; have := hg0.out; omega))
  have hne : ¬ D.dk = w.heap.size := fun e => by rw [e] at hco0; have := hg0.out; omega
  have hne2 : ¬ w.heap.size = D.dk := fun e => hne e.symm
  clear hco0
  replace hR := Bx.mk (bkh_cmd hb0 (hR _))
  replace hM := Bx.mk hM
  have hP : Bx (∀ w1 ρ1 v, LT w1 ρ1 5 v past → Sn w1 ρ1 (sl kw 24 24) T → Calls Tryz.prog 93 #[v, sl kw 24 24] w1 (PushP w1 ρ1 5 (pushL past T))) := ⟨fun w1 ρ1 v h1 h2 => push_any w1 h1 h2 hp6.out (by decide)⟩
  clear hb0
  replace hd0 := Bx.mk hd0
  replace hm0 := Bx.mk hm0
  replace hs0 := Bx.mk hs0
  cases hn : (n == 0)
  all_goals go_enter Tryz.func59, Tryz.ntmps59
  all_goals go_wp2_with (first
    | (go_at_call 90; refine hR.out.mono ?_; clear hR; rintro e w1 ⟨rfl, hr, hf1⟩; clear q0 q1 q2 q3 q4 q5 hgl c0 c1 c2 c3 c4 c5 hl; replace hop := Bx.mk (hf1.row hop.out (fun e => by have := hg0.out; omega)); obtain ⟨q0, q1, q2, q3, q4, q5, hgl⟩ := hop.out.op6; replace hd0 := Bx.mk (hd0.out.fr hf1 (fun k hk e => by omega) (Ext.refl _ _)); replace hm0 := Bx.mk (hm0.out.fr hf1 (fun k hk e => by unfold MC at hk; omega) (Ext.refl _ _)); replace hs0 := Bx.mk (hs0.out.fr hf1 (fun k hk e => by omega) (Ext.refl _ _)); replace hM := Bx.mk (hM.out w1 _ hm0.out); replace hf0 := Bx.mk (Fr.col (P := fun n => n ≠ 0) hf0.out hx0.out (fr1 hf1)); replace hr := Bx.mk hr; have hsz1 := Bx.mk hf0.out.size; clear hf1)
    | (go_at_call 13; refine hM.out.mono ?_; clear hM; rintro e w2 ⟨rfl, ⟨ρ2, hx2, hm2⟩, hf2⟩; clear q0 q1 q2 q3 q4 q5 hgl; replace hd0 := Bx.mk (hd0.out.fr hf2 (fun k hk e => by unfold MC at e; omega) hx2); replace hs0 := Bx.mk (hs0.out.fr hf2 (fun k hk e => by unfold MC at e; omega) hx2); have hbb := Bx.mk (fun (T2 : Tx) p2 n2 (g : BKH w1 ρ0 D T2 p2 n2) => g.fr hf2 (fun k hk e => by unfold MC at e; omega) hx2); replace hf0 := Bx.mk (Fr.col (P := fun n => n ≠ 0) hf0.out hx0.out (hf2.mono (fun k hk => by unfold MC at hk; omega))); replace hx0 := Bx.mk (hx0.out.trans hx2 hsz1.out); replace hm2 := Bx.mk hm2; obtain ⟨c0, c1, c2, c3, c4, c5, hl, hz⟩ := hd0.out.cells; have z4 := hz 4; have z5 := hz 5; clear hz hx2 hf2; replace hP := Bx.mk (hP.out _ _ _ hd0.out.pt hs0.out))
    | (go_at_call 93; refine hP.out.mono ?_; clear hP; rintro e w3 ⟨v3, rfl, ⟨ρ3, hx3, hl3⟩, hf3⟩; obtain ⟨ao3, cap3, rfl⟩ := hl3.shape rfl; have hd3 := hd0.out.moveP hf3 hx3 hl3; clear c0 c1 c2 c3 c4 c5 hl z4 z5; have hd3r := Bx.mk (hf3.row hd0.out.ls (fun e => by simp only [Cq] at e; have := hd0.out.co; omega)); have c4 := hd3r.out.cell 4 (by omega); have c5 := hd3r.out.cell 5 (by omega); have hl := hd3r.out.lt; have z4 := hd3r.out.frozen 4; have z5 := hd3r.out.frozen 5; have hco := Bx.mk hd3.co; replace hd3 := Bx.mk (hd3.setN (lt_nil _ ρ3 6)); replace hbb := Bx.mk (fun (T2 : Tx) p2 n2 (g : BKH w1 ρ0 D T2 p2 n2) => (((hbb.out T2 p2 n2 g).fr hf3 (fun k hk e => by simp only [Cq] at e; omega) hx3).dk hco.out 4 (.slice ao3 (pushL past T).length cap3)).dk hco.out 5 (.slice none 0 0)); have hmm := Bx.mk (fun (T2 : Tx) p2 n2 (g : BM w2 ρ2 D.mb D.M T2 p2 n2) => ((g.fr hf3 (fun k hk e => by simp only [Cq] at e; unfold MC at hk; omega) hx3).dk hco.out 4 (.slice ao3 (pushL past T).length cap3)).dk hco.out 5 (.slice none 0 0)); have hx4 : Ext w ρ ρ3 := hx0.out.trans hx3 hf0.out.size; replace hf0 := Bx.mk (fr_dkS (fr_dkS (Fr.col (P := fun n => n ≠ 0) hf0.out hx0.out (hf3.mono (fun k hk => by simp only [Cq] at hk; omega))) hx4 hco.out 4 (.slice ao3 (pushL past T).length cap3)) hx4 hco.out 5 (.slice none 0 0)); replace hx4 := Bx.mk hx4; clear hx3 hl3 hf3 hd3r))
  all_goals go_ret2
  · have hn0 : n ≠ 0 := by simpa using hn
    rcases hr.out with ⟨_, hbr⟩ | ⟨e, _⟩
    · rcases hm2.out with ⟨_, hbm⟩ | ⟨e, _⟩
      · exact ⟨by simp, ⟨ρ2, hx0.out, .inl ⟨hn0, hbb.out _ _ _ hbr, hbm, _, _, _, hd0.out⟩⟩, hf0.out⟩
      · exact absurd e hn0
    · exact absurd e hn0
  · have hn0 : n = 0 := by simpa using hn
    rcases hr.out with ⟨e, _⟩ | ⟨_, hbr⟩
    · exact absurd hn0 e
    · rcases hm2.out with ⟨e, _⟩ | ⟨_, hbm⟩
      · exact absurd hn0 e
      · exact ⟨by simp, ⟨ρ3, hx4.out, .inr ⟨hn0, hbb.out _ _ _ hbr, hmm.out _ _ _ hbm, _, _, _, hd3.out⟩⟩, hf0.out⟩

set_option maxHeartbeats 16000000 in
theorem command_edit {kw : Nat} {n : Int} (a b c : Int) (S1 T1 s : ByteArray) (w : World) (h : WS w ρ D T past next d) (hs : Sn w ρ (sl kw 24 24) T)
    (hR : ∀ w1 H u r, BK w1 D.R D.A T H u r → Calls Tryz.prog 91 #[pt D.R.bk, I a, I b] w1 (CmdP w1 D.R D.A T H u r n T')) (hM : ∀ w1 ρ1, BM w1 ρ1 D.mb D.M T past next → Calls Tryz.prog 14 #[pt D.mb, I a, I b] w1 (CmdM w1 ρ1 D.mb D.M T past next n T')) :
    Calls Tryz.prog 59 #[pt D.R.bk, pt D.mb, pt D.dk, .agg (opA 3 a b c S1 T1), .string s, sl kw 24 24] w (CmdL w ρ D T past next d n T') := by
  obtain ⟨va, vp, vn, hd⟩ := h.ds
  have hop := op_new w 3 a b c S1 T1 rfl
  have hfa : Fr S0 w (w.alloc (.cells (opA 3 a b c S1 T1) 30)) := (Fr.refl S0 w).alloc _
  have hx0 : Bx (Ext w ρ (ext ρ w.heap.size w.heap.size 0)) := ⟨ext_Ext _ _ _ _⟩
  have hg0 : Bx (ext ρ w.heap.size w.heap.size 0 w.heap.size = 0) := ⟨ext_new (Nat.le_refl _)⟩
  have hd0 := hd.fr hfa (fun _ _ e => e) hx0.out
  have hb0 := h.bk.fr hfa (fun _ _ e => e) hx0.out
  have hm0 := h.bm.fr hfa (fun _ _ e => e) hx0.out
  have hs0 := hs.fr hfa (fun _ _ e => e) hx0.out
  have hp6 : Bx (past.length ≤ 6) := ⟨by obtain ⟨vp', vn', hb⟩ := h.bm; exact hb.pl⟩
  have hf0 : Bx (Fr (fun k => ρ k ≠ 0) w (w.alloc (.cells (opA 3 a b c S1 T1) 30))) := ⟨hfa.up⟩
  clear h hd hs hfa
  generalize hρ0 : ext ρ w.heap.size w.heap.size 0 = ρ0 at *
  clear hρ0
  obtain ⟨q0, q1, q2, q3, q4, q5, hgl⟩ := hop.op6
  obtain ⟨c0, c1, c2, c3, c4, c5, hl, hz⟩ := hd0.cells
  replace hop := Bx.mk hop
  have z3 := hz 3
  clear hz
  skip
  replace hR := Bx.mk (bkh_cmd hb0 (hR _))
  replace hM := Bx.mk hM
  have hP : Bx (∀ w1 ρ1 v, LT w1 ρ1 5 v past → Sn w1 ρ1 (sl kw 24 24) T → Calls Tryz.prog 93 #[v, sl kw 24 24] w1 (PushP w1 ρ1 5 (pushL past T))) := ⟨fun w1 ρ1 v h1 h2 => push_any w1 h1 h2 hp6.out (by decide)⟩
  clear hb0
  replace hd0 := Bx.mk hd0
  replace hm0 := Bx.mk hm0
  replace hs0 := Bx.mk hs0
  cases hn : (n == 0)
  all_goals go_enter Tryz.func59, Tryz.ntmps59
  all_goals go_wp2_with (first
    | (go_at_call 91; refine hR.out.mono ?_; clear hR; rintro e w1 ⟨rfl, hr, hf1⟩; clear q0 q1 q2 q3 q4 q5 hgl c0 c1 c2 c3 c4 c5 hl; replace hop := Bx.mk (hf1.row hop.out (fun e => by have := hg0.out; omega)); obtain ⟨q0, q1, q2, q3, q4, q5, hgl⟩ := hop.out.op6; replace hd0 := Bx.mk (hd0.out.fr hf1 (fun k hk e => by omega) (Ext.refl _ _)); replace hm0 := Bx.mk (hm0.out.fr hf1 (fun k hk e => by unfold MC at hk; omega) (Ext.refl _ _)); replace hs0 := Bx.mk (hs0.out.fr hf1 (fun k hk e => by omega) (Ext.refl _ _)); replace hM := Bx.mk (hM.out w1 _ hm0.out); replace hf0 := Bx.mk (Fr.col (P := fun n => n ≠ 0) hf0.out hx0.out (fr1 hf1)); replace hr := Bx.mk hr; have hsz1 := Bx.mk hf0.out.size; clear hf1)
    | (go_at_call 14; refine hM.out.mono ?_; clear hM; rintro e w2 ⟨rfl, ⟨ρ2, hx2, hm2⟩, hf2⟩; clear q0 q1 q2 q3 q4 q5 hgl; replace hd0 := Bx.mk (hd0.out.fr hf2 (fun k hk e => by unfold MC at e; omega) hx2); replace hs0 := Bx.mk (hs0.out.fr hf2 (fun k hk e => by unfold MC at e; omega) hx2); have hbb := Bx.mk (fun (T2 : Tx) p2 n2 (g : BKH w1 ρ0 D T2 p2 n2) => g.fr hf2 (fun k hk e => by unfold MC at e; omega) hx2); replace hf0 := Bx.mk (Fr.col (P := fun n => n ≠ 0) hf0.out hx0.out (hf2.mono (fun k hk => by unfold MC at hk; omega))); replace hx0 := Bx.mk (hx0.out.trans hx2 hsz1.out); replace hm2 := Bx.mk hm2; obtain ⟨c0, c1, c2, c3, c4, c5, hl, hz⟩ := hd0.out.cells; have z4 := hz 4; have z5 := hz 5; clear hz hx2 hf2; replace hP := Bx.mk (hP.out _ _ _ hd0.out.pt hs0.out))
    | (go_at_call 93; refine hP.out.mono ?_; clear hP; rintro e w3 ⟨v3, rfl, ⟨ρ3, hx3, hl3⟩, hf3⟩; obtain ⟨ao3, cap3, rfl⟩ := hl3.shape rfl; have hd3 := hd0.out.moveP hf3 hx3 hl3; clear c0 c1 c2 c3 c4 c5 hl z4 z5; have hd3r := Bx.mk (hf3.row hd0.out.ls (fun e => by simp only [Cq] at e; have := hd0.out.co; omega)); have c4 := hd3r.out.cell 4 (by omega); have c5 := hd3r.out.cell 5 (by omega); have hl := hd3r.out.lt; have z4 := hd3r.out.frozen 4; have z5 := hd3r.out.frozen 5; have hco := Bx.mk hd3.co; replace hd3 := Bx.mk (hd3.setN (lt_nil _ ρ3 6)); replace hbb := Bx.mk (fun (T2 : Tx) p2 n2 (g : BKH w1 ρ0 D T2 p2 n2) => (((hbb.out T2 p2 n2 g).fr hf3 (fun k hk e => by simp only [Cq] at e; omega) hx3).dk hco.out 4 (.slice ao3 (pushL past T).length cap3)).dk hco.out 5 (.slice none 0 0)); have hmm := Bx.mk (fun (T2 : Tx) p2 n2 (g : BM w2 ρ2 D.mb D.M T2 p2 n2) => ((g.fr hf3 (fun k hk e => by simp only [Cq] at e; unfold MC at hk; omega) hx3).dk hco.out 4 (.slice ao3 (pushL past T).length cap3)).dk hco.out 5 (.slice none 0 0)); have hx4 : Ext w ρ ρ3 := hx0.out.trans hx3 hf0.out.size; replace hf0 := Bx.mk (fr_dkS (fr_dkS (Fr.col (P := fun n => n ≠ 0) hf0.out hx0.out (hf3.mono (fun k hk => by simp only [Cq] at hk; omega))) hx4 hco.out 4 (.slice ao3 (pushL past T).length cap3)) hx4 hco.out 5 (.slice none 0 0)); replace hx4 := Bx.mk hx4; clear hx3 hl3 hf3 hd3r))
  all_goals go_ret2
  · have hn0 : n ≠ 0 := by simpa using hn
    rcases hr.out with ⟨_, hbr⟩ | ⟨e, _⟩
    · rcases hm2.out with ⟨_, hbm⟩ | ⟨e, _⟩
      · exact ⟨by simp, ⟨ρ2, hx0.out, .inl ⟨hn0, hbb.out _ _ _ hbr, hbm, _, _, _, hd0.out⟩⟩, hf0.out⟩
      · exact absurd e hn0
    · exact absurd e hn0
  · have hn0 : n = 0 := by simpa using hn
    rcases hr.out with ⟨e, _⟩ | ⟨_, hbr⟩
    · exact absurd hn0 e
    · rcases hm2.out with ⟨e, _⟩ | ⟨_, hbm⟩
      · exact absurd hn0 e
      · exact ⟨by simp, ⟨ρ3, hx4.out, .inr ⟨hn0, hbb.out _ _ _ hbr, hmm.out _ _ _ hbm, _, _, _, hd3.out⟩⟩, hf0.out⟩

set_option maxHeartbeats 16000000 in
theorem command_copy {kw : Nat} {n : Int} (a b c : Int) (S1 T1 s : ByteArray) (w : World) (h : WS w ρ D T past next d) (hs : Sn w ρ (sl kw 24 24) T)
    (hR : ∀ w1 H u r, BK w1 D.R D.A T H u r → Calls Tryz.prog 92 #[pt D.R.bk, I a, I b] w1 (CmdP w1 D.R D.A T H u r n T')) (hM : ∀ w1 ρ1, BM w1 ρ1 D.mb D.M T past next → Calls Tryz.prog 15 #[pt D.mb, I a, I b] w1 (CmdM w1 ρ1 D.mb D.M T past next n T')) :
    Calls Tryz.prog 59 #[pt D.R.bk, pt D.mb, pt D.dk, .agg (opA 4 a b c S1 T1), .string s, sl kw 24 24] w (CmdL w ρ D T past next d n T') := by
  obtain ⟨va, vp, vn, hd⟩ := h.ds
  have hop := op_new w 4 a b c S1 T1 rfl
  have hfa : Fr S0 w (w.alloc (.cells (opA 4 a b c S1 T1) 30)) := (Fr.refl S0 w).alloc _
  have hx0 : Bx (Ext w ρ (ext ρ w.heap.size w.heap.size 0)) := ⟨ext_Ext _ _ _ _⟩
  have hg0 : Bx (ext ρ w.heap.size w.heap.size 0 w.heap.size = 0) := ⟨ext_new (Nat.le_refl _)⟩
  have hd0 := hd.fr hfa (fun _ _ e => e) hx0.out
  have hb0 := h.bk.fr hfa (fun _ _ e => e) hx0.out
  have hm0 := h.bm.fr hfa (fun _ _ e => e) hx0.out
  have hs0 := hs.fr hfa (fun _ _ e => e) hx0.out
  have hp6 : Bx (past.length ≤ 6) := ⟨by obtain ⟨vp', vn', hb⟩ := h.bm; exact hb.pl⟩
  have hf0 : Bx (Fr (fun k => ρ k ≠ 0) w (w.alloc (.cells (opA 4 a b c S1 T1) 30))) := ⟨hfa.up⟩
  clear h hd hs hfa
  generalize hρ0 : ext ρ w.heap.size w.heap.size 0 = ρ0 at *
  clear hρ0
  obtain ⟨q0, q1, q2, q3, q4, q5, hgl⟩ := hop.op6
  obtain ⟨c0, c1, c2, c3, c4, c5, hl, hz⟩ := hd0.cells
  replace hop := Bx.mk hop
  have z3 := hz 3
  clear hz
  skip
  replace hR := Bx.mk (bkh_cmd hb0 (hR _))
  replace hM := Bx.mk hM
  have hP : Bx (∀ w1 ρ1 v, LT w1 ρ1 5 v past → Sn w1 ρ1 (sl kw 24 24) T → Calls Tryz.prog 93 #[v, sl kw 24 24] w1 (PushP w1 ρ1 5 (pushL past T))) := ⟨fun w1 ρ1 v h1 h2 => push_any w1 h1 h2 hp6.out (by decide)⟩
  clear hb0
  replace hd0 := Bx.mk hd0
  replace hm0 := Bx.mk hm0
  replace hs0 := Bx.mk hs0
  cases hn : (n == 0)
  all_goals go_enter Tryz.func59, Tryz.ntmps59
  all_goals go_wp2_with (first
    | (go_at_call 92; refine hR.out.mono ?_; clear hR; rintro e w1 ⟨rfl, hr, hf1⟩; clear q0 q1 q2 q3 q4 q5 hgl c0 c1 c2 c3 c4 c5 hl; replace hop := Bx.mk (hf1.row hop.out (fun e => by have := hg0.out; omega)); obtain ⟨q0, q1, q2, q3, q4, q5, hgl⟩ := hop.out.op6; replace hd0 := Bx.mk (hd0.out.fr hf1 (fun k hk e => by omega) (Ext.refl _ _)); replace hm0 := Bx.mk (hm0.out.fr hf1 (fun k hk e => by unfold MC at hk; omega) (Ext.refl _ _)); replace hs0 := Bx.mk (hs0.out.fr hf1 (fun k hk e => by omega) (Ext.refl _ _)); replace hM := Bx.mk (hM.out w1 _ hm0.out); replace hf0 := Bx.mk (Fr.col (P := fun n => n ≠ 0) hf0.out hx0.out (fr1 hf1)); replace hr := Bx.mk hr; have hsz1 := Bx.mk hf0.out.size; clear hf1)
    | (go_at_call 15; refine hM.out.mono ?_; clear hM; rintro e w2 ⟨rfl, ⟨ρ2, hx2, hm2⟩, hf2⟩; clear q0 q1 q2 q3 q4 q5 hgl; replace hd0 := Bx.mk (hd0.out.fr hf2 (fun k hk e => by unfold MC at e; omega) hx2); replace hs0 := Bx.mk (hs0.out.fr hf2 (fun k hk e => by unfold MC at e; omega) hx2); have hbb := Bx.mk (fun (T2 : Tx) p2 n2 (g : BKH w1 ρ0 D T2 p2 n2) => g.fr hf2 (fun k hk e => by unfold MC at e; omega) hx2); replace hf0 := Bx.mk (Fr.col (P := fun n => n ≠ 0) hf0.out hx0.out (hf2.mono (fun k hk => by unfold MC at hk; omega))); replace hx0 := Bx.mk (hx0.out.trans hx2 hsz1.out); replace hm2 := Bx.mk hm2; obtain ⟨c0, c1, c2, c3, c4, c5, hl, hz⟩ := hd0.out.cells; have z4 := hz 4; have z5 := hz 5; clear hz hx2 hf2; replace hP := Bx.mk (hP.out _ _ _ hd0.out.pt hs0.out))
    | (go_at_call 93; refine hP.out.mono ?_; clear hP; rintro e w3 ⟨v3, rfl, ⟨ρ3, hx3, hl3⟩, hf3⟩; obtain ⟨ao3, cap3, rfl⟩ := hl3.shape rfl; have hd3 := hd0.out.moveP hf3 hx3 hl3; clear c0 c1 c2 c3 c4 c5 hl z4 z5; have hd3r := Bx.mk (hf3.row hd0.out.ls (fun e => by simp only [Cq] at e; have := hd0.out.co; omega)); have c4 := hd3r.out.cell 4 (by omega); have c5 := hd3r.out.cell 5 (by omega); have hl := hd3r.out.lt; have z4 := hd3r.out.frozen 4; have z5 := hd3r.out.frozen 5; have hco := Bx.mk hd3.co; replace hd3 := Bx.mk (hd3.setN (lt_nil _ ρ3 6)); replace hbb := Bx.mk (fun (T2 : Tx) p2 n2 (g : BKH w1 ρ0 D T2 p2 n2) => (((hbb.out T2 p2 n2 g).fr hf3 (fun k hk e => by simp only [Cq] at e; omega) hx3).dk hco.out 4 (.slice ao3 (pushL past T).length cap3)).dk hco.out 5 (.slice none 0 0)); have hmm := Bx.mk (fun (T2 : Tx) p2 n2 (g : BM w2 ρ2 D.mb D.M T2 p2 n2) => ((g.fr hf3 (fun k hk e => by simp only [Cq] at e; unfold MC at hk; omega) hx3).dk hco.out 4 (.slice ao3 (pushL past T).length cap3)).dk hco.out 5 (.slice none 0 0)); have hx4 : Ext w ρ ρ3 := hx0.out.trans hx3 hf0.out.size; replace hf0 := Bx.mk (fr_dkS (fr_dkS (Fr.col (P := fun n => n ≠ 0) hf0.out hx0.out (hf3.mono (fun k hk => by simp only [Cq] at hk; omega))) hx4 hco.out 4 (.slice ao3 (pushL past T).length cap3)) hx4 hco.out 5 (.slice none 0 0)); replace hx4 := Bx.mk hx4; clear hx3 hl3 hf3 hd3r))
  all_goals go_ret2
  · have hn0 : n ≠ 0 := by simpa using hn
    rcases hr.out with ⟨_, hbr⟩ | ⟨e, _⟩
    · rcases hm2.out with ⟨_, hbm⟩ | ⟨e, _⟩
      · exact ⟨by simp, ⟨ρ2, hx0.out, .inl ⟨hn0, hbb.out _ _ _ hbr, hbm, _, _, _, hd0.out⟩⟩, hf0.out⟩
      · exact absurd e hn0
    · exact absurd e hn0
  · have hn0 : n = 0 := by simpa using hn
    rcases hr.out with ⟨e, _⟩ | ⟨_, hbr⟩
    · exact absurd hn0 e
    · rcases hm2.out with ⟨e, _⟩ | ⟨_, hbm⟩
      · exact absurd hn0 e
      · exact ⟨by simp, ⟨ρ3, hx4.out, .inr ⟨hn0, hbb.out _ _ _ hbr, hmm.out _ _ _ hbm, _, _, _, hd3.out⟩⟩, hf0.out⟩

end
end Go.Proofs.Qxb6500326aGreat
