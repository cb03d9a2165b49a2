import Derived.Test.Qxb6500326aGreatH13
import Derived.BigQuiet
namespace Go.Proofs.Qxb6500326aGreat
set_option maxRecDepth 100000
set_option linter.unusedVariables false
set_option linter.unusedSimpArgs false
open Go.RowKit Go.PlainAid

/-! ### the law's state -/
structure Ad where
  R : RA
  A : XA
  mb : Nat
  M : YA
  dk : Nat
structure Dk where
  text : ByteArray
  saved : ByteArray
  last : ByteArray
  at_ : Tx
def dkC (d : Dk) (va vp vn : Value) : Nat → Value
  | 0 => .string d.text
  | 1 => .string d.saved
  | 2 => va
  | 3 => .string d.last
  | 4 => vp
  | _ => vn
structure DX (w : World) (ρ : Nat → Nat) (dk : Nat) (d : Dk) (past next : List Tx) (va vp vn : Value) : Prop where
  ls : Row w dk 6 (dkC d va vp vn)
  co : ρ dk = 7
  gh : (va = .slice none 0 0 ∧ d.at_ = fun _ => es) ∨ Sn w ρ va d.at_
  pt : LT w ρ 5 vp past
  nt : LT w ρ 6 vn next
  sv : d.saved = bs (savFrom d.at_ 0)
  tx : TxO d.at_
  rg : d.text.size ≤ 1057
def DS (w : World) (ρ : Nat → Nat) (dk : Nat) (d : Dk) (past next : List Tx) : Prop := ∃ va vp vn, DX w ρ dk d past next va vp vn
def BKH (w : World) (ρ : Nat → Nat) (D : Ad) (T : Tx) (past next : List Tx) : Prop := (∃ H u r, BK w D.R D.A T H u r ∧ Hist H u r past next) ∧ ∀ k, SBk D.R D.A k → ρ k = 1
structure WS (w : World) (ρ : Nat → Nat) (D : Ad) (T : Tx) (past next : List Tx) (d : Dk) : Prop where
  bk : BKH w ρ D T past next
  bm : BM w ρ D.mb D.M T past next
  ds : DS w ρ D.dk d past next
/-- What a step leaves. -/
def St (w : World) (ρ : Nat → Nat) (e0 : Ending) (Q : World → (Nat → Nat) → Prop) : Ending → World → Prop := fun e w' => e = e0 ∧ (∃ ρ', Ext w ρ ρ' ∧ Q w' ρ') ∧ Fr (fun k => ρ k ≠ 0) w w'
section
variable {w w' : World} {ρ ρ' : Nat → Nat} {D : Ad} {T : Tx} {past next : List Tx} {d : Dk}
theorem BKH.fr (h : BKH w ρ D T past next) {S : Nat → Prop} (f : Fr S w w') (hS : ∀ k, ρ k = 1 → ¬ S k) (hx : Ext w ρ ρ') : BKH w' ρ' D T past next := by
  obtain ⟨⟨H, u, r, h1, h2⟩, h3⟩ := h
  exact ⟨⟨H, u, r, h1.fr f (fun k hk => hS k (h3 k hk)), h2⟩, fun k hk => (hx k (h1.lt k hk)).trans (h3 k hk)⟩
theorem DX.fr {va vp vn : Value} {dk : Nat} (h : DX w ρ dk d past next va vp vn) {S : Nat → Prop} (f : Fr S w w') (hS : ∀ k, ρ k = 0 ∨ ρ k = 5 ∨ ρ k = 6 ∨ ρ k = 7 → ¬ S k) (hx : Ext w ρ ρ') : DX w' ρ' dk d past next va vp vn :=
  ⟨f.row h.ls (hS _ (.inr (.inr (.inr h.co)))), (hx dk h.ls.lt).trans h.co, h.gh.imp id (fun g => g.fr f (fun k hk => hS k (.inl hk)) hx), h.pt.fr f (fun k hk => hS k (by omega)) hx, h.nt.fr f (fun k hk => hS k (by omega)) hx, h.sv, h.tx, h.rg⟩
theorem DS.fr {dk : Nat} (h : DS w ρ dk d past next) {S : Nat → Prop} (f : Fr S w w') (hS : ∀ k, ρ k = 0 ∨ ρ k = 5 ∨ ρ k = 6 ∨ ρ k = 7 → ¬ S k) (hx : Ext w ρ ρ') : DS w' ρ' dk d past next := by
  obtain ⟨va, vp, vn, h⟩ := h; exact ⟨va, vp, vn, h.fr f hS hx⟩
theorem WS.fr (h : WS w ρ D T past next d) {S : Nat → Prop} (f : Fr S w w') (hS : ∀ k, ρ k ≤ 8 → ¬ S k) (hx : Ext w ρ ρ') : WS w' ρ' D T past next d :=
  ⟨h.bk.fr f (fun k hk => hS k (by omega)) hx, h.bm.fr f (fun k hk => hS k (by unfold MC at hk; omega)) hx, h.ds.fr f (fun k hk => hS k (by omega)) hx⟩
theorem WS.fr0 (h : WS w ρ D T past next d) (f : Fr S0 w w') : WS w' ρ D T past next d := h.fr f (fun _ _ e => e) (Ext.refl _ _)
theorem WS.fr0x (h : WS w ρ D T past next d) (f : Fr S0 w w') (hx : Ext w ρ ρ') : WS w' ρ' D T past next d := h.fr f (fun _ _ e => e) hx
/-- Only the real side moves. -/
theorem WS.real (h : WS w ρ D T past next d) (f : Fr (fun k => ρ k = 1) w w') (hb : BKH w' ρ D T past next) : WS w' ρ D T past next d :=
  ⟨hb, h.bm.fr f (fun k hk e => by unfold MC at hk; omega) (Ext.refl _ _), h.ds.fr f (fun k hk e => by omega) (Ext.refl _ _)⟩
theorem fr_real (h : BKH w ρ D T past next) (f : Fr (SBk D.R D.A) w w') : Fr (fun k => ρ k = 1) w w' := f.mono h.2
theorem fr1 (f : Fr (fun k => ρ k = 1) w w') : Fr (fun k => ρ k ≠ 0) w w' := f.mono (fun k hk => by omega)
set_option maxHeartbeats 4000000 in
theorem texts20_any {mk : Nat} {M : YA} (w : World) (h : BM w ρ mk M T past next) : Calls Tryz.prog 20 #[pt mk] w fun e w' => ∃ k, e = .returned (sl k 24 24) ∧ w.heap.size ≤ k ∧ k < w'.heap.size ∧ Row w' k 24 (fun j => .string (T j)) ∧ Fr S0 w w' := by
  have kk1 := mk38
  generalize hA : MS = A1 at kk1
  replace hA := Bx.mk hA
  have hN1 : Bx (Row (w.alloc (.cells A1 9)) w.heap.size 24 (fun _ => .string es)) := ⟨ms_row hA.out w rfl⟩
  have hf1 := Bx.mk ((Fr.refl S0 w).alloc (.cells A1 9))
  have hR : Bx (∀ wx, Fr S0 w wx → ∀ k : Nat, k < 24 → Calls Tryz.prog 45 #[pt mk, I k] wx fun e w' => e = .returned (.string (T k)) ∧ wx = w') := ⟨fun wx hx k hk => by
    have := bmRaw_any (k : Int) wx (h.fr0 hx)
    rw [rawP_at hk] at this; exact this⟩
  clear h
  go_enter Tryz.func20, Tryz.ntmps20
  go_wp2_with fail
  generalize hHH : w.heap.size = Hs at *
  have hHw : Bx (w.heap.size ≤ Hs) := ⟨by omega⟩
  replace hHH := Bx.mk hHH
  go_loopw [4] (fun c wr => ∃ k : Nat, k ≤ 24 ∧ c = I (k : Int) ∧ Bx (Row wr Hs 24 (fun i => .string (bufT T k i))) ∧ Bx (Fr S0 w wr)) (fun c _ => 24 - (intOf c).toNat)
  case atStart => exact ⟨0, by omega, rfl, ⟨hN1.out.congr (fun i hi => by unfold bufT; rw [if_neg (by omega)])⟩, hf1⟩
  case round =>
    clear hN1 hf1
    obtain ⟨k, hk, rfl, hN, hf⟩ := hrel
    cases hlt : decide ((k : Int) < 24)
    · have hk24 : Bx (k = 24) := ⟨by simp at hlt; omega⟩
      go_wp2_with fail
      go_ret
      exact ⟨Hs, rfl, by rw [← hHH.out]; exact Nat.le_refl _, hN.out.lt, hN.out.congr (fun i hi => by unfold bufT; rw [if_pos (by rw [hk24.out]; exact hi)]), hf.out⟩
    · have hk24 : k < 24 := by simp at hlt; omega
      have hkI : (k : Int) < 24 := by omega
      have hv := Bx.mk (hR.out wr hf.out k hk24)
      have m0 := hN.out.cell k hk24
      have z0 := hN.out.frozen k
      have hlw := hN.out.lt
      have hN2 : Bx (Row (wr.setCell ⟨Hs, k, none⟩ (.string (T k))) Hs 24 (fun i => .string (bufT T (k + 1) i))) := ⟨(hN.out.set k _).congr (fun i _ => by rw [← bufT_step]; unfold upd; split <;> rfl)⟩
      have hf2 : Bx (Fr S0 w (wr.setCell ⟨Hs, k, none⟩ (.string (T k)))) := ⟨hf.out.setCell (p := ⟨Hs, k, none⟩) (.inr hHw.out) _⟩
      generalize T k = y at hv hN2 hf2
      go_wp2_with (first | (go_at_call 45; refine hv.out.mono ?_; clear hv; rintro e _ ⟨rfl, rfl⟩))
      go_roundw
      case rel => exact ⟨k + 1, by omega, by go_num, hN2, hf2⟩
      case measure => simp [intOf]; omega
set_option maxHeartbeats 4000000 in
theorem turned_any {ka kb : Nat} {A B : Tx} (w : World) (ha : Row w ka 24 (fun j => .string (A j))) (hb : Row w kb 24 (fun j => .string (B j))) : Calls Tryz.prog 30 #[sl ka 24 24, sl kb 24 24] w fun e w' => ∃ n : Nat, e = .returned (I n) ∧ n ≤ 24 ∧ ((∀ c, c < 24 → A c = B c) → n = 0) ∧ Fr S0 w w' := by
  replace ha := Bx.mk ha
  replace hb := Bx.mk hb
  go_enter Tryz.func30, Tryz.ntmps30
  go_wp2_with fail
  go_loopw [5, 6] (fun s c wr => ∃ k n : Nat, k ≤ 24 ∧ n ≤ k ∧ s = I (n : Int) ∧ c = I (k : Int) ∧ Bx ((∀ c, c < 24 → A c = B c) → n = 0) ∧ Bx (Fr S0 w wr)) (fun _ c _ => 24 - (intOf c).toNat)
  case atStart => exact ⟨0, 0, by omega, by omega, rfl, rfl, ⟨fun _ => rfl⟩, ⟨Fr.refl _ _⟩⟩
  case round =>
    obtain ⟨k, n, hk, hn, rfl, rfl, hz, hf⟩ := hrel
    cases hlt : decide ((k : Int) < 24)
    · go_wp2_with fail
      go_ret
      exact ⟨n, rfl, by omega, hz.out, hf.out⟩
    · have hk24 : k < 24 := by simp at hlt; omega
      have hkI : (k : Int) < 24 := by omega
      have hnI : (n : Int) ≤ 24 := by omega
      have m0 := (hf.out.row0 ha.out).cell k hk24
      have m1 := (hf.out.row0 hb.out).cell k hk24
      have l0 := (hf.out.row0 ha.out).lt
      have l1 := (hf.out.row0 hb.out).lt
      have hbx : Bx (((A k).toList == (B k).toList) = false → ¬ (∀ c, c < 24 → A c = B c)) := ⟨fun e g => by rw [g k hk24] at e; simp at e⟩
      cases hq : ((A k).toList == (B k).toList)
      · have hz2 : Bx ((∀ c, c < 24 → A c = B c) → n + 1 = 0) := ⟨fun g => absurd g (hbx.out hq)⟩
        clear hbx
        generalize A k = y0 at *
        generalize B k = y1 at *
        go_wp2_with fail
        go_quiet (fail)
        go_wp2_with fail
        go_roundw
        case rel => exact ⟨k + 1, n + 1, by omega, by omega, by go_num, by go_num, hz2, ⟨hf.out.drewN _⟩⟩
        case measure => simp [intOf]; omega
      · clear hbx
        generalize A k = y0 at *
        generalize B k = y1 at *
        go_wp2_with fail
        go_quiet (fail)
        go_wp2_with fail
        go_roundw
        case rel => exact ⟨k + 1, n, by omega, by omega, rfl, by go_num, hz, ⟨hf.out.drewN _⟩⟩
        case measure => simp [intOf]; omega
set_option maxHeartbeats 1000000 in
theorem sameRaw_any (c : Int) (w : World) (h : WS w ρ D T past next d) : Calls Tryz.prog 53 #[pt D.R.bk, pt D.mb, I c] w fun e w' => e = .returned (.bool true) ∧ w = w' := by
  obtain ⟨⟨H, u, r, hb, hh⟩, -⟩ := h.bk
  have h1 := Bx.mk (bkRaw_any c w hb)
  have h2 := Bx.mk (bmRaw_any c w h.bm)
  generalize rawP T c = y at *
  clear h hb hh
  go_enter Tryz.func53, Tryz.ntmps53
  go_wp2_with (first
    | (go_at_call 81; refine h1.out.mono ?_; clear h1; rintro e _ ⟨rfl, rfl⟩)
    | (go_at_call 45; refine h2.out.mono ?_; clear h2; rintro e _ ⟨rfl, rfl⟩))
  go_ret
  exact ⟨by simp, rfl⟩
theorem valP_same {E E' : Nat → Vl} (h : Sheet T E) (h' : Sheet T E') (c : Int) : valP E c = valP E' c := by
  unfold valP
  by_cases g : 0 ≤ c ∧ c < 24
  · rw [if_pos g, if_pos g]; exact h.same h' _ (by omega)
  · rw [if_neg g, if_neg g]
set_option maxHeartbeats 2000000 in
theorem sameValue_any (c : Int) (w : World) (h : WS w ρ D T past next d) : Calls Tryz.prog 54 #[pt D.R.bk, pt D.mb, I c] w fun e w' => e = .returned (.bool true) ∧ Fr S0 w w' := by
  obtain ⟨⟨H, u, r, hb, hh⟩, -⟩ := h.bk
  obtain ⟨E, hE, h1⟩ := bkValue_any w hb
  obtain ⟨E', hE', h2⟩ := bmValue_any w h.bm
  have h1 := Bx.mk (h1 c w (Fr.refl _ _))
  have h2 : Bx (∀ w', Fr S0 w w' → Calls Tryz.prog 64 #[pt D.mb, I c] w' (VR w' (valP E c))) := ⟨fun w' f => by rw [valP_same hE hE' c]; exact h2 c w' f⟩
  generalize valP E c = y at h1 h2
  have hrun : ∀ u : World, (binOp .eql 92 (vV y) (vV y)).run Tryz.prog u = .ok (.bool true) u := fun u => by rw [eql_v, vEq_self]
  have hgd : ∀ u : World, (eqGuard .eql 92 (.tmp 15) (.tmp 16) (vV y) (vV y)).run Tryz.prog u = .ok () u := fun u => guard_ve _ _ _ _ u
  clear h hb hh hE hE'
  go_enter Tryz.func54, Tryz.ntmps54
  go_wp2_with (first
    | (go_at_call 82; refine h1.out.mono ?_; clear h1; rintro e w1 ⟨rfl, hf1⟩; have hv1 := Bx.mk (v_new w1 y 92 rfl); have hf1 := Bx.mk (hf1.alloc (.cells (vA y) 92)))
    | (go_at_call 64; refine (h2.out _ hf1.out).mono ?_; clear h2; rintro e w2 ⟨rfl, hf2⟩; have hv2 := Bx.mk (hf2.row0 hv1.out); obtain ⟨q0, q1, q2, -, -, -⟩ := hv2.out.v3; have hlq := hv2.out.lt; have hf2 := Bx.mk ((hf1.out.trans hf2).alloc (.cells (vA y) 92))))
  go_ret
  exact ⟨rfl, hf2.out⟩

set_option maxHeartbeats 1000000 in
theorem sameUndos_any (w : World) (h : WS w ρ D T past next d) : Calls Tryz.prog 55 #[pt D.R.bk, pt D.mb] w fun e w' => e = .returned (.bool true) ∧ w = w' := by
  obtain ⟨⟨H, u, r, hb, hh⟩, -⟩ := h.bk
  have h1 := Bx.mk (bkUndos_any w hb)
  have h2 := Bx.mk (bmUndos_any w h.bm)
  rw [hh.pl] at h2
  clear h hb hh
  go_enter Tryz.func55, Tryz.ntmps55
  go_wp2_with (first
    | (go_at_call 83; refine h1.out.mono ?_; clear h1; rintro e _ ⟨rfl, rfl⟩)
    | (go_at_call 65; refine h2.out.mono ?_; clear h2; rintro e _ ⟨rfl, rfl⟩))
  go_ret
  exact ⟨by simp, rfl⟩

set_option maxHeartbeats 1000000 in
theorem sameRedos_any (w : World) (h : WS w ρ D T past next d) : Calls Tryz.prog 56 #[pt D.R.bk, pt D.mb] w fun e w' => e = .returned (.bool true) ∧ w = w' := by
  obtain ⟨⟨H, u, r, hb, hh⟩, -⟩ := h.bk
  have h1 := Bx.mk (bkRedos_any w hb)
  have h2 := Bx.mk (bmRedos_any w h.bm)
  rw [hh.nl] at h2
  clear h hb hh
  go_enter Tryz.func56, Tryz.ntmps56
  go_wp2_with (first
    | (go_at_call 84; refine h1.out.mono ?_; clear h1; rintro e _ ⟨rfl, rfl⟩)
    | (go_at_call 66; refine h2.out.mono ?_; clear h2; rintro e _ ⟨rfl, rfl⟩))
  go_ret
  exact ⟨by simp, rfl⟩

/-- The model's texts are the saved text's. -/
theorem bkh_save (w : World) (h : BKH w ρ D T past next) : Calls Tryz.prog 85 #[pt D.R.bk] w fun e w' => e = .returned (.string (bs (savFrom T 0))) ∧ BKH w' ρ D T past next ∧ Fr (fun k => ρ k = 1) w w' := by
  obtain ⟨⟨H, u, r, hb, hh⟩, hc⟩ := h
  refine (bkSave_any w hb).mono ?_
  rintro e w' ⟨rfl, hb', hf⟩
  exact ⟨rfl, ⟨⟨H, u, r, hb', hh⟩, hc⟩, hf.mono hc⟩
set_option maxHeartbeats 2000000 in
theorem sameSave_any (w : World) (h : WS w ρ D T past next d) : Calls Tryz.prog 57 #[pt D.R.bk, pt D.mb] w fun e w' => e = .returned (.tuple #[.string (bs (savFrom T 0)), .bool true]) ∧ WS w' ρ D T past next d ∧ Fr (fun k => ρ k = 1) w w' := by
  have h1 := Bx.mk (bkh_save w h.bk)
  have hW : Bx (∀ w1, BKH w1 ρ D T past next → Fr (fun k => ρ k = 1) w w1 → WS w1 ρ D T past next d) := ⟨fun w1 hb f => h.real f hb⟩
  have h2 : Bx (∀ w1, WS w1 ρ D T past next d → Calls Tryz.prog 18 #[pt D.mb] w1 fun e w' => e = .returned (.string (bs (savFrom T 0))) ∧ Fr S0 w1 w') := ⟨fun w1 hw => bmSave_any w1 hw.bm⟩
  clear h
  generalize bs (savFrom T 0) = y at *
  go_enter Tryz.func57, Tryz.ntmps57
  go_wp2_with (first
    | (go_at_call 85; refine h1.out.mono ?_; clear h1; rintro e w1 ⟨rfl, hb1, hf1⟩; have hw1 := hW.out w1 hb1 hf1; clear hW hb1; replace hf1 := Bx.mk hf1; replace h2 := Bx.mk (h2.out w1 hw1); replace hw1 := Bx.mk hw1)
    | (go_at_call 18; refine h2.out.mono ?_; clear h2; rintro e w2 ⟨rfl, hf2⟩; have hw2 := Bx.mk (hw1.out.fr0 hf2); replace hf2 := Bx.mk (hf1.out.trans hf2.up)))
  go_ret2
  exact ⟨by simp, hw2.out, hf2.out⟩
theorem check58_any (w : World) (h : WS w ρ D T past next d) : Calls Tryz.prog 58 #[pt D.R.bk] w fun e w' => e = .returned (.bool true) ∧ Fr S0 w w' := by
  obtain ⟨⟨H, u, r, hb, hh⟩, -⟩ := h.bk
  exact bkCheck_any w hb
set_option maxHeartbeats 4000000 in
theorem alike_any (w : World) (h : WS w ρ D T past next d) : Calls Tryz.prog 28 #[pt D.R.bk, pt D.mb] w fun e w' => e = .returned (.bool true) ∧ WS w' ρ D T past next d ∧ Fr (fun k => ρ k = 1) w w' := by
  have hW : Bx (∀ w', Fr S0 w w' → WS w' ρ D T past next d) := ⟨fun w' f => h.fr0 f⟩
  clear h
  go_enter Tryz.func28, Tryz.ntmps28
  go_wp2_with fail
  go_loopw [5] (fun c wr => ∃ q : Int, -1 ≤ q ∧ q ≤ 25 ∧ c = I q ∧ Bx (Fr S0 w wr)) (fun c _ => (25 - intOf c).toNat)
  case atStart => exact ⟨-1, by omega, by omega, rfl, ⟨Fr.refl _ _⟩⟩
  case round =>
    obtain ⟨q, hq0, hq1, rfl, hf⟩ := hrel
    cases hlt : decide (q ≤ 24)
    · have hU := Bx.mk (sameUndos_any wr (hW.out wr hf.out))
      have hV := Bx.mk (sameRedos_any wr (hW.out wr hf.out))
      have hS := Bx.mk (sameSave_any wr (hW.out wr hf.out))
      have hC : Bx (∀ w1, WS w1 ρ D T past next d → Calls Tryz.prog 58 #[pt D.R.bk] w1 fun e w' => e = .returned (.bool true) ∧ Fr S0 w1 w') := ⟨fun w1 h1 => check58_any w1 h1⟩
      go_wp2_with (first
        | (go_at_call 55; refine hU.out.mono ?_; clear hU; rintro e _ ⟨rfl, rfl⟩)
        | (go_at_call 56; refine hV.out.mono ?_; clear hV; rintro e _ ⟨rfl, rfl⟩)
        | (go_at_call 57; refine hS.out.mono ?_; clear hS; rintro e w1 ⟨rfl, hw1, hf1⟩; replace hC := Bx.mk (hC.out w1 hw1); replace hw1 := Bx.mk hw1; replace hf1 := Bx.mk hf1)
        | (go_at_call 58; refine hC.out.mono ?_; clear hC; rintro e w2 ⟨rfl, hf2⟩; replace hf2 := Bx.mk hf2))
      go_ret
      exact ⟨rfl, hw1.out.fr0 hf2.out, (hf.out.up.trans hf1.out).trans hf2.out.up⟩
    · have hq24 : q ≤ 24 := by simpa using hlt
      have hR := Bx.mk (sameRaw_any q wr (hW.out wr hf.out))
      have hV := Bx.mk (sameValue_any q wr (hW.out wr hf.out))
      go_wp2_with (first
        | (go_at_call 53; refine hR.out.mono ?_; clear hR; rintro e w2 ⟨rfl, rfl⟩)
        | (go_at_call 54; refine hV.out.mono ?_; clear hV; rintro e w3 ⟨rfl, hf3⟩; have hf3 := Bx.mk hf3))
      go_roundw
      case rel => exact ⟨q + 1, by omega, by omega, by go_num, ⟨hf.out.trans hf3.out⟩⟩
      case measure => simp [intOf]; omega
end
end Go.Proofs.Qxb6500326aGreat
