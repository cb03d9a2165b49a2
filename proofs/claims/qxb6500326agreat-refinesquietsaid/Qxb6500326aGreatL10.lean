import Derived.Test.Qxb6500326aGreatL9
namespace Go.Proofs.Qxb6500326aGreat
set_option maxRecDepth 100000
set_option linter.unusedVariables false
set_option linter.unusedSimpArgs false
open Go.RowKit Go.PlainAid

structure OpAt (w : World) (b o : Nat) (kd A Bv C : Int) (S T : ByteArray) : Prop where
  c0 : w.cell? ⟨b, o, none⟩ = some (.int .i64 kd)
  c1 : w.cell? ⟨b, o + 1, none⟩ = some (.int .i64 A)
  c2 : w.cell? ⟨b, o + 2, none⟩ = some (.int .i64 Bv)
  c3 : w.cell? ⟨b, o + 3, none⟩ = some (.int .i64 C)
  c4 : w.cell? ⟨b, o + 4, none⟩ = some (.string S)
  c5 : w.cell? ⟨b, o + 5, none⟩ = some (.string T)
theorem OpAt.fr {Q : Nat → Prop} {w w' : World} {b o : Nat} {kd A Bv C : Int} {S T : ByteArray} (h : OpAt w b o kd A Bv C S T) (f : Fr Q w w') (hb : b < w.heap.size) (hq : ¬ Q b) : OpAt w' b o kd A Bv C S T :=
  ⟨(f.cell (a := ⟨b, o, none⟩) hb hq).trans h.c0, (f.cell (a := ⟨b, o + 1, none⟩) hb hq).trans h.c1, (f.cell (a := ⟨b, o + 2, none⟩) hb hq).trans h.c2, (f.cell (a := ⟨b, o + 3, none⟩) hb hq).trans h.c3, (f.cell (a := ⟨b, o + 4, none⟩) hb hq).trans h.c4, (f.cell (a := ⟨b, o + 5, none⟩) hb hq).trans h.c5⟩
def Script (w : World) (ad : Option Addr) (len : Nat) : Prop := ∀ i, i < len → ∃ b off kd A Bv C S T, ad = some ⟨b, off, none⟩ ∧ b < w.heap.size ∧ OpAt w b (off + i * 6) kd A Bv C S T
/-! ### the walk's state -/
structure WB (w0 w : World) (ρ : Nat → Nat) (D : Ad) (T : Tx) (past next : List Tx) (d : Dk) (g6 : Nat) : Prop where
  ws : WS w ρ D T past next d
  bx : Row w g6 1 (fun _ => pt D.A.xe)
  bg : ρ g6 = 0
  old : ∀ k, k < w0.heap.size → ρ k = 0
  fr : Fr S0 w0 w
structure OB (w : World) (ρ : Nat → Nat) (g : Nat) (kd a b c : Int) (S1 T1 : ByteArray) : Prop where
  row : Row w g 6 (opC kd a b c S1 T1)
  co : ρ g = 0
section
variable {w0 w w' : World} {ρ ρ' : Nat → Nat} {D : Ad} {T T' : Tx} {past next past' next' : List Tx} {d d' : Dk} {g6 g : Nat}
theorem WB.step (h : WB w0 w ρ D T past next d g6) (hx : Ext w ρ ρ') (f : Fr (fun k => ρ k ≠ 0) w w') (hw : WS w' ρ' D T' past' next' d') : WB w0 w' ρ' D T' past' next' d' g6 :=
  ⟨hw, f.row h.bx (fun e => e h.bg), (hx g6 h.bx.lt).trans h.bg, fun k hk => (hx k (by have := h.fr.size; omega)).trans (h.old k hk), h.fr.step f (fun x hx => .inr (by
    rcases Nat.lt_or_ge x w0.heap.size with e | e
    · exact absurd (h.old x e) hx
    · exact e))⟩
theorem WB.fr0 (h : WB w0 w ρ D T past next d g6) (f : Fr S0 w w') : WB w0 w' ρ D T past next d g6 := h.step (Ext.refl _ _) f.up (h.ws.fr0 f)
theorem WB.fr0x (h : WB w0 w ρ D T past next d g6) (f : Fr S0 w w') (hx : Ext w ρ ρ') : WB w0 w' ρ' D T past next d g6 := h.step hx f.up (h.ws.fr0x f hx)
theorem WB.real (h : WB w0 w ρ D T past next d g6) (f : Fr (fun k => ρ k = 1) w w') (hw : WS w' ρ D T past next d) : WB w0 w' ρ D T past next d g6 := h.step (Ext.refl _ _) (fr1 f) hw
theorem WB.xb (h : WB w0 w ρ D T past next d g6) : XB w D.A T := by obtain ⟨⟨H, u, r, hb, -⟩, -⟩ := h.ws.bk; exact hb.ed
theorem WB.tx (h : WB w0 w ρ D T past next d g6) : TxO T := by obtain ⟨⟨H, u, r, hb, -⟩, -⟩ := h.ws.bk; exact hb.tx
theorem WB.b1 (h : WB w0 w ρ D T past next d g6) : w.cell? ⟨g6, 0, none⟩ = some (pt D.A.xe) ∧ g6 < w.heap.size := ⟨h.bx.cell 0 (by omega), h.bx.lt⟩
theorem OB.step {kd a b c : Int} {S1 T1 : ByteArray} (h : OB w ρ g kd a b c S1 T1) (hx : Ext w ρ ρ') (f : Fr (fun k => ρ k ≠ 0) w w') : OB w' ρ' g kd a b c S1 T1 := ⟨f.row h.row (fun e => e h.co), (hx g h.row.lt).trans h.co⟩
theorem OB.fr0 {kd a b c : Int} {S1 T1 : ByteArray} (h : OB w ρ g kd a b c S1 T1) (f : Fr S0 w w') : OB w' ρ g kd a b c S1 T1 := h.step (Ext.refl _ _) f.up
theorem Sn.step {v : Value} (h : Sn w ρ v T) (hx : Ext w ρ ρ') (f : Fr (fun k => ρ k ≠ 0) w w') : Sn w' ρ' v T := h.fr f (fun k hk e => e hk) hx
theorem Sn.fr0 {v : Value} (h : Sn w ρ v T) (f : Fr S0 w w') : Sn w' ρ v T := h.step (Ext.refl _ _) f.up
theorem dk_obj (w : World) {H : Nat} (e : w.heap.size = H) : Row (w.alloc (.cells #[.string es, .string es, .slice none 0 0, .string es, .slice none 0 0, .slice none 0 0] 51)) H 6 (dkC dk0 (.slice none 0 0) (.slice none 0 0) (.slice none 0 0)) := by
  subst e
  exact Row.new w _ 51 6 _ rfl (by intro i hi; rcases i with _ | _ | _ | _ | _ | _ | i <;> first | rfl | omega)
/-- The building is done. -/
theorem wb_start {w4 w5 w6 : World} {A : XA} {R : RA} {M : YA} {sb mk dk : Nat} (hX : XB w4 A tx0) (hn1 : ∀ k, SE A k → w0.heap.size ≤ k ∧ k < g6) (hbx : Row w4 g6 1 (fun _ => pt A.xe)) (hg6 : w0.heap.size ≤ g6) (hf4 : Fr S0 w0 w4)
    (hxe : R.xe = A.xe) (hRG : RG w4 R 0 0 0 (fun _ => 0#32) (fun _ => es) (fun _ => es)) (hn4 : ∀ k, SR R k → g6 < k ∧ k < w4.heap.size) (hY : EY w5 M sb tx0 (fun _ => v0)) (hm : Row w5 mk 3 (bmC M (.slice none 0 0) (.slice none 0 0))) (hf5 : Fr S0 w4 w5) (hn5 : ∀ k, SYa M sb k → w4.heap.size ≤ k ∧ k < mk) (g5 : w4.heap.size ≤ mk) (l5 : mk < w5.heap.size)
    (hf6 : Fr S0 w5 w6) (hdk : w5.heap.size ≤ dk) (hd : Row w6 dk 6 (dkC dk0 (.slice none 0 0) (.slice none 0 0) (.slice none 0 0))) : ∃ ρ, WB w0 w6 ρ ⟨R, A, mk, M, dk⟩ tx0 [] [] dk0 g6 := by
  have hb := bk_start hxe (hX.fr (hf5.trans hf6) (fun _ _ e => e)) ((hRG.fr0 hf5).fr0 hf6) (fun k hk e => by have := hn4 k hk; have := hn1 k e; omega)
  have hl6 := hbx.lt
  have hB : ∀ k, SBk R A k → w0.heap.size ≤ k ∧ k < w4.heap.size ∧ k ≠ g6 := by
    rintro k (e | e)
    · have := hn4 k e; omega
    · have := hn1 k e; omega
  obtain ⟨hW, hc⟩ := ws_start (dk := dk) hb (hY.fr0 hf6) (hf6.row0 hm) hd (fun k hk => ⟨fun e => by have := hB k hk; have := hn5 k e; omega, fun e => by have := hB k hk; omega, fun e => by have := hB k hk; omega⟩) (fun k hk => ⟨fun e => by have := hn5 k hk; omega, fun e => by have := hn5 k hk; omega⟩) (by omega)
  refine ⟨_, hW, hf6.row0 (hf5.row0 hbx), ?_, fun k hk => ?_, (hf4.trans hf5).trans hf6⟩
  · apply Classical.byContradiction
    intro h
    rcases hc _ h with e | e | e | e
    · exact (hB _ e).2.2 rfl
    · have := hn5 _ e; omega
    · omega
    · omega
  · apply Classical.byContradiction
    intro h
    rcases hc _ h with e | e | e | e
    · have := hB _ e; omega
    · have := hn5 _ e; omega
    · omega
    · omega
/-- A new snapshot. -/
theorem wb_snap {k : Nat} (h : WB w0 w ρ D T past next d g6) (f : Fr S0 w w') (hk : w.heap.size ≤ k) (hr : Row w' k 24 (fun j => .string (T j))) : WB w0 w' (ext ρ w.heap.size k 0) D T past next d g6 ∧ Sn w' (ext ρ w.heap.size k 0) (sl k 24 24) T ∧ Ext w ρ (ext ρ w.heap.size k 0) :=
  ⟨h.fr0x f (ext_Ext _ _ _ _), ⟨⟨k, rfl, ext_new hk, hr⟩⟩, ext_Ext _ _ _ _⟩
end


set_option maxHeartbeats 64000000 in
theorem walk_any (q : Bool) (ad : Option Addr) (len cap : Nat) (w : World) (hlen : len ≤ 140737488355328) (hs : Script w ad len) :
    Calls Tryz.prog 9 #[.slice ad len cap, .bool q] w fun e w' => ∃ v, e = .returned (.tuple #[.int .i64 (-1), v]) ∧ Fr S0 w w' := by
  have HS := Bx.mk hs
  clear hs
  have hG := Bx.mk (ground_any w)
  cases q
  all_goals go_enter Tryz.func9, Tryz.ntmps9
  all_goals go_upto_region 6 with (first
    | (go_at_call 22; refine hG.out.mono ?_; clear hG; rintro e w1 ⟨A, rfl, hX, hf1, hn1⟩; have hs1 := Bx.mk hf1.size; have fa : Fr S0 w1 (w1.alloc (.cells #[pt A.xe] 43)) := (Fr.refl S0 _).alloc _; have hbx := Bx.mk (Row.new w1 #[pt A.xe] 43 1 (fun _ => pt A.xe) rfl (by intro i hi; rcases i with _ | i <;> first | rfl | omega)); replace hX := Bx.mk (hX.fr fa (fun _ _ e => e)); replace hf1 := Bx.mk (hf1.trans fa); replace hn1 := Bx.mk hn1; clear fa; have x0 := hbx.out.cell 0 (by omega); have hlb := hbx.out.lt)
    | (go_at_call 23; refine (mark_any _ _).mono ?_; rintro e w3 ⟨rfl, hf3⟩; replace hX := Bx.mk (hX.out.fr hf3 (fun _ _ e => e)); replace hbx := Bx.mk (hf3.row0 hbx.out); replace hf1 := Bx.mk (hf1.out.trans hf3); clear hf3 x0 hlb; have x0 := hbx.out.cell 0 (by omega); have hlb := hbx.out.lt)
    | (go_at_call 24; refine (bkNew_any A.xe _).mono ?_; rintro e w4 ⟨R, hxe, rfl, hRG, hf4, hn4⟩; have hn4' : Bx (∀ k, SR R k → w1.heap.size < k ∧ k < w4.heap.size) := ⟨fun k hk => by have := hn4 k hk; omega⟩; clear hn4; replace hxe := Bx.mk hxe; replace hRG := Bx.mk hRG; replace hX := Bx.mk (hX.out.fr hf4 (fun _ _ e => e)); replace hbx := Bx.mk (hf4.row0 hbx.out); replace hf1 := Bx.mk (hf1.out.trans hf4); clear hf4 x0 hlb)
    | (go_at_call 10; refine (bmNew_any _).mono ?_; rintro e w5 ⟨M, sb, mk, rfl, hY, hm, hf5, hn5, g5, l5⟩; replace hY := Bx.mk hY; replace hm := Bx.mk hm; replace hf5 := Bx.mk hf5; replace hn5 := Bx.mk hn5; replace g5 := Bx.mk g5; replace l5 := Bx.mk l5))
  all_goals
    have hd := dk_obj w5 rfl
    have hf6 : Fr S0 w5 (w5.alloc (.cells #[.string es, .string es, .slice none 0 0, .string es, .slice none 0 0, .slice none 0 0] 51)) := (Fr.refl S0 _).alloc _
    obtain ⟨ρ, hP⟩ := wb_start (g6 := w1.heap.size) hX.out hn1.out hbx.out hs1.out hf1.out hxe.out hRG.out hn4'.out hY.out hm.out hf5.out hn5.out g5.out l5.out hf6 (Nat.le_refl _) hd
    replace hP := Bx.mk hP
    clear hX hn1 hbx hs1 hf1 hxe hRG hn4' hY hm hf5 hn5 g5 l5 hd hf6
    obtain ⟨D, hD⟩ : ∃ D : Ad, D = ⟨R, A, mk, M, w5.heap.size⟩ := ⟨_, rfl⟩
    rw [← hD] at hP
    obtain rfl : R = D.R := by rw [hD]
    obtain rfl : A = D.A := by rw [hD]
    obtain rfl : mk = D.mb := by rw [hD]
    have hdk : w5.heap.size = D.dk := by rw [hD]
    clear hD
    generalize w1.heap.size = g6 at *
    generalize (w5.alloc (.cells #[.string es, .string es, .slice none 0 0, .string es, .slice none 0 0, .slice none 0 0] 51)) = w6 at *
    rw [hdk]
    clear hdk
    obtain ⟨x0, hlb⟩ := hP.out.b1
    have hT1 := Bx.mk (texts20_any w6 hP.out.ws.bm)
    go_wp2_with (first
      | (go_at_call 20; refine hT1.out.mono ?_; clear hT1; rintro e w7 ⟨kw, rfl, hk, -, hr, hf⟩; obtain ⟨hP7, hsn, -⟩ := wb_snap hP.out hf hk hr; replace hP := Bx.mk hP7; replace hsn := Bx.mk hsn; generalize ext ρ w6.heap.size kw 0 = ρ1 at *; clear hP7 hk hr hf; clear x0 hlb; obtain ⟨x0, hlb⟩ := hP.out.b1)
      | (go_at_call 25; refine (sets_any _ _).mono ?_; rintro e w8 ⟨rfl, hf8⟩; replace hP := Bx.mk (hP.out.fr0 hf8); replace hsn := Bx.mk (hsn.out.fr0 hf8); clear hf8; clear x0 hlb; obtain ⟨x0, hlb⟩ := hP.out.b1)
      | (go_at_call 26; refine (work_any _ _ _ _).mono ?_; rintro e _ ⟨rfl, rfl⟩)
      | (go_at_call 27; refine (handed_any _ hP.out.xb (sn_row hsn.out)).mono ?_; rintro e w9 ⟨rfl, hf9⟩; replace hP := Bx.mk (hP.out.fr0 hf9); replace hsn := Bx.mk (hsn.out.fr0 hf9); clear hf9; clear x0 hlb; obtain ⟨x0, hlb⟩ := hP.out.b1)
      | (go_at_call 28; refine (alike_any _ hP.out.ws).mono ?_; rintro e w10 ⟨rfl, hW10, hf10⟩; replace hsn := Bx.mk (hsn.out.step (Ext.refl _ _) (fr1 hf10)); replace hP := Bx.mk (hP.out.real hf10 hW10); clear hW10 hf10; clear x0 hlb; obtain ⟨x0, hlb⟩ := hP.out.b1))
    clear x0 hlb
    go_loopw [10, 11, 12] (fun vw vm ii wr => ∃ (k kw : Nat) (ρ : Nat → Nat) (T : Tx) (past next : List Tx) (d : Dk), vw = sl kw 24 24 ∧ vm = I (-1) ∧ ii = I (k : Int) ∧ k ≤ len ∧ Bx (WB w wr ρ D T past next d g6) ∧ Bx (Sn wr ρ (sl kw 24 24) T)) (fun _ _ ii _ => len - (intOf ii).toNat)
    case atStart => exact ⟨0, kw, _, _, _, _, _, rfl, rfl, rfl, Nat.zero_le _, hP, hsn⟩
    case round =>
      clear hP hsn
      obtain ⟨k, kw, ρ, T, past, next, d, rfl, rfl, rfl, hk, hP, hsn⟩ := hrel
      have hfw := Bx.mk hP.out.fr
      by_cases hlk : k < len
      · have hlkd : decide ((k : Int) < (len : Int)) = true := by simp; omega
        by_cases hmk' : k < 4398046511104
        · have hmkd : decide ((k : Int) < 4398046511104) = true := by simp; omega
          obtain ⟨b, off, kd, a, Bv, C, S1, T1, rfl, hb, hop⟩ := HS.out k hlk
          obtain ⟨p0, p1, p2, p3, p4, p5⟩ := hop.fr hfw.out hb (fun c => c)
          have hbw : b < wr.heap.size := Nat.lt_of_lt_of_le hb hfw.out.size
          have hxo : Ext wr ρ (ext ρ wr.heap.size wr.heap.size 0) := ext_Ext _ _ _ _
          have hO : Bx (OB (wr.alloc (.cells (opA kd a Bv C S1 T1) 30)) (ext ρ wr.heap.size wr.heap.size 0) wr.heap.size kd a Bv C S1 T1) := ⟨⟨op_new wr kd a Bv C S1 T1 rfl, ext_new (Nat.le_refl _)⟩⟩
          have fa : Fr S0 wr (wr.alloc (.cells (opA kd a Bv C S1 T1) 30)) := (Fr.refl S0 wr).alloc _
          replace hP := Bx.mk (hP.out.fr0x fa hxo)
          replace hsn := Bx.mk (hsn.out.step hxo fa.up)
          generalize ext ρ wr.heap.size wr.heap.size 0 = ρ1 at *
          clear hmk' hop hxo fa
          have hTx := Bx.mk hP.out.tx
          obtain ⟨x0, hlb⟩ := hP.out.b1
          obtain ⟨o0, o1, o2, o3, o4, o5, hol⟩ := hO.out.row.op6
          clear x0 hlb o0 o1 o2 o3 o4 o5 hol
          go_upto_region 21 with fail
          clear p0 p1 p2 p3 p4 p5 hbw
          generalize wr.heap.size = g13 at *
          have hP' : Bx (WB w (wr.alloc (.cells #[.int .i64 kd, .int .i64 a, .int .i64 Bv, .int .i64 C, .string S1, .string T1] 30)) ρ1 D T past next d g6) := hP
          have hsn' : Bx (Sn (wr.alloc (.cells #[.int .i64 kd, .int .i64 a, .int .i64 Bv, .int .i64 C, .string S1, .string T1] 30)) ρ1 (sl kw 24 24) T) := hsn
          have hO' : Bx (OB (wr.alloc (.cells #[.int .i64 kd, .int .i64 a, .int .i64 Bv, .int .i64 C, .string S1, .string T1] 30)) ρ1 g13 kd a Bv C S1 T1) := hO
          clear hP hsn hO
          generalize (wr.alloc (.cells #[.int .i64 kd, .int .i64 a, .int .i64 Bv, .int .i64 C, .string S1, .string T1] 30)) = wa at *
          have hP := hP'
          have hsn := hsn'
          have hO := hO'
          clear hP' hsn' hO'
          have hTx := Bx.mk hP.out.tx
          obtain ⟨x0, hlb⟩ := hP.out.b1
          obtain ⟨o0, o1, o2, o3, o4, o5, hol⟩ := hO.out.row.op6
          go_upto_region 36 with (first
            | (go_at_call 23; refine (mark_any _ _).mono ?_; rintro e w9 ⟨rfl, hf9⟩; replace hP := Bx.mk (hP.out.fr0 hf9); replace hsn := Bx.mk (hsn.out.fr0 hf9); replace hO := Bx.mk (hO.out.fr0 hf9); clear hf9; clear x0 hlb; obtain ⟨x0, hlb⟩ := hP.out.b1; clear o0 o1 o2 o3 o4 o5 hol; obtain ⟨o0, o1, o2, o3, o4, o5, hol⟩ := hO.out.row.op6)
            | (go_at_call 29; refine (play_any kd a Bv C S1 T1 _ hP.out.ws hsn.out).mono ?_; rintro e w10 ⟨n, rfl, ⟨ρ2, hx2, T', past', next', d', hW, hpf⟩, hf10⟩; replace hsn := Bx.mk (hsn.out.step hx2 hf10); replace hO := Bx.mk (hO.out.step hx2 hf10); replace hP := Bx.mk (hP.out.step hx2 hf10 hW); replace hpf := Bx.mk hpf; have hT2 := Bx.mk (fun wx (hx : Fr S0 w10 wx) => texts20_any wx (hW.bm.fr0 hx)); have hfd := Bx.mk (Fr.refl S0 w10); clear hx2 hf10 hW; clear x0 hlb; obtain ⟨x0, hlb⟩ := hP.out.b1; clear o0 o1 o2 o3 o4 o5 hol; obtain ⟨o0, o1, o2, o3, o4, o5, hol⟩ := hO.out.row.op6)
            | (go_at_call 25; refine (sets_any _ _).mono ?_; rintro e w11 ⟨rfl, hf11⟩; replace hfd := Bx.mk (hfd.out.trans hf11); replace hP := Bx.mk (hP.out.fr0 hf11); replace hsn := Bx.mk (hsn.out.fr0 hf11); replace hO := Bx.mk (hO.out.fr0 hf11); clear hf11; clear x0 hlb; obtain ⟨x0, hlb⟩ := hP.out.b1; clear o0 o1 o2 o3 o4 o5 hol; obtain ⟨o0, o1, o2, o3, o4, o5, hol⟩ := hO.out.row.op6)
            | (go_at_call 20; refine (hT2.out _ hfd.out).mono ?_; clear hT2; rintro e w12 ⟨kn, rfl, hk12, -, hr12, hf12⟩; obtain ⟨hP12, hnw, hx12⟩ := wb_snap hP.out hf12 hk12 hr12; replace hsn := Bx.mk (hsn.out.step hx12 hf12.up); replace hO := Bx.mk (hO.out.step hx12 hf12.up); replace hP := Bx.mk hP12; replace hnw := Bx.mk hnw; generalize ext ρ2 w11.heap.size kn 0 = ρ3 at *; clear hP12 hx12 hk12 hr12 hf12 hfd; clear x0 hlb; obtain ⟨x0, hlb⟩ := hP.out.b1; clear o0 o1 o2 o3 o4 o5 hol; obtain ⟨o0, o1, o2, o3, o4, o5, hol⟩ := hO.out.row.op6)
            | (go_at_call 30; refine (turned_any _ (sn_row hsn.out) (sn_row hnw.out)).mono ?_; rintro e w13 ⟨nt, rfl, -, -, hf13⟩; replace hP := Bx.mk (hP.out.fr0 hf13); replace hsn := Bx.mk (hsn.out.fr0 hf13); replace hnw := Bx.mk (hnw.out.fr0 hf13); replace hO := Bx.mk (hO.out.fr0 hf13); clear hf13; clear x0 hlb; obtain ⟨x0, hlb⟩ := hP.out.b1; clear o0 o1 o2 o3 o4 o5 hol; obtain ⟨o0, o1, o2, o3, o4, o5, hol⟩ := hO.out.row.op6)
            | (go_at_call 26; refine (work_any _ _ _ _).mono ?_; rintro e _ ⟨rfl, rfl⟩)
            | (go_at_call 27; refine (handed_any _ hP.out.xb (sn_row hnw.out)).mono ?_; rintro e w14 ⟨rfl, hf14⟩; replace hP := Bx.mk (hP.out.fr0 hf14); replace hsn := Bx.mk (hsn.out.fr0 hf14); replace hnw := Bx.mk (hnw.out.fr0 hf14); replace hO := Bx.mk (hO.out.fr0 hf14); clear hf14; clear x0 hlb; obtain ⟨x0, hlb⟩ := hP.out.b1; clear o0 o1 o2 o3 o4 o5 hol; obtain ⟨o0, o1, o2, o3, o4, o5, hol⟩ := hO.out.row.op6)
            | (go_at_call 31; refine (shown_any _ hP.out.xb hP.out.ws.bm).mono ?_; rintro e w15 ⟨rfl, hf15⟩; replace hP := Bx.mk (hP.out.fr0 hf15); replace hsn := Bx.mk (hsn.out.fr0 hf15); replace hnw := Bx.mk (hnw.out.fr0 hf15); replace hO := Bx.mk (hO.out.fr0 hf15); clear hf15; clear x0 hlb; obtain ⟨x0, hlb⟩ := hP.out.b1; clear o0 o1 o2 o3 o4 o5 hol; obtain ⟨o0, o1, o2, o3, o4, o5, hol⟩ := hO.out.row.op6)
            | (go_at_call 32; refine (ghosts_any _ hP.out.ws).mono ?_; rintro e _ ⟨rfl, rfl⟩))
          clear hfw
          by_cases k2 : kd = 2
          · subst k2
            cases hn0 : (n == 0)
            · go_wp2_with (first
                | (go_at_call 28; refine (alike_any _ hP.out.ws).mono ?_; rintro e w20 ⟨rfl, hW20, hf20⟩; replace hnw := Bx.mk (hnw.out.step (Ext.refl _ _) (fr1 hf20)); replace hP := Bx.mk (hP.out.real hf20 hW20); clear hW20 hf20; clear x0 hlb; obtain ⟨x0, hlb⟩ := hP.out.b1)
                | (go_at_call 25; refine (sets_any _ _).mono ?_; rintro e w21 ⟨rfl, hf21⟩; replace hP := Bx.mk (hP.out.fr0 hf21); replace hnw := Bx.mk (hnw.out.fr0 hf21); clear hf21; clear x0 hlb; obtain ⟨x0, hlb⟩ := hP.out.b1))
              go_roundw
              case rel => exact ⟨k + 1, kn, _, _, _, _, _, rfl, rfl, by go_num, by omega, hP, hnw⟩
              case measure => simp [intOf]; omega
            · have hn00 : n = 0 := by simpa using hn0
              have hput : Bx (∀ wx, Fr S0 w15 wx → Calls Tryz.prog 33 #[sl kw 24 24, sl kn 24 24, I a, .string d'.last] wx fun e w' => e = .returned (.bool true) ∧ wx = w') := ⟨fun wx hx => put_law a d'.last wx (hx.row0 (sn_row hsn.out)) (hx.row0 (sn_row hnw.out)) (hpf.out.set rfl hn00)⟩
              have fd : Bx (∀ m, Fr S0 w15 (w15.drewN m)) := ⟨fun m => (Fr.refl S0 w15).drewN m⟩
              obtain ⟨va, vp, vn, hdd⟩ := hP.out.ws.ds
              obtain ⟨c0, c1, c2, c3, c4, c5, hl, hz⟩ := hdd.cells
              clear hdd hz hn00 c0 c1 c2 c4 c5
              generalize d'.last = lst' at c3 hput
              go_wp2_with fail
              go_quiet (first | (go_at_call 33; exact (hput.out _ (fd.out _)).mono (fun e w' h => ⟨h.1, _, h.2.symm⟩)))
              generalize hnq : w15.drewN _ = wn
              have hdn : Bx (Fr S0 w15 wn) := ⟨hnq ▸ fd.out _⟩
              clear hnq hput fd c3 hl
              replace hP := Bx.mk (hP.out.fr0 hdn.out)
              replace hnw := Bx.mk (hnw.out.fr0 hdn.out)
              replace hO := Bx.mk (hO.out.fr0 hdn.out)
              clear hdn
              clear x0 hlb; obtain ⟨x0, hlb⟩ := hP.out.b1
              clear o0 o1 o2 o3 o4 o5 hol; obtain ⟨o0, o1, o2, o3, o4, o5, hol⟩ := hO.out.row.op6
              go_wp2_with (first
                | (go_at_call 28; refine (alike_any _ hP.out.ws).mono ?_; rintro e w20 ⟨rfl, hW20, hf20⟩; replace hnw := Bx.mk (hnw.out.step (Ext.refl _ _) (fr1 hf20)); replace hP := Bx.mk (hP.out.real hf20 hW20); clear hW20 hf20; clear x0 hlb; obtain ⟨x0, hlb⟩ := hP.out.b1)
                | (go_at_call 25; refine (sets_any _ _).mono ?_; rintro e w21 ⟨rfl, hf21⟩; replace hP := Bx.mk (hP.out.fr0 hf21); replace hnw := Bx.mk (hnw.out.fr0 hf21); clear hf21; clear x0 hlb; obtain ⟨x0, hlb⟩ := hP.out.b1))
              go_roundw
              case rel => exact ⟨k + 1, kn, _, _, _, _, _, rfl, rfl, by go_num, by omega, hP, hnw⟩
              case measure => simp [intOf]; omega
          · by_cases k3 : kd = 3
            · subst k3
              obtain ⟨e1, e2⟩ := hpf.out.ed rfl
              have hEd : Bx (Calls Tryz.prog 34 #[sl kw 24 24, sl kn 24 24, .agg (opA 3 a Bv C S1 T1), I n] w15 fun e w' => e = .returned (.bool true) ∧ Fr S0 w15 w') := ⟨by rw [e1]; exact editors_edit a Bv C S1 T1 w15 hTx.out (sn_row hsn.out) (by rw [← e2]; exact sn_row hnw.out)⟩
              clear e1 e2
              go_wp2_with (first
                | (go_at_call 34; refine hEd.out.mono ?_; clear hEd; rintro e w19 ⟨rfl, hf19⟩; replace hP := Bx.mk (hP.out.fr0 hf19); replace hnw := Bx.mk (hnw.out.fr0 hf19); replace hO := Bx.mk (hO.out.fr0 hf19); clear hf19; clear x0 hlb; obtain ⟨x0, hlb⟩ := hP.out.b1; clear o0 o1 o2 o3 o4 o5 hol; obtain ⟨o0, o1, o2, o3, o4, o5, hol⟩ := hO.out.row.op6)
                | (go_at_call 28; refine (alike_any _ hP.out.ws).mono ?_; rintro e w20 ⟨rfl, hW20, hf20⟩; replace hnw := Bx.mk (hnw.out.step (Ext.refl _ _) (fr1 hf20)); replace hP := Bx.mk (hP.out.real hf20 hW20); clear hW20 hf20; clear x0 hlb; obtain ⟨x0, hlb⟩ := hP.out.b1)
                | (go_at_call 25; refine (sets_any _ _).mono ?_; rintro e w21 ⟨rfl, hf21⟩; replace hP := Bx.mk (hP.out.fr0 hf21); replace hnw := Bx.mk (hnw.out.fr0 hf21); clear hf21; clear x0 hlb; obtain ⟨x0, hlb⟩ := hP.out.b1))
              go_roundw
              case rel => exact ⟨k + 1, kn, _, _, _, _, _, rfl, rfl, by go_num, by omega, hP, hnw⟩
              case measure => simp [intOf]; omega
            · by_cases k4 : kd = 4
              · subst k4
                obtain ⟨e1, e2⟩ := hpf.out.cp rfl
                have hEd : Bx (Calls Tryz.prog 34 #[sl kw 24 24, sl kn 24 24, .agg (opA 4 a Bv C S1 T1), I n] w15 fun e w' => e = .returned (.bool true) ∧ Fr S0 w15 w') := ⟨by rw [e1]; exact editors_copy a Bv C S1 T1 w15 hTx.out (sn_row hsn.out) (by rw [← e2]; exact sn_row hnw.out)⟩
                clear e1 e2
                go_wp2_with (first
                  | (go_at_call 34; refine hEd.out.mono ?_; clear hEd; rintro e w19 ⟨rfl, hf19⟩; replace hP := Bx.mk (hP.out.fr0 hf19); replace hnw := Bx.mk (hnw.out.fr0 hf19); replace hO := Bx.mk (hO.out.fr0 hf19); clear hf19; clear x0 hlb; obtain ⟨x0, hlb⟩ := hP.out.b1; clear o0 o1 o2 o3 o4 o5 hol; obtain ⟨o0, o1, o2, o3, o4, o5, hol⟩ := hO.out.row.op6)
                  | (go_at_call 28; refine (alike_any _ hP.out.ws).mono ?_; rintro e w20 ⟨rfl, hW20, hf20⟩; replace hnw := Bx.mk (hnw.out.step (Ext.refl _ _) (fr1 hf20)); replace hP := Bx.mk (hP.out.real hf20 hW20); clear hW20 hf20; clear x0 hlb; obtain ⟨x0, hlb⟩ := hP.out.b1)
                  | (go_at_call 25; refine (sets_any _ _).mono ?_; rintro e w21 ⟨rfl, hf21⟩; replace hP := Bx.mk (hP.out.fr0 hf21); replace hnw := Bx.mk (hnw.out.fr0 hf21); clear hf21; clear x0 hlb; obtain ⟨x0, hlb⟩ := hP.out.b1))
                go_roundw
                case rel => exact ⟨k + 1, kn, _, _, _, _, _, rfl, rfl, by go_num, by omega, hP, hnw⟩
                case measure => simp [intOf]; omega
              · have e2 : (kd == 2) = false := by simp; exact k2
                have e3 : (kd == 3) = false := by simp; exact k3
                have e4 : (kd == 4) = false := by simp; exact k4
                clear k2 k3 k4
                go_wp2_with (first
                  | (go_at_call 28; refine (alike_any _ hP.out.ws).mono ?_; rintro e w20 ⟨rfl, hW20, hf20⟩; replace hnw := Bx.mk (hnw.out.step (Ext.refl _ _) (fr1 hf20)); replace hP := Bx.mk (hP.out.real hf20 hW20); clear hW20 hf20; clear x0 hlb; obtain ⟨x0, hlb⟩ := hP.out.b1)
                  | (go_at_call 25; refine (sets_any _ _).mono ?_; rintro e w21 ⟨rfl, hf21⟩; replace hP := Bx.mk (hP.out.fr0 hf21); replace hnw := Bx.mk (hnw.out.fr0 hf21); clear hf21; clear x0 hlb; obtain ⟨x0, hlb⟩ := hP.out.b1))
                go_roundw
                case rel => exact ⟨k + 1, kn, _, _, _, _, _, rfl, rfl, by go_num, by omega, hP, hnw⟩
                case measure => simp [intOf]; omega
        · have hmkd : decide ((k : Int) < 4398046511104) = false := by simp; omega
          have hge : decide ((len : Int) < 4398046511104) = false := by simp; omega
          clear hmk'
          go_wp2_with fail
          go_ret2
          exact ⟨_, rfl, hfw.out⟩
      · have hlkd : decide ((k : Int) < (len : Int)) = false := by simp; omega
        by_cases hge : len < 4398046511104
        · have hged : decide ((len : Int) < 4398046511104) = true := by simp; omega
          clear hge
          go_wp2_with fail
          go_ret2
          exact ⟨_, rfl, hfw.out⟩
        · have hged : decide ((len : Int) < 4398046511104) = false := by simp; omega
          clear hge
          go_wp2_with fail
          go_ret2
          exact ⟨_, rfl, hfw.out⟩
end Go.Proofs.Qxb6500326aGreat
