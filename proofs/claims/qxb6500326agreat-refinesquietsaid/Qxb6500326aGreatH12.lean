import Derived.Test.Qxb6500326aGreatH11
import Derived.Test.Qxb6500326aGreatJ6
import Derived.Lib.LazyBuf
namespace Go.Proofs.Qxb6500326aGreat
set_option maxRecDepth 100000
set_option linter.unusedVariables false
set_option linter.unusedSimpArgs false
open Go.RowKit Go.PlainAid
theorem wpList_copy_str {w : World} {ops : Array Oper} {rest : List Oper} {o : Oper} {a : Act} {Q : Exit → Act → World → Prop} (hgd : o.guard = none) (d x : Operand)
    (ho : o.op = .call { callee := .builtin .copy, args := #[d, x], argTypes := #[81, 9] }) (b off dLen dCap : Nat) (hd : a.eval d = .slice (some ⟨b, off, none⟩) dLen dCap) (t : ByteArray) (hx : a.eval x = .string t) (hle : t.size ≤ dLen)
    (hc : ∀ j, j < t.size → (w.cell? ⟨b, off + j, none⟩).isSome = true) (hf : ∀ j, j < t.size → w.frozen? ⟨b, off + j, none⟩ = false)
    (h : ∀ w', w' = w.setCells b off ((lst t).map (Value.int .u8)) → wpList Tryz.prog ops Q rest (a.put o.dst (.int .i64 (t.size : Int))) w') : wpList Tryz.prog ops Q (o :: rest) a w := by
  refine wpList_plain hgd fun K hK => ?_
  have hrun := run_copy_string (P := Tryz.prog) w 81 9 o.type 5 b off dLen dCap t Tryz.underlying81 (fun w => by rfl) hle hc hf
  have e : (t.data.toList.map fun x => Value.int .u8 (x.toNat : Int)) = (lst t).map (Value.int .u8) := by unfold lst; rw [List.map_map]; rfl
  rw [e] at hrun
  unfold Oper.wp
  simp [execOp, ho, resolve, invoke, builtin, hd, hx, hrun, Result.andThen]
  exact hK _ _ (h _ rfl)
theorem row_sets {b n : Nat} : ∀ (us : List Value) (o : Nat) (w : World) (vs : Nat → Value), Row w b n vs → Row (w.setCells b o us) b n (fun j => if o ≤ j then us[j - o]?.getD (vs j) else vs j)
  | [], o, w, vs, h => h.congr (fun j _ => by split <;> simp)
  | u :: r, o, w, vs, h => by
    refine (row_sets r (o + 1) _ _ (h.set o u)).congr (fun j _ => ?_)
    by_cases h1 : j = o
    · subst h1
      rw [if_neg (by omega), if_pos (Nat.le_refl _), Nat.sub_self, upd_same]; rfl
    · by_cases h2 : o + 1 ≤ j
      · rw [if_pos h2, if_pos (by omega), show j - o = (j - (o + 1)) + 1 by omega, List.getElem?_cons_succ, upd_other _ _ h1]
      · rw [if_neg h2, if_neg (by omega), upd_other _ _ h1]
theorem fr_sets' {S : Nat → Prop} {b : Nat} {a : World} (hb : S b) : ∀ (us : List Value) (o : Nat) (w : World), Fr S a w → Fr S a (w.setCells b o us)
  | [], o, w, h => h
  | u :: r, o, w, h => fr_sets' hb r (o + 1) _ (h.setCell (p := ⟨b, o, none⟩) (.inl hb) u)
section
variable {w w' : World} {R : RA} {A : XA} {base u r : Nat} {tu : Nat → BitVec 32} {po wt : Nat → ByteArray} {T : Tx} {H : Nat → Tx}
set_option maxHeartbeats 2000000 in
theorem bkValue_w (c : Int) (y : Vl) (w : World) (h : BK w R A T H u r) (hV : ∀ w', Fr S0 w w' → Calls Tryz.prog 63 #[pt A.xe, I c] w' (VR w' y)) : Calls Tryz.prog 82 #[pt R.bk, I c] w (VR w y) := by
  have h1 := Bx.mk (hV _ (fr_zero w 92))
  have hfr := Bx.mk (fr_zero w 92)
  have hz := Bx.mk (v_zero w 92 rfl)
  obtain ⟨c0, c4, c5, hl⟩ := h.cell
  clear h hV
  go_enter Tryz.func82, Tryz.ntmps82
  go_wp2_with (first
    | (go_at_call 63; refine h1.out.mono ?_; clear h1; rintro e w1 ⟨rfl, hf⟩; have hz1 := Bx.mk (hf.row0 hz.out); obtain ⟨c0, c1, c2, y0, y1, y2⟩ := hz1.out.v3))
  exact ret_vs (x := y) (p := 4) rfl rfl rfl hz1.out (hfr.out.trans hf) (Nat.le_refl _) rfl
theorem bkValue_any (w : World) (h : BK w R A T H u r) : ∃ E, Sheet T E ∧ ∀ (c : Int) w', Fr S0 w w' → Calls Tryz.prog 82 #[pt R.bk, I c] w' (VR w' (valP E c)) := by
  obtain ⟨E, hS, hV⟩ := xb_val h.ed
  exact ⟨E, hS, fun c w' f => bkValue_w c _ w' (h.fr0 f) (fun w2 f2 => hV c w2 (f.trans f2))⟩
/-- The buffer turns alone. -/
theorem BK.buf (h : BK w R A T H u r) (f : Fr (fun k => k = R.ob) w w') (hb : ∃ g : Nat → Int, Row w' R.ob 1056 (fun i => .int .u8 (g i))) : BK w' R A T H u r := by
  obtain ⟨base, tu, po, wt, h1, h2⟩ := h.rg
  exact ⟨h.xe, h.ed.fr f (fun k hk e => h.ap k (.inr (.inr (.inr (.inr e)))) hk), ⟨base, tu, po, wt, ⟨f.row h1.obj h1.n.n4, f.row h1.po h1.n.n7, f.row h1.tu h1.n.n9, f.row h1.wa h1.n.n10, hb, h1.n⟩, h2⟩, h.cur, h.sm, h.ap⟩
/-- A list's bytes lie at the buffer's head. -/
def Hd (w : World) (b : Nat) (L : List Int) : Prop := ∃ g : Nat → Int, Row w b 1056 (fun i => .int .u8 (g i)) ∧ ∀ (j : Nat) (x : Int), L[j]? = some x → g j = x
theorem hd_put {b n : Nat} {L M : List Int} {a0 a1 a2 a3 : Int} (h : Hd w b L) (hn : L.length = n) (hm : n + 4 + M.length ≤ 1056) : Hd (((((w.setCell ⟨b, n, none⟩ (.int .u8 a0)).setCell ⟨b, n + 1, none⟩ (.int .u8 a1)).setCell ⟨b, n + 2, none⟩ (.int .u8 a2)).setCell ⟨b, n + 3, none⟩ (.int .u8 a3)).setCells b (n + 4) (M.map (Value.int .u8))) b (L ++ ([a0, a1, a2, a3] ++ M)) := by
  obtain ⟨g, hr, hg⟩ := h
  have h1 := row_sets (M.map (Value.int .u8)) (n + 4) _ _ ((((hr.set n (.int .u8 a0)).set (n + 1) (.int .u8 a1)).set (n + 2) (.int .u8 a2)).set (n + 3) (.int .u8 a3))
  refine ⟨fun j => ((L ++ ([a0, a1, a2, a3] ++ M))[j]?).getD (g j), h1.congr (fun j hj => ?_), fun j x hx => by show Option.getD _ _ = x; rw [hx]; rfl⟩
  show _ = Value.int .u8 (((L ++ ([a0, a1, a2, a3] ++ M))[j]?).getD (g j))
  rcases Nat.lt_or_ge j n with c1 | c1
  · rw [if_neg (by omega), upd_other _ _ (by omega), upd_other _ _ (by omega), upd_other _ _ (by omega), upd_other _ _ (by omega), List.getElem?_append_left (by omega)]
    have hj2 : j < L.length := by omega
    have := hg j L[j] (List.getElem?_eq_getElem hj2)
    rw [List.getElem?_eq_getElem hj2, this]; rfl
  · rw [List.getElem?_append_right (by omega), hn]
    rcases Nat.lt_or_ge j (n + 4) with c2 | c2
    · rw [if_neg (by omega)]
      have : j = n ∨ j = n + 1 ∨ j = n + 2 ∨ j = n + 3 := by omega
      rcases this with e | e | e | e <;> subst e
      · rw [upd_other _ _ (by omega), upd_other _ _ (by omega), upd_other _ _ (by omega), upd_same, Nat.sub_self]; rfl
      · rw [upd_other _ _ (by omega), upd_other _ _ (by omega), upd_same, show n + 1 - n = 1 by omega]; rfl
      · rw [upd_other _ _ (by omega), upd_same, show n + 2 - n = 2 by omega]; rfl
      · rw [upd_same, show n + 3 - n = 3 by omega]; rfl
    · rw [if_pos c2, upd_other _ _ (by omega), upd_other _ _ (by omega), upd_other _ _ (by omega), upd_other _ _ (by omega), List.getElem?_append_right (by show 4 ≤ _; omega), List.getElem?_map]
      have e4 : j - n - [a0, a1, a2, a3].length = j - (n + 4) := by show j - n - 4 = _; omega
      rw [e4]
      cases hM : M[j - (n + 4)]?
      · rfl
      · rfl
set_option maxHeartbeats 16000000 in
theorem bkSave_any (w : World) (h : BK w R A T H u r) : Calls Tryz.prog 85 #[pt R.bk] w fun e w' => e = .returned (.string (bs (savFrom T 0))) ∧ BK w' R A T H u r ∧ Fr (SBk R A) w w' := by
  have hT : Bx (TxO T) := ⟨h.tx⟩
  have hst0 : Bx (Hd w R.ob []) := ⟨by
    obtain ⟨base, tu, po, wt, h1, h2⟩ := h.rg
    obtain ⟨g, hg⟩ := h1.ou
    exact ⟨g, hg, fun j x hx => by simp at hx⟩⟩
  have hR : Bx (∀ wx, Fr (fun k => k = R.ob) w wx → (∃ L, Hd wx R.ob L) → wx.cell? ⟨R.bk, 0, none⟩ = some (pt A.xe) ∧ wx.cell? ⟨R.bk, 7, none⟩ = some (sl R.ob 1056 1056) ∧ R.bk < wx.heap.size ∧ R.bk ≠ R.ob ∧ BK wx R A T H u r ∧ ∀ k : Nat, k < 24 → Calls Tryz.prog 52 #[pt A.xe, I k] wx fun e w' => e = .returned (.string (T k)) ∧ wx = w') := ⟨fun wx hx hL => by
    obtain ⟨L, g, hg, -⟩ := hL
    have hb := h.buf hx ⟨g, hg⟩
    obtain ⟨base, tu, po, wt, h1, h2⟩ := hb.rg
    obtain ⟨c0, c1, c2, c3, c4, c5, c6, c7, hl, -⟩ := h1.c8
    rw [hb.xe] at c0
    exact ⟨c0, c7, hl, h1.n.n4, hb, fun k hk => by have := xb_raw hb.ed (k : Int); rw [rawP_at hk] at this; exact this⟩⟩
  clear h
  go_enter Tryz.func85, Tryz.ntmps85
  go_wp2_with fail
  go_loopw [3, 4] (fun n c wr => ∃ (k n' : Nat) (L : List Int), k ≤ 24 ∧ n' ≤ k * 44 ∧ n = I (n' : Int) ∧ c = I (k : Int) ∧ Bx (L.length = n') ∧ Bx (L ++ savFrom T k = savFrom T 0) ∧ Bx (Hd wr R.ob L) ∧ Bx (Fr (fun k => k = R.ob) w wr)) (fun _ c _ => 24 - (intOf c).toNat)
  case atStart => exact ⟨0, 0, [], by omega, by omega, rfl, rfl, ⟨rfl⟩, ⟨rfl⟩, hst0, ⟨Fr.refl _ _⟩⟩
  case round =>
    clear hst0
    obtain ⟨k, n, L, hk, hn, rfl, rfl, hLn, hL, hH, hf⟩ := hrel
    obtain ⟨c0, c7, hl, hne, hb, hv⟩ := hR.out wr hf.out ⟨L, hH.out⟩
    replace hb := Bx.mk hb
    cases hlt : decide ((k : Int) < 24)
    · have hk24 : Bx (k = 24) := ⟨by simp at hlt; omega⟩
      have hcs : Bx (∀ j (h : j < L.length), wr.cell? ⟨R.ob, 0 + j, none⟩ = some (Y L[j])) := ⟨fun j hj => by
        obtain ⟨g, hg, he⟩ := hH.out
        rw [Nat.zero_add, hg.cell j (by have := hLn.out; omega), he j _ (List.getElem?_eq_getElem hj)]⟩
      have hnI : (n : Int) ≤ 1056 := by omega
      clear hv
      go_wp2_with (first
        | (refine wpList_bytes_str rfl (.tmp 82) (by rfl) R.ob 0 n 1056 L (by rfl) hLn.out hcs.out ?_))
      go_ret
      refine ⟨?_, hb.out, hf.out.mono (fun k hk => .inl (.inr (.inr (.inr (.inr hk)))))⟩
      rw [← hL.out, hk24.out, savFrom_end (Nat.le_refl _), List.append_nil] <;> rfl
    · have hk24 : k < 24 := by simp at hlt; omega
      have hkI : (k : Int) < 24 := by omega
      replace hv := Bx.mk (hv k hk24)
      have hsz := hT.out.size k
      have hst := Bx.mk (savFrom_step (T := T) hk24)
      by_cases h0 : (T k).size = 0
      · have hq := es_size h0
        have hL2 : Bx (L ++ savFrom T (k + 1) = savFrom T 0) := ⟨by rw [← hL.out, hst.out, piece_none h0]; rfl⟩
        clear h0 hL hst
        generalize T k = y at *
        go_wp2_with (first | (go_at_call 52; refine hv.out.mono ?_; clear hv; rintro e _ ⟨rfl, rfl⟩))
        go_roundw
        case rel => exact ⟨k + 1, n, L, by omega, by omega, rfl, by go_num, hLn, hL2, hH, hf⟩
        case measure => simp [intOf]; omega
      · have hq := es_size' h0
        have hL2 : Bx ((L ++ ([48 + (k : Int) / 10, 48 + (k : Int) % 10, 48 + ((T k).size : Int) / 10, 48 + ((T k).size : Int) % 10] ++ lst (T k))) ++ savFrom T (k + 1) = savFrom T 0) := ⟨by rw [← hL.out, hst.out, piece_some h0, d2_int, d2_int]; simp [List.append_assoc]⟩
        have hll : Bx ((L ++ ([48 + (k : Int) / 10, 48 + (k : Int) % 10, 48 + ((T k).size : Int) / 10, 48 + ((T k).size : Int) % 10] ++ lst (T k))).length = n + 4 + (T k).size) := ⟨by simp only [List.length_append, lst_len', hLn.out, List.length_cons, List.length_nil]; omega⟩
        have hlm : (lst (T k)).length = (T k).size := lst_len' _
        clear h0 hL hst
        generalize T k = y at *
        have hnI : (n : Int) ≤ 1012 := by omega
        have a0 : (0 : Int) ≤ (k : Int) / 10 := by omega
        have a1 : (k : Int) / 10 ≤ 9 := by omega
        have a2 : (0 : Int) ≤ (k : Int) % 10 := by omega
        have a3 : (k : Int) % 10 ≤ 9 := by omega
        have a4 : (0 : Int) ≤ (y.size : Int) / 10 := by omega
        have a5 : (y.size : Int) / 10 ≤ 9 := by omega
        have a6 : (0 : Int) ≤ (y.size : Int) % 10 := by omega
        have a7 : (y.size : Int) % 10 ≤ 9 := by omega
        have hyI : (y.size : Int) ≤ 40 := by omega
        obtain ⟨g, hg, hge⟩ := hH.out
        have m0 := hg.cell n (by omega)
        have m1 := hg.cell (n + 1) (by omega)
        have m2 := hg.cell (n + 2) (by omega)
        have m3 := hg.cell (n + 3) (by omega)
        have z0 := hg.frozen n
        have z1 := hg.frozen (n + 1)
        have z2 := hg.frozen (n + 2)
        have z3 := hg.frozen (n + 3)
        have hol := hg.lt
        have hr4 := (((hg.set n (.int .u8 (48 + (k : Int) / 10))).set (n + 1) (.int .u8 (48 + (k : Int) % 10))).set (n + 2) (.int .u8 (48 + (y.size : Int) / 10))).set (n + 3) (.int .u8 (48 + (y.size : Int) % 10))
        have hcc := Bx.mk (fun j (hj : j < y.size) => show ((((((wr.setCell ⟨R.ob, n, none⟩ (.int .u8 (48 + (k : Int) / 10))).setCell ⟨R.ob, n + 1, none⟩ (.int .u8 (48 + (k : Int) % 10))).setCell ⟨R.ob, n + 2, none⟩ (.int .u8 (48 + (y.size : Int) / 10))).setCell ⟨R.ob, n + 3, none⟩ (.int .u8 (48 + (y.size : Int) % 10)))).cell? ⟨R.ob, n + 4 + j, none⟩).isSome = true by rw [hr4.cell (n + 4 + j) (by omega)]; rfl)
        have hcf := Bx.mk (fun j (hj : j < y.size) => hr4.frozen (n + 4 + j))
        have hH2 := Bx.mk (hd_put (M := lst y) (a0 := 48 + (k : Int) / 10) (a1 := 48 + (k : Int) % 10) (a2 := 48 + (y.size : Int) / 10) (a3 := 48 + (y.size : Int) % 10) hH.out hLn.out (by omega))
        have hf2 : Bx (Fr (fun k => k = R.ob) w (((((wr.setCell ⟨R.ob, n, none⟩ (.int .u8 (48 + (k : Int) / 10))).setCell ⟨R.ob, n + 1, none⟩ (.int .u8 (48 + (k : Int) % 10))).setCell ⟨R.ob, n + 2, none⟩ (.int .u8 (48 + (y.size : Int) / 10))).setCell ⟨R.ob, n + 3, none⟩ (.int .u8 (48 + (y.size : Int) % 10))).setCells R.ob (n + 4) ((lst y).map (Value.int .u8)))) := ⟨fr_sets' (S := fun k => k = R.ob) rfl _ _ _ ((((hf.out.setCell (p := ⟨R.ob, n, none⟩) (.inl rfl) _).setCell (p := ⟨R.ob, n + 1, none⟩) (.inl rfl) _).setCell (p := ⟨R.ob, n + 2, none⟩) (.inl rfl) _).setCell (p := ⟨R.ob, n + 3, none⟩) (.inl rfl) _)⟩
        clear hr4 hg hge hH hf
        go_wp2_with (first
          | (go_at_call 52; refine hv.out.mono ?_; clear hv; rintro e _ ⟨rfl, rfl⟩)
          | (refine (?_ : wpList _ _ _ (⟨some 71, _, _, _, _, _⟩ :: _) _ _); go_loud (refine wpList_copy_str rfl (.tmp 69) (.tmp 70) rfl R.ob (n + 4) (1056 - (n + 4)) (1056 - (n + 4)) rfl y rfl (by omega) hcc.out hcf.out ?_); intro w5 hw5; rw [← hw5] at hH2 hf2; clear hw5 hcc hcf))
        go_roundw
        case rel => exact ⟨k + 1, n + 4 + y.size, _, by omega, by omega, by go_num, by go_num, hll, hL2, hH2, hf2⟩
        case measure => simp [intOf]; omega
end
end Go.Proofs.Qxb6500326aGreat
