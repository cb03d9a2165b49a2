import Derived.Test.Qxb6500326aGreatW9
namespace Go.Proofs.Qxb6500326aGreat
set_option maxRecDepth 100000
set_option linter.unusedVariables false
set_option linter.unusedSimpArgs false
open Go.RowKit Go.PlainAid
theorem callLoop_succW (b : Nat → Int) (n : Nat) (ex : Bool → PS → PS × Int) (f : Int) (m : Nat) (st : PS) (link k : Int) (u a l : PS × Int) (hu : ex (rangeOK f) st = u) (ha : u.1.add (nArg u.2 link) = a) (hl : a.1.look b n = l) :
    callLoop b n ex f (m + 1) st link k = if st.err ≠ 0 then (st, link, k) else if l.2 = 44 then callLoop b n ex f m (l.1.go (l.1.i + 1)) a.2 (k + 1) else if l.2 = 41 then (l.1.go (l.1.i + 1), a.2, k + 1) else (l.1.fail 3 l.1.i, a.2, k + 1) := by
  subst hu; subst ha; subst hl; rfl
/-- What a call does behind its arguments. -/
def callEndW (f : Int) (at_ : Nat) (r : PS × Int × Int) : PS × Int := if arity f r.2.2 = true then r.1.add (nCall f r.2.1 r.2.2) else (r.1.fail 6 at_, -1)
theorem callEndW_err {f : Int} {at_ : Nat} {r : PS × Int × Int} (h : r.1.err ≠ 0) : callEndW f at_ r = (r.1, -1) := by
  unfold callEndW; split
  · exact add_err h _
  · rw [fail_err h]
theorem callEndW_i (f : Int) (at_ : Nat) (r : PS × Int × Int) : (callEndW f at_ r).1.i = r.1.i := by
  unfold callEndW; split
  · exact add_i _ _
  · exact fail_i _ _ _
theorem callM_eqW (b : Nat → Int) (n : Nat) (ex : Bool → PS → PS × Int) (F : Nat) (f : Int) (at_ : Nat) (st : PS) (l : PS × Int) (hl : (st.go (st.i + 1)).look b n = l) :
    callM b n ex F f at_ st = if l.2 = 41 then ((l.1.go (l.1.i + 1)).fail 6 at_, -1) else callEndW f at_ (callLoop b n ex f F l.1 (-1) 0) := by
  subst hl; rfl
set_option maxRecDepth 100000 in
set_option maxHeartbeats 40000000 in
theorem call_any (r : Nat) (s : ByteArray) (hs : s.size ≤ 40) (ex : Bool → PS → PS × Int) (F fu : Nat) (hF : s.size < F) (hex : OK1 142 r s ex fu)
    (hmono : ∀ ranges st, st.i ≤ s.size → s.size - st.i < fu → st.i ≤ (ex ranges st).1.i ∧ (ex ranges st).1.i ≤ s.size)
    (f : Int) (at_ : Nat) (st : PS) (v : Value) (w : World) (h : RD w r s st v) (h1 : st.i < s.size) (h2 : s.size - st.i ≤ fu) :
    Calls Tryz.prog 256 #[pt r, I f, I at_] w (RC r s w st (callM (bt s) s.size ex F f at_ st)) := by
  have c1 := h.row.cell 1 (by omega)
  have z1 := h.row.frozen 1
  simp only [rdC] at c1
  have hL0 := Bx.mk (look_any' r s (st.go (st.i + 1)) v _ h.inc (by show st.i + 1 ≤ s.size; omega) hs)
  have hpos0 := Bx.mk (look_pos (b := bt s) (n := s.size) (st := st.go (st.i + 1)))
  have hli := look_i (bt s) s.size (st.go (st.i + 1))
  have hsk0 := le_skip (b := bt s) (n := s.size) (st.i + 1)
  have hsl0 := skip_le (b := bt s) (n := s.size) (show st.i + 1 ≤ s.size from h1)
  rw [show (st.go (st.i + 1)).i = st.i + 1 from rfl] at hli
  rw [← hli] at hsk0 hsl0
  rw [callM_eqW _ _ _ _ _ _ _ _ rfl]
  clear hli h
  generalize (st.go (st.i + 1)).look (bt s) s.size = l0 at *
  have hexB := Bx.mk hex
  have hmB := Bx.mk hmono
  clear hex hmono
  by_cases hc0 : l0.2 = 41
  · have t0 : (l0.2 == 41) = true := by simp [hc0]
    have hp := hpos0.out (by rw [hc0]; decide)
    obtain ⟨hp1, hp2⟩ := hp
    rw [if_pos hc0]
    have hcB := Bx.mk hc0
    clear hc0
    go_enter Tryz.func256, Tryz.ntmps256
    go_wp2_with (first
      | (go_at_call 143; refine hL0.out.mono ?_; rintro e w1 ⟨rfl, hR1, hf1, -, -⟩; have c2 := hR1.row.cell 1 (by omega); have z2 := hR1.row.frozen 1; simp only [rdC] at c2; have hR1 := Bx.mk hR1.inc)
      | (go_at_call 144; refine (fail_any r s (l0.1.go (l0.1.i + 1)) _ 6 at_ _ hR1.out).mono ?_; rintro e w2 ⟨rfl, hR2, hf2⟩))
    go_ret
    exact ⟨v, rfl, hR2, ((((Fr.refl _ _).inc 1 _).trans hf1).inc 1 _).trans hf2, by rw [fail_i]; show st.i ≤ l0.1.i + 1; omega, by rw [fail_i]; exact hp1⟩
  · have t0 : (l0.2 == 41) = false := by simpa using hc0
    rw [if_neg hc0]
    clear hc0
    generalize hR0 : callLoop (bt s) s.size ex f F l0.1 (-1) 0 = R0
    go_enter Tryz.func256, Tryz.ntmps256
    go_wp2_with (first
      | (go_at_call 143; refine hL0.out.mono ?_; rintro e w1 ⟨rfl, hR1, hf1, -, -⟩; have hR1 := Bx.mk hR1))
    have hf1' : Fr (Up r) w w1 := ((Fr.refl _ _).inc 1 _).trans hf1
    go_loopw [7, 8] (fun lk kk wr => ∃ (m : Nat) (st' : PS) (link : Int) (k : Int) (v' : Value), lk = I link ∧ kk = I k ∧ callLoop (bt s) s.size ex f m st' link k = R0 ∧ s.size - st'.i < m ∧ 0 ≤ k ∧ k ≤ st'.i ∧ st.i + 1 ≤ st'.i ∧ st'.i ≤ s.size ∧ RD wr r s st' v' ∧ Fr (Up r) w wr) (fun _ _ wr => s.size - cellN wr ⟨r, 1, none⟩)
    case atStart => exact ⟨F, l0.1, -1, 0, v, rfl, rfl, hR0, by omega, by omega, by omega, hsk0, hsl0, hR1.out, hf1'⟩
    case round =>
      clear hR1 hf1 hf1' hR0 c1 z1 hL0
      obtain ⟨m, st', link, k, v', rfl, rfl, q2, q3, k0, k1, q4, q5, hR, hfr⟩ := hrel
      obtain ⟨m', rfl⟩ : ∃ m', m = m' + 1 := ⟨m - 1, by omega⟩
      have c3 := hR.row.cell 3 (by omega)
      simp only [rdC] at c3
      have hcn : Bx (cellN wr ⟨r, 1, none⟩ = st'.i) := Bx.mk hR.cellN
      rw [callLoop_succW _ _ _ _ _ _ _ _ _ _ _ rfl rfl rfl] at q2
      by_cases he : st'.err = 0
      · have hed : (st'.err == 0) = true := by simpa using he
        rw [if_neg (by simpa using he)] at q2
        have hE := Bx.mk (hexB.out (rangeOK f) st' v' wr hR q5 (by omega))
        have hm := hmB.out (rangeOK f) st' q5 (by omega)
        obtain ⟨m1, m2⟩ := hm
        generalize ex (rangeOK f) st' = u at *
        have hA := Bx.mk (fun v w h => add_any r s u.1 v (nArg u.2 link) w h (by omega))
        have hai := add_i u.1 (nArg u.2 link)
        have hL := Bx.mk (fun v w h => look_any r s (u.1.add (nArg u.2 link)).1 v w h (by rw [add_i]; omega) hs)
        generalize u.1.add (nArg u.2 link) = a at *
        have hpos := Bx.mk (look_pos (b := bt s) (n := s.size) (st := a.1))
        have hli := look_i (bt s) s.size a.1
        have hsk := le_skip (b := bt s) (n := s.size) a.1.i
        have hsl := skip_le (b := bt s) (n := s.size) (show a.1.i ≤ s.size from by omega)
        rw [← hli] at hsk hsl
        clear hli hR he
        generalize a.1.look (bt s) s.size = l at *
        by_cases hc : l.2 = 44
        · have t44 : (l.2 == 44) = true := by simp [hc]
          have hp := hpos.out (by rw [hc]; decide)
          obtain ⟨hp1, hp2⟩ := hp
          rw [if_pos hc] at q2
          have q2B := Bx.mk q2
          clear q2 hc hpos
          go_wp2_with (first
    | (go_at_call 213; refine (rangeOK_any _ _).mono ?_; rintro e w1 ⟨rfl, rfl⟩)
    | (go_at_call 142; refine hE.out.mono ?_; clear hE; rintro e w2 ⟨v2, rfl, hR2, hf2, i1, i2⟩; have hR2 := Bx.mk hR2)
    | (go_at_call 173; refine (hA.out _ _ hR2.out).mono ?_; clear hA; rintro e w3 ⟨v3, rfl, hR3, hf3⟩; have hR3 := Bx.mk hR3)
    | (go_at_call 143; refine (hL.out _ _ hR3.out).mono ?_; clear hL; rintro e w4 ⟨rfl, hR4, hf4⟩; have hR4 := Bx.mk hR4; have c1 := hR4.out.row.cell 1 (by omega); have z1 := hR4.out.row.frozen 1; simp only [rdC] at c1))
          go_roundw
          case rel => exact ⟨m', l.1.go (l.1.i + 1), a.2, k + 1, v3, rfl, by go_num, q2B.out, by show s.size - (l.1.i + 1) < m'; omega, by omega, by show k + 1 ≤ ((l.1.i + 1 : Nat) : Int); omega, by show st.i + 1 ≤ l.1.i + 1; omega, by show l.1.i + 1 ≤ s.size; omega, hR4.out.inc, ((((hfr.trans hf2).trans hf3).trans hf4).inc 1 _)⟩
          case measure => rw [hcn.out, hR4.out.inc.cellN]; show s.size - (l.1.i + 1) < s.size - st'.i; omega
        · have t44 : (l.2 == 44) = false := by simpa using hc
          rw [if_neg hc] at q2
          by_cases hc2 : l.2 = 41
          · have t41 : (l.2 != 41) = false := by simp [hc2]
            have hp := hpos.out (by rw [hc2]; decide)
            obtain ⟨hp1, hp2⟩ := hp
            rw [if_pos hc2] at q2
            have q2B := Bx.mk q2
            clear q2 hc hpos hc2
            cases har : arity f (k + 1)
            · have hans := Bx.mk (show callEndW f at_ R0 = ((l.1.go (l.1.i + 1)).fail 6 at_, -1) from by rw [← q2B.out]; unfold callEndW; rw [if_neg (by rw [har]; decide)])
              have harB := Bx.mk har
              clear har
              go_wp2_with (first
                | (go_at_call 213; refine (rangeOK_any _ _).mono ?_; rintro e w1 ⟨rfl, rfl⟩)
                | (go_at_call 142; refine hE.out.mono ?_; clear hE; rintro e w2 ⟨v2, rfl, hR2, hf2, i1, i2⟩; have hR2 := Bx.mk hR2)
                | (go_at_call 173; refine (hA.out _ _ hR2.out).mono ?_; clear hA; rintro e w3 ⟨v3, rfl, hR3, hf3⟩; have hR3 := Bx.mk hR3)
                | (go_at_call 143; refine (hL.out _ _ hR3.out).mono ?_; clear hL; rintro e w4 ⟨rfl, hR4, hf4⟩; have hR4 := Bx.mk hR4; have c1 := hR4.out.row.cell 1 (by omega); have z1 := hR4.out.row.frozen 1; simp only [rdC] at c1)
                | (go_at_call 212; refine (arity_any _ _ _).mono ?_; rintro e w9 ⟨rfl, rfl⟩; rw [harB.out])
                | (go_at_call 144; refine (fail_any r s (l.1.go (l.1.i + 1)) _ 6 at_ _ hR4.out.inc).mono ?_; rintro e w8 ⟨rfl, hR8, hf8⟩))
              go_ret
              rw [hans.out]
              exact ⟨_, rfl, hR8, (((((hfr.trans hf2).trans hf3).trans hf4)).inc 1 _).trans hf8, by rw [fail_i]; show st.i ≤ l.1.i + 1; omega, by rw [fail_i]; show l.1.i + 1 ≤ s.size; omega⟩
            · have hans := Bx.mk (show callEndW f at_ R0 = (l.1.go (l.1.i + 1)).add (nCall f a.2 (k + 1)) from by rw [← q2B.out]; unfold callEndW; rw [if_pos har])
              have harB := Bx.mk har
              clear har
              go_wp2_with (first
                | (go_at_call 213; refine (rangeOK_any _ _).mono ?_; rintro e w1 ⟨rfl, rfl⟩)
                | (go_at_call 142; refine hE.out.mono ?_; clear hE; rintro e w2 ⟨v2, rfl, hR2, hf2, i1, i2⟩; have hR2 := Bx.mk hR2)
                | (go_at_call 173; refine (hA.out _ _ hR2.out).mono ?_; clear hA; rintro e w3 ⟨v3, rfl, hR3, hf3⟩; have hR3 := Bx.mk hR3)
                | (go_at_call 143; refine (hL.out _ _ hR3.out).mono ?_; clear hL; rintro e w4 ⟨rfl, hR4, hf4⟩; have hR4 := Bx.mk hR4; have c1 := hR4.out.row.cell 1 (by omega); have z1 := hR4.out.row.frozen 1; simp only [rdC] at c1)
                | (go_at_call 212; refine (arity_any _ _ _).mono ?_; rintro e w9 ⟨rfl, rfl⟩; rw [harB.out])
                | (go_at_call 173; refine (add_any r s (l.1.go (l.1.i + 1)) _ (nCall f a.2 (k + 1)) _ hR4.out.inc (by show l.1.i + 1 ≤ 40; omega)).mono ?_; rintro e w8 ⟨v8, rfl, hR8, hf8⟩))
              go_ret
              rw [hans.out]
              exact ⟨_, rfl, hR8, (((((hfr.trans hf2).trans hf3).trans hf4)).inc 1 _).trans hf8, by rw [add_i]; show st.i ≤ l.1.i + 1; omega, by rw [add_i]; show l.1.i + 1 ≤ s.size; omega⟩
          · have t41 : (l.2 != 41) = true := by simpa using hc2
            rw [if_neg hc2] at q2
            have hans := Bx.mk (show callEndW f at_ R0 = (l.1.fail 3 l.1.i, -1) from by rw [← q2, callEndW_err (fail_ne _ (by decide) _)])
            clear q2 hc hpos hc2
            go_wp2_with (first
    | (go_at_call 213; refine (rangeOK_any _ _).mono ?_; rintro e w1 ⟨rfl, rfl⟩)
    | (go_at_call 142; refine hE.out.mono ?_; clear hE; rintro e w2 ⟨v2, rfl, hR2, hf2, i1, i2⟩; have hR2 := Bx.mk hR2)
    | (go_at_call 173; refine (hA.out _ _ hR2.out).mono ?_; clear hA; rintro e w3 ⟨v3, rfl, hR3, hf3⟩; have hR3 := Bx.mk hR3)
    | (go_at_call 143; refine (hL.out _ _ hR3.out).mono ?_; clear hL; rintro e w4 ⟨rfl, hR4, hf4⟩; have hR4 := Bx.mk hR4; have c1 := hR4.out.row.cell 1 (by omega); have z1 := hR4.out.row.frozen 1; simp only [rdC] at c1)
              | (go_at_call 144; refine (fail_any r s l.1 _ 3 l.1.i _ hR4.out).mono ?_; rintro e w5 ⟨rfl, hR5, hf5⟩))
            go_ret
            rw [hans.out]
            exact ⟨_, rfl, hR5, (((hfr.trans hf2).trans hf3).trans hf4).trans hf5, by rw [fail_i]; omega, by rw [fail_i]; omega⟩
      · have hed : (st'.err == 0) = false := by simpa using he
        rw [if_pos he] at q2
        have q2B := Bx.mk q2
        have hRB := Bx.mk hR
        clear q2 he hR
        cases har : arity f k
        · have hans := Bx.mk (show callEndW f at_ R0 = (st'.fail 6 at_, -1) from by rw [← q2B.out]; unfold callEndW; rw [if_neg (by rw [har]; decide)])
          have harB := Bx.mk har
          clear har
          go_wp2_with (first
            | (go_at_call 212; refine (arity_any _ _ _).mono ?_; rintro e w9 ⟨rfl, rfl⟩; rw [harB.out])
            | (go_at_call 144; refine (fail_any r s st' _ 6 at_ _ hRB.out).mono ?_; rintro e w8 ⟨rfl, hR8, hf8⟩))
          go_ret
          rw [hans.out]
          exact ⟨_, rfl, hR8, hfr.trans hf8, by rw [fail_i]; omega, by rw [fail_i]; omega⟩
        · have hans := Bx.mk (show callEndW f at_ R0 = st'.add (nCall f link k) from by rw [← q2B.out]; unfold callEndW; rw [if_pos har])
          have harB := Bx.mk har
          clear har
          go_wp2_with (first
            | (go_at_call 212; refine (arity_any _ _ _).mono ?_; rintro e w9 ⟨rfl, rfl⟩; rw [harB.out])
            | (go_at_call 173; refine (add_any r s st' _ (nCall f link k) _ hRB.out (by omega)).mono ?_; rintro e w8 ⟨v8, rfl, hR8, hf8⟩))
          go_ret
          rw [hans.out]
          exact ⟨_, rfl, hR8, hfr.trans hf8, by rw [add_i]; omega, by rw [add_i]; omega⟩
end Go.Proofs.Qxb6500326aGreat
