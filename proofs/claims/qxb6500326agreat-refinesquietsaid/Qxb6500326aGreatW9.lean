import Derived.Test.Qxb6500326aGreatW7
namespace Go.Proofs.Qxb6500326aGreat
set_option maxRecDepth 100000
set_option linter.unusedVariables false
set_option linter.unusedSimpArgs false
open Go.RowKit Go.PlainAid
/-- What a reading function leaves. -/
abbrev RC (r : Nat) (s : ByteArray) (w : World) (st : PS) (res : PS × Int) : Ending → World → Prop := fun e w' =>
  ∃ v', e = .returned (I res.2) ∧ RD w' r s res.1 v' ∧ Fr (Up r) w w' ∧ st.i ≤ res.1.i ∧ res.1.i ≤ s.size
def OK1 (K : Nat) (r : Nat) (s : ByteArray) (M : Bool → PS → PS × Int) (f : Nat) : Prop :=
  ∀ ranges st v w, RD w r s st v → st.i ≤ s.size → s.size - st.i < f → Calls Tryz.prog K #[pt r, .bool ranges] w (RC r s w st (M ranges st))
theorem look_i (b : Nat → Int) (n : Nat) (st : PS) : (st.look b n).1.i = skip b n st.i := by
  unfold PS.look
  simp only
  split
  · rfl
  · split
    · rfl
    · unfold PS.fail; split <;> rfl
theorem look_pos {b : Nat → Int} {n : Nat} {st : PS} (h : (st.look b n).2 ≠ 0) : (st.look b n).1.i < n ∧ (st.look b n).1.err = 0 := by
  unfold PS.look at *
  simp only at *
  split at h
  · exact absurd rfl h
  · rename_i c
    split at h
    · rename_i c2
      rw [if_neg c, if_pos c2]
      have c3 : ¬ n ≤ skip b n st.i := fun e => c (.inr e)
      exact ⟨by show skip b n st.i < n; omega, by show st.err = 0; exact Classical.byContradiction (fun e => c (.inl e))⟩
    · exact absurd rfl h
theorem look_byte {b : Nat → Int} {n : Nat} {st : PS} (hb : ∀ i, 0 ≤ b i ∧ b i ≤ 255) : 0 ≤ (st.look b n).2 ∧ (st.look b n).2 ≤ 255 := by
  unfold PS.look
  simp only
  split
  · simp
  · split
    · exact hb _
    · simp
theorem add_i (st : PS) (x : Nd) : (st.add x).1.i = st.i := by
  unfold PS.add; split
  · rfl
  · split
    · unfold PS.fail; split <;> rfl
    · rfl
theorem fail_i (st : PS) (e : Int) (p : Nat) : (st.fail e p).i = st.i := by unfold PS.fail; split <;> rfl
theorem fail_ne (st : PS) {e : Int} (he : e ≠ 0) (p : Nat) : (st.fail e p).err ≠ 0 := by
  unfold PS.fail; split
  · exact he
  · assumption
theorem look_any' (r : Nat) (s : ByteArray) (st : PS) (v : Value) (w : World) (h : RD w r s st v) (hi : st.i ≤ s.size) (hs : s.size ≤ 40) :
    Calls Tryz.prog 143 #[pt r] w fun e w' => e = .returned (Y (st.look (bt s) s.size).2) ∧ RD w' r s (st.look (bt s) s.size).1 v ∧ Fr (Up r) w w' ∧ st.i ≤ (st.look (bt s) s.size).1.i ∧ (st.look (bt s) s.size).1.i ≤ s.size :=
  (look_any r s st v w h hi hs).mono (fun e w' g => ⟨g.1, g.2.1, g.2.2, by rw [look_i]; exact le_skip _, by rw [look_i]; exact skip_le hi⟩)
theorem RD.inc {w : World} {r : Nat} {s : ByteArray} {st : PS} {v : Value} (h : RD w r s st v) : RD (w.setCell ⟨r, 1, none⟩ (I ((st.i : Int) + 1))) r s (st.go (st.i + 1)) v := h.go' (st.i + 1) (by omega)
theorem Fr.inc {r : Nat} {w w' : World} (h : Fr (Up r) w w') (k : Nat) (x : Value) : Fr (Up r) w (w'.setCell ⟨r, k, none⟩ x) := h.setCell (.inl (Nat.le_refl r)) x
theorem unaryM_succ (b : Nat → Int) (n : Nat) (ex : Bool → PS → PS × Int) (F m : Nat) (ranges : Bool) (st : PS) :
    unaryM b n ex F (m + 1) ranges st = if (st.look b n).2 = 45 then (unaryM b n ex F m false ((st.look b n).1.go ((st.look b n).1.i + 1))).1.add (nNeg (unaryM b n ex F m false ((st.look b n).1.go ((st.look b n).1.i + 1))).2) else atomM b n ex F ranges (st.look b n).1 := rfl
set_option maxRecDepth 100000 in
set_option maxHeartbeats 2000000 in
theorem unary_any (r : Nat) (s : ByteArray) (hs : s.size ≤ 40) (ex : Bool → PS → PS × Int) (F f : Nat) (hat : OK1 234 r s (atomM (bt s) s.size ex F) f) :
    ∀ m ranges st v w, RD w r s st v → st.i ≤ s.size → s.size - st.i < f → s.size - st.i < m → Calls Tryz.prog 210 #[pt r, .bool ranges] w (RC r s w st (unaryM (bt s) s.size ex F m ranges st)) := by
  intro m
  induction m with
  | zero => intro ranges st v w h h1 h2 h3; omega
  | succ m ih =>
    intro ranges st v w h h1 h2 h3
    have hL := Bx.mk (look_any' r s st v w h h1 hs)
    have hpos := Bx.mk (look_pos (b := bt s) (n := s.size) (st := st))
    have hli := look_i (bt s) s.size st
    have hsk := le_skip (b := bt s) (n := s.size) st.i
    have hsl := skip_le (b := bt s) (n := s.size) h1
    rw [← hli] at hsk hsl
    clear hli
    rw [unaryM_succ]
    generalize st.look (bt s) s.size = l at *
    have hihB := Bx.mk ih
    have hatB := Bx.mk hat
    clear ih hat h
    by_cases hc : l.2 = 45
    · have hcd : (l.2 != 45) = false := by simp [hc]
      have hp := hpos.out (by rw [hc]; decide)
      obtain ⟨hp1, hp2⟩ := hp
      have hrec := Bx.mk (fun v w h => hihB.out false (l.1.go (l.1.i + 1)) v w h (by show l.1.i + 1 ≤ s.size; omega) (by show s.size - (l.1.i + 1) < f; omega) (by show s.size - (l.1.i + 1) < m; omega))
      rw [if_pos hc]
      generalize unaryM (bt s) s.size ex F m false (l.1.go (l.1.i + 1)) = u at *
      have hcB := Bx.mk hc
      clear hc hihB hatB
      go_enter Tryz.func210, Tryz.ntmps210
      go_wp2_with (first
        | (go_at_call 143; refine hL.out.mono ?_; rintro e w1 ⟨rfl, hR, hf, -, -⟩; have c1 := hR.row.cell 1 (by omega); have z1 := hR.row.frozen 1; simp only [rdC] at c1; have hR1 := Bx.mk hR.inc; clear hR)
        | (go_at_call 210; refine (hrec.out _ _ hR1.out).mono ?_; rintro e w2 ⟨v2, rfl, hR2, hf2, i1, i2⟩; have hR2 := Bx.mk hR2)
        | (go_at_call 173; refine (add_any r s u.1 v2 (nNeg u.2) _ hR2.out (by omega)).mono ?_; rintro e w3 ⟨v3, rfl, hR3, hf3⟩))
      go_ret
      refine ⟨v3, rfl, hR3, ((hf.inc 1 _).trans hf2).trans hf3, ?_, ?_⟩
      · rw [add_i]; have : l.1.i + 1 ≤ u.1.i := i1; omega
      · rw [add_i]; exact i2
    · have hcd : (l.2 != 45) = true := by simp [hc]
      rw [if_neg hc]
      clear hc hihB
      go_enter Tryz.func210, Tryz.ntmps210
      go_wp2_with (first
        | (go_at_call 143; refine hL.out.mono ?_; rintro e w1 ⟨rfl, hR, hf, -, -⟩; have hR1 := Bx.mk hR; clear hR)
        | (go_at_call 234; refine (hatB.out ranges l.1 v _ hR1.out hsl (by omega)).mono ?_; rintro e w2 ⟨v2, rfl, hR2, hf2, i1, i2⟩))
      go_ret
      exact ⟨v2, rfl, hR2, hf.trans hf2, by omega, i2⟩
end Go.Proofs.Qxb6500326aGreat
