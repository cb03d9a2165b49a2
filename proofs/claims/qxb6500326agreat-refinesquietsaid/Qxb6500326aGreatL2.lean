import Derived.Test.Qxb6500326aGreatL1
namespace Go.Proofs.Qxb6500326aGreat
set_option maxRecDepth 100000
set_option linter.unusedVariables false
set_option linter.unusedSimpArgs false
open Go.RowKit Go.PlainAid
section
variable {w w' : World} {ρ ρ' : Nat → Nat} {c : Nat} {v : Value} {L : List Tx} {T : Tx}
theorem lt_ready {kw : Nat} (h : LT w ρ c v L) (hs : Sn w ρ (sl kw 24 24) T) (hL : L.length ≤ 6) (hc : c ≠ 0) : ∃ ks, LV (w.alloc (.cells #[sl kw 24 24] 38)) ρ c v ks ∧ ks.length ≤ 100 ∧ (w.alloc (.cells #[sl kw 24 24] 38)).cell? ⟨w.heap.size, 0, none⟩ = some (sl kw 24 24) ∧
    ∀ v1 w1 ρ1, Ext (w.alloc (.cells #[sl kw 24 24] 38)) ρ ρ1 → LV w1 ρ1 c v1 (ks ++ [sl kw 24 24]) → Fr (Cq ρ c) (w.alloc (.cells #[sl kw 24 24] 38)) w1 → LT w1 ρ1 c v1 (L ++ [T]) ∧ Fr (Cq ρ c) w w1 ∧ Ext w ρ ρ1 := by
  obtain ⟨ks, hLV, h2, h3⟩ := h
  have hfa : Fr S0 w (w.alloc (.cells #[sl kw 24 24] 38)) := (Fr.refl S0 w).alloc _
  refine ⟨ks, hLV.fr hfa (fun _ _ e => e) (Ext.refl _ _), by omega, cell_one w (sl kw 24 24) 38, fun v1 w1 ρ1 hx hl hf => ⟨LT.push h2 (fun i S hi => by obtain ⟨z, hz, hq⟩ := h3 i S hi; exact ⟨z, hz, hq.fr hfa (fun _ _ e => e) (Ext.refl _ _)⟩) (hs.fr hfa (fun _ _ e => e) (Ext.refl _ _)) hx hl hf hc, hfa.up.trans hf, fun k hk => hx k (by have := hfa.size; omega)⟩⟩
/-- What Push leaves. -/
def PushP (w : World) (ρ : Nat → Nat) (c : Nat) (L : List Tx) : Ending → World → Prop := fun e w' => ∃ v', e = .returned v' ∧ (∃ ρ', Ext w ρ ρ' ∧ LT w' ρ' c v' L) ∧ Fr (Cq ρ c) w w'
set_option maxHeartbeats 4000000 in
theorem push_few {kw : Nat} (w : World) (h : LT w ρ c v L) (hs : Sn w ρ (sl kw 24 24) T) (hL : L.length < 6) (hc : c ≠ 0) : Calls Tryz.prog 93 #[v, sl kw 24 24] w (PushP w ρ c (L ++ [T])) := by
  obtain ⟨ks, hLV1, hks, hcell, hkey⟩ := lt_ready h hs (by omega) hc
  obtain ⟨q, hq⟩ : ∃ q, L.length = q := ⟨_, rfl⟩
  obtain ⟨ao, cap, rfl⟩ := h.shape hq
  have hqd : decide ((6 : Int) ≤ (q : Int)) = false := decide_eq_false (by omega)
  replace hLV1 := Bx.mk hLV1
  replace hks := Bx.mk hks
  replace hcell := Bx.mk hcell
  replace hkey := Bx.mk hkey
  clear h hs hL hq
  go_enter Tryz.func93, Tryz.ntmps93
  go_wp2_with (first | (at_builtin; refine wpList_append_lv rfl _ _ _ rfl hLV1.out rfl hks.out _ 1 (sl kw 24 24) rfl hcell.out rfl ?_; intro v1 w1 ρ1 hx1 hlv1 hfr1; obtain ⟨hlt1, hfm1, hext1⟩ := hkey.out v1 w1 ρ1 hx1 hlv1 hfr1; clear hkey hcell hLV1 hx1 hlv1 hfr1; replace hlt1 := Bx.mk hlt1; replace hfm1 := Bx.mk hfm1; replace hext1 := Bx.mk hext1))
  go_ret
  exact ⟨_, rfl, ⟨ρ1, hext1.out, hlt1.out⟩, hfm1.out⟩
def ls6 (kk : Nat → Nat) : List Value := [sl (kk 0) 24 24, sl (kk 1) 24 24, sl (kk 2) 24 24, sl (kk 3) 24 24, sl (kk 4) 24 24, sl (kk 5) 24 24]
def shL (kk : Nat → Nat) (p : Nat) : List Value := ((ls6 kk).drop 1).take p ++ (ls6 kk).drop p
theorem sh_at {kk : Nat → Nat} {p : Nat} (hp : p < 5) : (shL kk p)[p + 1]? = some (sl (kk (p + 1)) 24 24) := by
  have : p = 0 ∨ p = 1 ∨ p = 2 ∨ p = 3 ∨ p = 4 := by omega
  rcases this with e | e | e | e | e <;> subst e <;> rfl
theorem sh_step {kk : Nat → Nat} {p : Nat} (hp : p < 5) : (shL kk p).set p (sl (kk (p + 1)) 24 24) = shL kk (p + 1) := by
  have : p = 0 ∨ p = 1 ∨ p = 2 ∨ p = 3 ∨ p = 4 := by omega
  rcases this with e | e | e | e | e <;> subst e <;> rfl
theorem sh_len {kk : Nat → Nat} {p : Nat} (hp : p ≤ 5) : (shL kk p).length = 6 := by
  have : p = 0 ∨ p = 1 ∨ p = 2 ∨ p = 3 ∨ p = 4 ∨ p = 5 := by omega
  rcases this with e | e | e | e | e | e <;> subst e <;> rfl
theorem LT.six (h : LT w ρ c v L) (hL : L.length = 6) : ∃ b off cap kk, v = .slice (some ⟨b, off, none⟩) 6 cap ∧ SLc w (some ⟨b, off, none⟩) b off cap (ls6 kk) ∧ ρ b = c ∧ 6 ≤ cap ∧ ∀ (i : Nat) (T : Tx), L[i]? = some T → Sn w ρ (sl (kk i) 24 24) T := by
  obtain ⟨ks, ⟨ao, b, off, cap, rfl, h1, hcol⟩, h2, h3⟩ := h
  have hle := h1.le
  have hp : 0 < cap := by omega
  have hch : ∀ i : Nat, ∃ k : Nat, i < 6 → ks[i]? = some (sl k 24 24) ∧ ∀ T, L[i]? = some T → Sn w ρ (sl k 24 24) T := fun i => by
    by_cases hi : i < 6
    · have hi2 : i < L.length := by omega
      obtain ⟨u, hu, hs⟩ := h3 i L[i] (List.getElem?_eq_getElem hi2)
      obtain ⟨k, rfl, hk, hr⟩ := hs.ex
      exact ⟨k, fun _ => ⟨hu, fun T hT => by rw [List.getElem?_eq_getElem hi2] at hT; cases hT; exact hs⟩⟩
    · exact ⟨0, fun h => absurd h hi⟩
  obtain ⟨kk, hkk⟩ := Classical.skolem.1 hch
  have he : ks = ls6 kk := by
    apply List.ext_getElem?
    intro i
    rcases Nat.lt_or_ge i 6 with hi | hi
    · rw [(hkk i hi).1]
      have : i = 0 ∨ i = 1 ∨ i = 2 ∨ i = 3 ∨ i = 4 ∨ i = 5 := by omega
      rcases this with e | e | e | e | e | e <;> subst e <;> rfl
    · rw [List.getElem?_eq_none (by omega), List.getElem?_eq_none (by show 6 ≤ i; exact hi)]
  have ha := h1.addr hp
  refine ⟨b, off, cap, kk, by rw [ha, h2, hL], ?_, hcol hp, by omega, fun i T hT => ?_⟩
  · rw [← he, ← ha]; exact h1
  · have hi := (List.getElem?_eq_some_iff.1 hT).1
    exact (hkk i (by omega)).2 T hT
theorem lt_cut {b off cap : Nat} {kk : Nat → Nat} (f : Fr (Cq ρ c) w w') (hc : c ≠ 0) (h1 : SLc w' (some ⟨b, off, none⟩) b off cap (shL kk 5)) (hb : ρ b = c) (hL : L.length = 6) (h3 : ∀ (i : Nat) (T : Tx), L[i]? = some T → Sn w ρ (sl (kk i) 24 24) T) : LT w' ρ c (.slice (some ⟨b, off, none⟩) 5 cap) (L.drop 1) := by
  refine ⟨(shL kk 5).take 5, ⟨_, b, off, cap, rfl, h1.take 5 (by rw [sh_len (by omega)]; omega), fun _ => hb⟩, by rw [List.length_drop, hL]; rfl, fun i T hi => ?_⟩
  rw [List.getElem?_drop] at hi
  have hlt := (List.getElem?_eq_some_iff.1 hi).1
  refine ⟨sl (kk (1 + i)) 24 24, ?_, (h3 (1 + i) T hi).fr f (fun k hk e => hc (e.symm.trans hk)) (Ext.refl _ _)⟩
  have : i = 0 ∨ i = 1 ∨ i = 2 ∨ i = 3 ∨ i = 4 := by omega
  rcases this with e | e | e | e | e <;> subst e <;> rfl
set_option maxHeartbeats 8000000 in
theorem push_full {kw : Nat} (w : World) (h : LT w ρ c v L) (hs : Sn w ρ (sl kw 24 24) T) (hL : L.length = 6) (hc : c ≠ 0) : Calls Tryz.prog 93 #[v, sl kw 24 24] w (PushP w ρ c (L.drop 1 ++ [T])) := by
  obtain ⟨b, off, cap, kk, rfl, h1, hb, hcap, h3⟩ := h.six hL
  replace h1 := Bx.mk h1
  have hB : Bx (ρ b = c) := ⟨hb⟩
  replace h3 := Bx.mk h3
  replace hs := Bx.mk hs
  replace hL := Bx.mk hL
  have hcI : (6 : Int) ≤ (cap : Int) := by omega
  replace hc := Bx.mk hc
  clear h hb
  go_enter Tryz.func93, Tryz.ntmps93
  go_wp2_with fail
  go_loopw [5] (fun s wr => ∃ p : Nat, p ≤ 5 ∧ s = I ((p : Int) + 1) ∧ Bx (SLc wr (some ⟨b, off, none⟩) b off cap (shL kk p)) ∧ Bx (Fr (Cq ρ c) w wr)) (fun s _ => (6 - intOf s).toNat)
  case atStart => exact ⟨0, by omega, rfl, h1, ⟨Fr.refl _ _⟩⟩
  case round =>
    clear h1
    obtain ⟨p, hp, rfl, h1, hf⟩ := hrel
    have hpI : (p : Int) ≤ 5 := by omega
    cases hlt : decide ((p : Int) + 1 < 6)
    · have hp5 : p = 5 := by simp at hlt; omega
      subst hp5
      have hlc := lt_cut hf.out hc.out h1.out hB.out hL.out h3.out
      have hfs := hs.out.fr hf.out (fun k hk e => hc.out (e.symm.trans hk)) (Ext.refl _ _)
      obtain ⟨ks, hLV1, hks, hcell, hkey⟩ := lt_ready hlc hfs (by rw [List.length_drop, hL.out]; omega) hc.out
      replace hLV1 := Bx.mk hLV1
      replace hks := Bx.mk hks
      replace hcell := Bx.mk hcell
      replace hkey := Bx.mk hkey
      clear hlc hfs
      go_wp2_with (first | (at_builtin; refine wpList_append_lv rfl _ _ _ rfl hLV1.out rfl hks.out _ 1 (sl kw 24 24) rfl hcell.out rfl ?_; intro v1 w1 ρ1 hx1 hlv1 hfr1; obtain ⟨hlt1, hfm1, hext1⟩ := hkey.out v1 w1 ρ1 hx1 hlv1 hfr1; clear hkey hcell hLV1 hx1 hlv1 hfr1; replace hlt1 := Bx.mk hlt1; replace hfm1 := Bx.mk hfm1; replace hext1 := Bx.mk hext1))
      go_ret
      exact ⟨_, rfl, ⟨ρ1, fun k hk => hext1.out k (by have := hf.out.size; omega), hlt1.out⟩, hf.out.trans hfm1.out⟩
    · have hp5 : p < 5 := by simp at hlt; omega
      have e0 := Bx.mk (sh_at (kk := kk) hp5)
      have e1 := Bx.mk (sh_step (kk := kk) hp5)
      have hlen := Bx.mk (sh_len (kk := kk) hp)
      have m0 : wr.cell? ⟨b, off + (p + 1), none⟩ = some (sl (kk (p + 1)) 24 24) := h1.out.olds (p + 1) _ e0.out
      have hlb := h1.out.lt (by omega)
      have z0 := h1.out.fz (by omega) (off + p)
      have hsm := h1.out.cel p (by omega)
      obtain ⟨xx, m1⟩ := Option.isSome_iff_exists.1 hsm
      have h2 : Bx (SLc (wr.setCell ⟨b, off + p, none⟩ (sl (kk (p + 1)) 24 24)) (some ⟨b, off, none⟩) b off cap (shL kk (p + 1))) := ⟨by rw [← e1.out]; exact h1.out.set (by rw [hlen.out]; omega) _⟩
      have hf2 : Bx (Fr (Cq ρ c) w (wr.setCell ⟨b, off + p, none⟩ (sl (kk (p + 1)) 24 24))) := ⟨hf.out.setCell (p := ⟨b, off + p, none⟩) (.inl hB.out) _⟩
      clear hsm h1 hf
      generalize kk (p + 1) = kx at m0 h2 hf2
      go_wp2_with fail
      go_roundw
      case rel => exact ⟨p + 1, by omega, by go_num, h2, hf2⟩
      case measure => simp [intOf]; omega
theorem pushL_few (hL : L.length < 6) : pushL L T = L ++ [T] := by unfold pushL; rw [if_pos hL]
theorem pushL_full (hL : L.length = 6) : pushL L T = L.drop 1 ++ [T] := by
  unfold pushL; rw [if_neg (by omega), List.drop_append_of_le_length (by omega)]
theorem push_any {kw : Nat} (w : World) (h : LT w ρ c v L) (hs : Sn w ρ (sl kw 24 24) T) (hL : L.length ≤ 6) (hc : c ≠ 0) : Calls Tryz.prog 93 #[v, sl kw 24 24] w (PushP w ρ c (pushL L T)) := by
  rcases Nat.lt_or_ge L.length 6 with h6 | h6
  · rw [pushL_few h6]; exact push_few w h hs h6 hc
  · rw [pushL_full (by omega)]; exact push_full w h hs (by omega) hc
end
end Go.Proofs.Qxb6500326aGreat
