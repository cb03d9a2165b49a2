import Derived.Test.Qxb6500326aGreatR16
namespace Go.Proofs.Qxb6500326aGreat
set_option maxRecDepth 100000
set_option linter.unusedVariables false
set_option linter.unusedSimpArgs false
open Go.RowKit Go.PlainAid

set_option maxHeartbeats 2000000 in
theorem readsV_long (V : VB) (B : FB) (s : ByteArray) (w : World) (h : EZ w V B) (hs : 40 < s.size) : Calls Tryz.prog 122 #[pt V.e, .string s] w (fun e w' => e = .returned (.tuple #[U 0#32, I 1]) ∧ EZ w' V B ∧ Fr (VF V B) w w') := by
  have hsd : decide (40 < (s.size : Int)) = true := by simp; omega
  have h := Bx.mk h
  clear hs
  go_enter Tryz.func122, Tryz.ntmps122
  go_wp2
  go_ret2
  exact ⟨rfl, h.out, Fr.refl _ _⟩
set_option maxHeartbeats 2000000 in
theorem readsV_plain (V : VB) (B : FB) (s : ByteArray) (w : World) (h : EZ w V B) (hs : s.size ≤ 40) (hp : isForm s = false) : Calls Tryz.prog 122 #[pt V.e, .string s] w (fun e w' => e = .returned (.tuple #[U 0#32, I 0]) ∧ EZ w' V B ∧ Fr (VF V B) w w') := by
  have hsd : decide (40 < (s.size : Int)) = false := by simp; omega
  have h := Bx.mk h
  cases he : (s.toList == [])
  · have h61 : (bt s 0 != 61) = true := by simp only [isForm, he] at hp; simpa [bne] using hp
    have hpos := size_pos he
    have hb := get_bt s 0 hpos
    clear hp
    go_enter Tryz.func122, Tryz.ntmps122
    go_wp2
    go_ret2
    exact ⟨rfl, h.out, Fr.refl _ _⟩
  · obtain rfl : s = es := empty_es.1 (by simpa using he)
    clear he hs hp hsd
    go_enter Tryz.func122, Tryz.ntmps122
    go_wp2
    go_ret2
    exact ⟨rfl, h.out, Fr.refl _ _⟩
/-- The tree's program. -/
theorem tree_sub {t : Tr} (h : TreeOK t) : ∃ pre val, Sub t.nodes 0 (t.nodes.length - 1) pre val := sp_sub h.max _ _ _ h.sp
theorem Sub.cw {w : World} {V : VB} {fb : Nat} {L : List Nd} {pre : List Ins} {val : (Nat → Vl) → Vl} (hS : Sub L 0 (L.length - 1) pre val) (h1 : 1 ≤ L.length) {ow : Nat → Int} (h : CW w V fb (desc L 0 L.length ⟨ow, [], 0#32⟩)) : ∃ ow', CW w V fb ⟨ow', pre, rdS L 0 L.length⟩ := by
  obtain ⟨ow', e, -⟩ := hS.comp ⟨ow, [], 0#32⟩
  rw [show L.length - 1 + 1 - 0 = L.length from by omega] at e
  rw [e] at h
  refine ⟨ow', ?_⟩
  simpa using h
set_option maxHeartbeats 4000000 in
theorem readsV_form (V : VB) (B : FB) (s : ByteArray) (w : World) (h : EZ w V B) (hs : s.size ≤ 40) (hp : isForm s = true) : Calls Tryz.prog 122 #[pt V.e, .string s] w (fun e w' => e = .returned (.tuple #[U (rdS (tlT s).nodes 0 (tlT s).nodes.length), I 0]) ∧ EZ w' V B ∧ Fr (VF V B) w w') := by
  have hsd : decide (40 < (s.size : Int)) = false := by simp; omega
  have he : (s.toList == []) = false := by simp only [isForm, Bool.and_eq_true, Bool.not_eq_true'] at hp; exact hp.1
  have h61 : (bt s 0 != 61) = false := by simp only [isForm, Bool.and_eq_true] at hp; simpa [bne] using hp.2
  have hpos := size_pos he
  have hb := get_bt s 0 hpos
  have hLd := loadV V B s w h hp
  have hlaw := parse_law (bt (tlS s)) (tlS s).size
  have hlaw : Bx (((tlT s).err = 0 ∧ TreeOK (tlT s)) ∨ ((tlT s).err ≠ 0 ∧ (tlT s).nodes = [])) := ⟨by rcases hlaw with ⟨a, b, -⟩ | ⟨a, b, -⟩; exact .inl ⟨a, b⟩; exact .inr ⟨a, b⟩⟩
  have hdj := Bx.mk h.dj
  generalize tlT s = t at hLd hlaw ⊢
  clear hp h
  rcases hlaw.out with ⟨e0, hto⟩ | ⟨e0, hnil⟩
  · obtain ⟨pre, val, hSub⟩ := tree_sub hto
    have hL1 := hto.one
    have hLd : Bx (Calls Tryz.prog 153 #[pt V.e, .string s] w fun e w' => e = .returned (.bool true) ∧ (∃ ow', CW w' V B.f ⟨ow', pre, rdS t.nodes 0 t.nodes.length⟩) ∧ FZ w' B ∧ Fr (VF V B) w w') := ⟨hLd.mono (fun e w' hh => by
      rcases hh with ⟨⟨a1, -⟩ | ⟨-, a2, ⟨ow, a3⟩, a4⟩, a5⟩
      · exact (a1 e0).elim
      · exact ⟨a2, hSub.cw hL1 a3, a4, a5⟩)⟩
    clear hto hSub hL1 e0 hlaw
    go_enter Tryz.func122, Tryz.ntmps122
    go_wp2_with (first | (go_at_call 153; refine hLd.out.mono ?_; clear hLd; rintro e w1 ⟨rfl, ⟨ow', hcw⟩, hfz, hf⟩; obtain ⟨E, h1, a1, a2, a3, a4, a5, a6⟩ := hcw.ex; obtain ⟨-, c1, c2, c3, -⟩ := h1.ev9; have y2 := h1.row.frozen 2; have hl := h1.row.lt; have h1 := Bx.mk h1; have hfz := Bx.mk hfz; have hf := Bx.mk hf; have a3 := Bx.mk a3; have a5 := Bx.mk a5; have a6 := Bx.mk a6; clear hcw a1 a2 a4))
    go_ret2
    refine ⟨by rw [← a3.out]; rfl, ⟨⟨{ E with start := 48 }, h1.out.set (E' := { E with start := 48 }) 2 (I 48) (by intro i hi; rcases i with _ | _ | _ | _ | _ | _ | _ | _ | _ | i <;> first | rfl | omega) rfl rfl rfl rfl, rfl, a5.out, a6.out⟩, hfz.out.fr (fr_set w1 (V := V) VS.e 2 (I 48)) (fun k hk e => hdj.out k e hk), hdj.out⟩, hf.out.trans ((fr_set w1 (V := V) VS.e 2 (I 48)).mono (fun k hk => .inl hk))⟩
  · have hLd : Bx (Calls Tryz.prog 153 #[pt V.e, .string s] w fun e w' => e = .returned (.bool false) ∧ EZ w' V B ∧ Fr (VF V B) w w') := ⟨hLd.mono (fun e w' hh => by
      rcases hh with ⟨⟨-, a2, a3⟩ | ⟨a1, -⟩, a5⟩
      · exact ⟨a2, a3, a5⟩
      · exact (e0 a1).elim)⟩
    rw [hnil]
    clear hnil e0 hlaw
    go_enter Tryz.func122, Tryz.ntmps122
    go_wp2_with (first | (go_at_call 153; refine hLd.out.mono ?_; clear hLd; rintro e w1 ⟨rfl, hz, hf⟩; have hz := Bx.mk hz; have hf := Bx.mk hf))
    go_ret2
    exact ⟨rfl, hz.out, hf.out⟩
end Go.Proofs.Qxb6500326aGreat
