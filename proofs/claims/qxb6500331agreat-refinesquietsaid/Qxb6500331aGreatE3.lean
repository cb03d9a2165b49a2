import Derived.Test.Qxb6500331aGreatE2
namespace Go.Proofs.Qxb6500331aGreat
set_option maxRecDepth 100000
set_option linter.unusedVariables false
set_option linter.unusedSimpArgs false
open Go.RowKit Go.PlainAid

def readsP (s : ByteArray) : BitVec 32 × Int := if 40 < s.size then (0#32, 1) else if isForm s = true then (rdS (tlT s).nodes 0 (tlT s).nodes.length, 0) else (0#32, 0)
theorem readsV_any (V : VB) (B : FB) (s : ByteArray) (w : World) (h : EZ w V B) : Calls Tryz.prog 33 #[pt V.e, .string s] w fun e w' => e = .returned (.tuple #[U (readsP s).1, I (readsP s).2]) ∧ EZ w' V B ∧ Fr (VF V B) w w' := by
  unfold readsP
  by_cases h1 : 40 < s.size
  · rw [if_pos h1]; exact readsV_long V B s w h h1
  · rw [if_neg h1]
    cases hp : isForm s
    · exact readsV_plain V B s w h (by omega) hp
    · exact readsV_form V B s w h (by omega) hp
theorem readsM_any (mb fb : Nat) (s : ByteArray) (w : World) (h : MEv w mb fb) : Calls Tryz.prog 35 #[pt mb, .string s] w fun e w' => e = .returned (.tuple #[U (readsP s).1, I (readsP s).2]) ∧ MEv w' mb fb ∧ Fr (MeS mb fb) w w' := by
  unfold readsP
  by_cases h1 : 40 < s.size
  · rw [if_pos h1]; exact readsM_long mb fb s w h h1
  · rw [if_neg h1]
    cases hp : isForm s
    · exact readsM_plain mb fb s w h (by omega) hp
    · exact readsM_form mb fb s w h (by omega) hp
def UD (V : VB) (B : FB) (mb fb d : Nat) : Nat → Prop := fun k => VF V B k ∨ MeS mb fb k ∨ k = d
/-- Both sides and the desk. -/
structure WS (w : World) (V : VB) (B : FB) (mb fb d : Nat) (Z : Nat → Prop) : Prop where
  ez : EZ w V B
  me : MEv w mb fb
  dk : DK w d Z
  vm : ∀ k, VF V B k → ¬ MeS mb fb k ∧ k ≠ d
  md : ∀ k, MeS mb fb k → k ≠ d
  zu : ∀ k, Z k → ¬ UD V B mb fb d k
  zl : ∀ k, Z k → k < w.heap.size
theorem WS.fr0 {w w' : World} {V : VB} {B : FB} {mb fb d : Nat} {Z : Nat → Prop} (h : WS w V B mb fb d Z) (f : Fr S0 w w') : WS w' V B mb fb d Z :=
  ⟨h.ez.fr0 f, h.me.fr f (by simp) (by simp), h.dk.fr0 f, h.vm, h.md, h.zu, fun k hk => Nat.lt_of_lt_of_le (h.zl k hk) f.size⟩
theorem WS.fr {w w' : World} {V : VB} {B : FB} {mb fb d : Nat} {Z S : Nat → Prop} (h : WS w V B mb fb d Z) (f : Fr S w w') (h1 : ∀ k, UD V B mb fb d k → ¬ S k) (h2 : ∀ k, Z k → ¬ S k) : WS w' V B mb fb d Z :=
  ⟨h.ez.fr f (fun k hk => h1 k (.inl hk)), h.me.fr f (h1 _ (.inr (.inl (.inl rfl)))) (h1 _ (.inr (.inl (.inr rfl)))), h.dk.fr f (h1 _ (.inr (.inr rfl))) h2, h.vm, h.md, h.zu, fun k hk => Nat.lt_of_lt_of_le (h.zl k hk) f.size⟩
theorem WS.stepV {w w' : World} {V : VB} {B : FB} {mb fb d : Nat} {Z : Nat → Prop} (h : WS w V B mb fb d Z) (hz : EZ w' V B) (f : Fr (VF V B) w w') : WS w' V B mb fb d Z :=
  ⟨hz, h.me.fr f (fun e => (h.vm _ e).1 (.inl rfl)) (fun e => (h.vm _ e).1 (.inr rfl)), h.dk.fr f (fun e => (h.vm _ e).2 rfl) (fun k hk e => h.zu k hk (.inl e)), h.vm, h.md, h.zu, fun k hk => Nat.lt_of_lt_of_le (h.zl k hk) f.size⟩
theorem WS.stepM {w w' : World} {V : VB} {B : FB} {mb fb d : Nat} {Z : Nat → Prop} (h : WS w V B mb fb d Z) (hm : MEv w' mb fb) (f : Fr (MeS mb fb) w w') : WS w' V B mb fb d Z :=
  ⟨h.ez.fr f (fun k hk => (h.vm k hk).1), hm, h.dk.fr f (fun e => h.md _ e rfl) (fun k hk e => h.zu k hk (.inr (.inl e))), h.vm, h.md, h.zu, fun k hk => Nat.lt_of_lt_of_le (h.zl k hk) f.size⟩
theorem WS.ne {w : World} {V : VB} {B : FB} {mb fb d : Nat} {Z : Nat → Prop} (h : WS w V B mb fb d Z) {k : Nat} (hk : w.heap.size ≤ k) : ¬ UD V B mb fb d k := by
  obtain ⟨c, r, h1⟩ := h.me.row
  have l1 := h1.lt
  obtain ⟨_, _, _, h2⟩ := h.me.mf
  have l2 := h2.lt
  obtain ⟨_, _, h3, -⟩ := h.dk.ex
  have l3 := h3.lt
  rintro (e | (e | e) | e)
  · exact h.ez.ne hk e
  · omega
  · omega
  · omega
theorem Fr.ud {w w' : World} {V : VB} {B : FB} {mb fb d : Nat} (f : Fr (VF V B) w w') : Fr (UD V B mb fb d) w w' := f.mono (fun k hk => .inl hk)
theorem Fr.ud2 {w w' : World} {V : VB} {B : FB} {mb fb d : Nat} (f : Fr (MeS mb fb) w w') : Fr (UD V B mb fb d) w w' := f.mono (fun k hk => .inr (.inl hk))
theorem bl_new (w : World) (b : Nat) : Row (w.alloc (.cells #[pt b] 29)) w.heap.size 1 (fun _ => pt b) := Row.new _ _ _ _ _ rfl (by intro i hi; rcases i with _ | i <;> first | rfl | omega)
set_option maxHeartbeats 4000000 in
theorem sameCheck_any (V : VB) (B : FB) (mb fb d : Nat) (Z : Nat → Prop) (w : World) (h : WS w V B mb fb d Z) : Calls Tryz.prog 13 #[pt V.e, blV B.f, pt d] w fun e w' => e = .returned (.bool true) ∧ Fr S0 w w' := by
  have hW : Bx (∀ w', Fr S0 w w' → WS w' V B mb fb d Z) := ⟨fun w' f => h.fr0 f⟩
  have hb := Bx.mk (bl_new w B.f)
  have hfr : Bx (Fr S0 w (w.alloc (.cells #[pt B.f] 29))) := ⟨(Fr.refl _ _).alloc _⟩
  have hC : Bx (∀ w', Fr S0 w w' → Calls Tryz.prog 28 #[pt V.e] w' fun e w'' => e = .returned (.bool true) ∧ Fr S0 w' w'') := ⟨fun w' f => checkV V B w' (h.fr0 f).ez⟩
  have hS : Bx (∀ w', Fr S0 w w' → Calls Tryz.prog 29 #[pt d] w' fun e w'' => e = .returned (.bool true) ∧ w' = w'') := ⟨fun w' f => scribbled_any d Z w' (h.fr0 f).dk⟩
  clear h
  go_enter Tryz.func13, Tryz.ntmps13
  go_wp2_with (first
    | (go_at_call 27; refine (mark_any B.f _).mono ?_; rintro e w1 ⟨rfl, hf⟩; have hb := Bx.mk (hf.row0 hb.out); have b0 := hb.out.cell 0 (by omega); have hfr := Bx.mk (hfr.out.trans hf); clear hf)
    | (go_at_call 28; refine (hC.out _ hfr.out).mono ?_; clear hC; rintro e w1 ⟨rfl, hf⟩; have hb := Bx.mk (hf.row0 hb.out); have b0 := hb.out.cell 0 (by omega); have hfr := Bx.mk (hfr.out.trans hf); clear hf)
    | (go_at_call 29; refine (hS.out _ hfr.out).mono ?_; clear hS; rintro e w1 ⟨rfl, rfl⟩)
    | (go_at_call 12; refine (asks_any B.f _ _ _).mono ?_; rintro e w1 ⟨rfl, hf⟩; have hfr := Bx.mk (hfr.out.trans hf); clear hf))
  go_ret
  exact ⟨rfl, hfr.out⟩
attribute [local go_sem] bv_eq
set_option maxHeartbeats 4000000 in
theorem sameReads_any (V : VB) (B : FB) (mb fb d : Nat) (Z : Nat → Prop) (s : ByteArray) (w : World) (h : WS w V B mb fb d Z) : Calls Tryz.prog 18 #[pt V.e, pt mb, blV B.f, pt d, .string s] w fun e w' => e = .returned (.tuple #[U (readsP s).1, .bool true]) ∧ WS w' V B mb fb d Z ∧ Fr (UD V B mb fb d) w w' := by
  have hb := Bx.mk (bl_new w B.f)
  have hfr : Bx (Fr (UD V B mb fb d) w (w.alloc (.cells #[pt B.f] 29))) := ⟨(Fr.refl _ _).alloc _⟩
  have hne := Bx.mk (h.ne (Nat.le_refl _))
  have hW := Bx.mk (h.fr0 ((Fr.refl S0 w).alloc (.cells #[pt B.f] 29)))
  obtain ⟨r, hr⟩ : ∃ r, Bx (readsP s = r) := ⟨_, ⟨rfl⟩⟩
  have hV : Bx (∀ w', EZ w' V B → Calls Tryz.prog 33 #[pt V.e, .string s] w' fun e w'' => e = .returned (.tuple #[U r.1, I r.2]) ∧ EZ w'' V B ∧ Fr (VF V B) w' w'') := ⟨fun w' h => hr.out ▸ readsV_any V B s w' h⟩
  have hM : Bx (∀ w', MEv w' mb fb → Calls Tryz.prog 35 #[pt mb, .string s] w' fun e w'' => e = .returned (.tuple #[U r.1, I r.2]) ∧ MEv w'' mb fb ∧ Fr (MeS mb fb) w' w'') := ⟨fun w' h => hr.out ▸ readsM_any mb fb s w' h⟩
  rw [hr.out]
  obtain ⟨r1, r2⟩ := r
  clear h
  go_enter Tryz.func18, Tryz.ntmps18
  go_wp2_with (first
    | (go_at_call 27; refine (mark_any B.f _).mono ?_; rintro e w1 ⟨rfl, hf⟩; have hb := Bx.mk (hf.row0 hb.out); have b0 := hb.out.cell 0 (by omega); have hfr := Bx.mk (hfr.out.trans hf.up); have hW := Bx.mk (hW.out.fr0 hf); clear hf)
    | (go_at_call 33; refine (hV.out _ hW.out.ez).mono ?_; clear hV; rintro e w1 ⟨rfl, hz, hf⟩; have hb := Bx.mk (hf.row hb.out (fun e => hne.out (.inl e))); have b0 := hb.out.cell 0 (by omega); have hfr := Bx.mk (hfr.out.trans hf.ud); have hW := Bx.mk (hW.out.stepV hz hf); clear hf hz)
    | (go_at_call 29; refine (scribbled_any d Z _ hW.out.dk).mono ?_; rintro e w1 ⟨rfl, rfl⟩)
    | (go_at_call 34; refine (due_any _ _ _).mono ?_; rintro e w1 ⟨⟨dv, rfl⟩, rfl⟩)
    | (go_at_call 12; refine (asks_any B.f _ _ _).mono ?_; rintro e w1 ⟨rfl, hf⟩; have hfr := Bx.mk (hfr.out.trans hf.up); have hW := Bx.mk (hW.out.fr0 hf); clear hf)
    | (go_at_call 35; refine (hM.out _ hW.out.me).mono ?_; clear hM; rintro e w1 ⟨rfl, hz, hf⟩; have hfr := Bx.mk (hfr.out.trans hf.ud2); have hW := Bx.mk (hW.out.stepM hz hf); clear hf hz))
  all_goals go_ret2
  all_goals exact ⟨by simp, hW.out, hfr.out⟩
end Go.Proofs.Qxb6500331aGreat
