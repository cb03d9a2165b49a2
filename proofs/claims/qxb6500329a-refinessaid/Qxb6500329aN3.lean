import Derived.Test.Qxb6500329aM5
import Derived.Test.Qxb6500329aN1
import Derived.Test.Qxb6500329aX16
import Derived.Deep.RegionWith
namespace Go.Proofs.Qxb6500329a
set_option linter.unusedVariables false
set_option linter.unusedSimpArgs false
open Go.RowKit Go.PlainAid
/-- What a step meets. -/
structure StepS (w : World) (B : FB) (fb d K S : Nat) (s : ByteArray) (v : Value) (t : Tr) (ct : Nat) : Prop where
  ds : DS w B fb d K S (fun k => k < w.heap.size) s v t ct
  fz : FZ w B
  mf : MF w fb
  low : Low B fb d K S w.heap.size
  ct : ct < 2 ^ 58
  len : t.nodes.length ≤ 25
  txt : s.size ≤ 41
theorem StepS.alloc {w : World} {B : FB} {fb d K S : Nat} {s : ByteArray} {v : Value} {t : Tr} {ct : Nat} (h : StepS w B fb d K S s v t ct) (o : Obj) : StepS (w.alloc o) B fb d K S s v t ct :=
  ⟨(h.ds.fr0 ((Fr.refl _ _).alloc o)).mono (fun k hk => by simp; omega), h.fz.fr0 ((Fr.refl _ _).alloc o), h.mf.fr ((Fr.refl S0 _).alloc o) (fun c => c), h.low.mono (by simp), h.ct, h.len, h.txt⟩
/-- The text register is set. -/
theorem DS.setText {w : World} {B : FB} {fb d K S : Nat} {Z : Nat → Prop} {s : ByteArray} {v : Value} {t : Tr} {ct : Nat} (h : DS w B fb d K S Z s v t ct) (q : ByteArray) : DS (w.setCell ⟨d, 0, none⟩ (.string q)) B fb d K S Z q v t ct := by
  have f : Fr (fun k => k = d) w (w.setCell ⟨d, 0, none⟩ (.string q)) := (Fr.refl (fun k => k = d) w).setCell (p := ⟨d, 0, none⟩) (.inl rfl) _
  obtain ⟨kv, sv, hr⟩ := h.ring
  refine ⟨h.ids, (h.row.set 0 (.string q)).congr (by intro i hi; rcases i with _ | _ | _ | _ | _ | _ | _ | _ | i <;> first | rfl | omega), h.reg.fr f (fun k hk e => (h.own k hk).1 (.inr (.inr (.inl e)))), h.own, ⟨kv, sv, hr.fr f (fun e => h.ids.dK e.symm) (fun e => h.ids.dS e.symm) (fun k e => .inl (.inl (.inr (.inr (.inl e)))))⟩, h.num⟩
theorem StepS.setText {w : World} {B : FB} {fb d K S : Nat} {s : ByteArray} {v : Value} {t : Tr} {ct : Nat} (h : StepS w B fb d K S s v t ct) (q : ByteArray) (hq : q.size ≤ 41) : StepS (w.setCell ⟨d, 0, none⟩ (.string q)) B fb d K S q v t ct := by
  have f : Fr (fun k => k = d) w (w.setCell ⟨d, 0, none⟩ (.string q)) := (Fr.refl (fun k => k = d) w).setCell (p := ⟨d, 0, none⟩) (.inl rfl) _
  exact ⟨(h.ds.setText q).mono (fun k hk => Nat.lt_of_lt_of_le hk f.size), h.fz.fr f (fun k hk e => h.ds.ids.dB (by rw [← show k = d from e]; exact hk)), h.mf.fr f (fun e => h.ds.ids.fd e), h.low.mono f.size, h.ct, h.len, hq⟩
/-- Turn, whatever the step. -/
theorem turn_any (B : FB) (fb d K S : Nat) (s : ByteArray) (v : Value) (t : Tr) (ct : Nat) (kd a b c : Int) (s1 s2 : ByteArray) (w : World) (h : StepS w B fb d K S s v t ct) (hc : c ≤ 9223372036854775807) :
    Calls Try.prog 39 #[pt d, opV kd a b c s1 s2] w (TurnP w B fb d K S s v ct) := by
  by_cases h3 : kd = 3
  · subst h3; exact turn_node B fb d K S s v t ct a b c s1 s2 w h.ds h.low h.len hc
  by_cases h6 : kd = 6
  · subst h6; exact turn_root B fb d K S s v t ct a b c s1 s2 w h.ds h.low h.len
  by_cases h4 : kd = 4
  · subst h4
    by_cases h0 : t.nodes = []
    · have hD := h.ds
      obtain ⟨va, vc, rfl⟩ := h.ds.reg.slice
      rw [h0] at hD ⊢
      exact turn_kids0 B fb d K S s va vc t ct a b c s1 s2 w hD h.len
    · obtain ⟨g, cap, hv, -, -⟩ := h.ds.reg.pos h0
      obtain ⟨i, hi⟩ : ∃ i, t.nodes.length = i + 1 := ⟨t.nodes.length - 1, by cases hh : t.nodes with | nil => exact absurd hh h0 | cons x l => simp⟩
      rw [hi] at hv
      subst hv
      exact turn_kids B fb d K S s g i cap t ct a b c s1 s2 w h.ds h.low hi h.len
  by_cases h5 : kd = 5
  · subst h5
    by_cases h0 : t.nodes = []
    · have hD := h.ds
      obtain ⟨va, vc, rfl⟩ := h.ds.reg.slice
      rw [h0] at hD ⊢
      exact turn_ref0 B fb d K S s va vc t ct a b c s1 s2 w hD h.len
    · obtain ⟨g, cap, hv, -, -⟩ := h.ds.reg.pos h0
      obtain ⟨i, hi⟩ : ∃ i, t.nodes.length = i + 1 := ⟨t.nodes.length - 1, by cases hh : t.nodes with | nil => exact absurd hh h0 | cons x l => simp⟩
      rw [hi] at hv
      subst hv
      cases h4b : (bits .and .i64 c 4 == 0)
      · exact turn_r2 B fb d K S s g i cap t ct a b c s1 s2 w h.ds h.low hi h.len h4b
      · exact turn_r1 B fb d K S s g i cap t ct a b c s1 s2 w h.ds h.low hi h.len h4b
  exact turn_none B fb d K S s v t ct kd a b c s1 s2 w h.ds h.len h3 h4 h5 h6
end Go.Proofs.Qxb6500329a
