import Derived.Test.Qxb6500326aGreatX17
namespace Go.Proofs.Qxb6500326aGreat
set_option maxRecDepth 100000
set_option linter.unusedVariables false
set_option linter.unusedSimpArgs false
open Go.RowKit Go.PlainAid
/-- An operator is pushed: its left operand stands, the right one is due. -/
theorem Hts.pushBin {k : Nat} {st : RS} (h : Hts k 1 st) (op : Int) (ho : st.O.length < k) (htk : topk st.O ≠ 1) (hlt : topOf st.O < strength op) : Hts k 0 ((st.push ⟨2, op, 0, 0, 0⟩).hv false) := by
  refine ⟨?_, h.vk, by show (_ :: st.O).length ≤ k; simp; omega, h.vin, ?_, ⟨fun _ => ⟨htk, hlt⟩, h.so⟩, ?_⟩
  · show st.V.length = (if (2 : Int) = 2 then 1 else 0) + bins st.O + 0
    rw [if_pos rfl, h.len]; omega
  · intro m hm
    have hm : m ∈ (⟨2, op, 0, 0, 0⟩ : Mk) :: st.O := hm
    rw [List.mem_cons] at hm
    rcases hm with rfl | hm
    · exact ⟨Int.le_refl 0, by show (0 : Int) ≤ (k : Int); omega⟩
    · exact h.mn m hm
  · intro m hm
    have hm : m ∈ (⟨2, op, 0, 0, 0⟩ : Mk) :: st.O := hm
    rw [List.mem_cons] at hm
    rcases hm with rfl | hm
    · exact ⟨by show (1 : Int) ≤ 2; decide, by show (2 : Int) ≤ 4; decide⟩
    · exact h.kd m hm
theorem after_eq {b : Nat → Int} {n : Nat} {st s0 s1 : RS} {t : Tok} {g : Int} (h0 : st.look b n = s0) (e : lex b n s0.pos = t) (hg : strOf t = g) (h1 : s0.join2 g = s1) : st.after b n = s1.after2 b n t g := by
  subst h0; subst e; subst hg; subst h1; rfl
theorem join_pos (st : RS) : st.join.pos = st.pos ∧ st.join.hav = st.hav ∧ st.join.done = st.done := by
  have ha : ∀ (s : RS) (x : Nd), (s.add x).1.pos = s.pos ∧ (s.add x).1.hav = s.hav ∧ (s.add x).1.done = s.done := by
    intro s x
    unfold RS.add RS.fail
    repeat' split
    all_goals exact ⟨rfl, rfl, rfl⟩
  cases hO : st.O with
  | nil => unfold RS.join; rw [hO]; exact ⟨rfl, rfl, rfl⟩
  | cons m O' =>
    cases hV : st.V with
    | nil => unfold RS.join; rw [hO, hV]; exact ⟨rfl, rfl, rfl⟩
    | cons y V1 =>
      cases V1 with
      | nil => unfold RS.join; rw [hO, hV]; exact ⟨rfl, rfl, rfl⟩
      | cons x V' => rw [join_eq hO hV]; exact ha st _
end Go.Proofs.Qxb6500326aGreat
