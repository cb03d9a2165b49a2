import Derived.Test.Qxb6500326aGreatX16
namespace Go.Proofs.Qxb6500326aGreat
set_option maxRecDepth 100000
set_option linter.unusedVariables false
set_option linter.unusedSimpArgs false
open Go.RowKit Go.PlainAid
theorem strength_pos (op : Int) : strength op ≠ 0 := by unfold strength; split; decide; split <;> decide
/-- An expression is at its end. -/
theorem closeX (B : FB) (b : Nat → Int) (n nt k : Nat) (st : RS) (t : Tok) (w : World) (h : AF w B b n nt k st) (hts : Hts k 1 st) (hav : st.hav = true) (htk : topk st.O ≠ 1) (hto : topOf st.O = 0) (ht : t = lex b n st.pos) :
    Calls Tryz.prog 194 #[pt B.f, tkV t] w (Turned w B b n nt k st (st.close b n t)) := by
  cases hO : st.O with
  | nil => exact close_nil B b n nt k st t w h hts hav htk hO
  | cons m O' =>
    have hkd := hts.kd m (by rw [hO]; exact List.mem_cons_self)
    rw [hO] at htk hto
    have h1 : m.kind ≠ 1 := (topk_ne htk).1
    have h2 : m.kind ≠ 2 := by
      intro e
      have : (if m.kind = 2 then strength m.op else 0) = 0 := hto
      rw [if_pos e] at this
      exact strength_pos _ this
    by_cases h3 : m.kind = 3
    · exact close_open B b n nt k st t w h hts m O' hO h3 ht
    · cases hV : st.V with
      | nil => have := hts.len; rw [hV] at this; simp at this
      | cons a V' => exact close_call B b n nt k st t w h hts m O' hO a V' hV (by omega) ht
end Go.Proofs.Qxb6500326aGreat
