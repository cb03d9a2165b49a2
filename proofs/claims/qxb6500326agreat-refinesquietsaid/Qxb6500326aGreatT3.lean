/-
  DERIVED. THE PLAIN LAW OF LAYER book, 3: the saved text, by its bytes.
-/
import Derived.Test.Qxb6500326aGreatT2
import Derived.PlainAid
namespace Go.Proofs.Qxb6500326aGreat
set_option linter.unusedVariables false
set_option linter.unusedSimpArgs false
open Go.PlainAid

/-- The text from byte i on, read. -/
def SvT (t : ByteArray) (i : Nat) (last : Int) (S : Tx) : Prop := Sv ((lst t).drop i) last S
theorem lst_at (t : ByteArray) {i : Nat} (h : i < t.size) : (lst t)[i]? = some (bt t i) := by
  unfold lst
  rw [List.getElem?_map, Array.getElem?_toList, Array.getElem?_eq_getElem (show i < t.data.size from h)]
  rw [← get_bt t i h]
  rfl
theorem lst_drop {t : ByteArray} {i : Nat} (h : i < t.size) : (lst t).drop i = bt t i :: (lst t).drop (i + 1) := by
  have hl : i < (lst t).length := by rw [lst_len']; exact h
  rw [List.drop_eq_getElem_cons hl]
  congr 1
  have := lst_at t h
  rw [List.getElem?_eq_getElem hl] at this
  exact Option.some.inj this
theorem lst_drop4 {t : ByteArray} {i : Nat} (h : i + 4 ≤ t.size) : (lst t).drop i = bt t i :: bt t (i + 1) :: bt t (i + 2) :: bt t (i + 3) :: (lst t).drop (i + 4) := by
  rw [lst_drop (by omega), lst_drop (by omega), lst_drop (by omega), lst_drop (by omega)]
theorem bs_extract (t : ByteArray) {a m : Nat} (h : a + m ≤ t.size) : bs (((lst t).drop a).take m) = t.extract a (a + m) := by
  rw [← bs_lst (t.extract a (a + m))]
  congr 1
  unfold lst
  rw [← List.map_drop, ← List.map_take]
  congr 1
  simp [ByteArray.data_extract, Array.toList_extract, List.extract_eq_take_drop]
theorem svt_end (t : ByteArray) (last : Int) : SvT t t.size last (fun _ => es) := by
  unfold SvT
  rw [List.drop_eq_nil_of_le (by rw [lst_len']; exact Nat.le_refl _)]
  exact .nil last
theorem svt_end' {t : ByteArray} {last : Int} {S : Tx} (h : SvT t t.size last S) : S = fun _ => es := (svt_end t last : Sv _ _ _).uniq h |>.symm
structure Pc (t : ByteArray) (i : Nat) (last : Int) (c m : Nat) : Prop where
  e1 : numP (bt t i) (bt t (i + 1)) = c
  e2 : numP (bt t (i + 2)) (bt t (i + 3)) = m
  l : last < c
  c24 : c < 24
  m1 : 1 ≤ m
  m40 : m ≤ 40
  fit : i + 4 + m ≤ t.size
theorem svt_mk {t : ByteArray} {i : Nat} {last : Int} {c m : Nat} {S : Tx} (p : Pc t i last c m) (h : SvT t (i + 4 + m) c S) : SvT t i last (upd S c (t.extract (i + 4) (i + 4 + m))) := by
  have hf := p.fit
  unfold SvT at h ⊢
  rw [lst_drop4 (by omega), ← bs_extract t hf]
  have e : (lst t).drop (i + 4) = ((lst t).drop (i + 4)).take m ++ (lst t).drop (i + 4 + m) := by
    have e2 : (lst t).drop (i + 4 + m) = ((lst t).drop (i + 4)).drop m := by rw [List.drop_drop]
    rw [e2]; exact (List.take_append_drop m _).symm
  conv => arg 1; rw [e]
  exact .piece _ _ _ _ _ _ last c m S p.e1 p.e2 p.l p.c24 p.m1 p.m40 (by rw [List.length_take, List.length_drop, lst_len']; omega) h
theorem svt_inv {t : ByteArray} {i : Nat} {last : Int} {S : Tx} (h : SvT t i last S) (hi : i < t.size) : ∃ (c m : Nat) (S' : Tx), Pc t i last c m ∧ SvT t (i + 4 + m) c S' ∧ S = upd S' c (t.extract (i + 4) (i + 4 + m)) := by
  unfold SvT at h
  have h4 : i + 4 ≤ t.size := by
    apply Classical.byContradiction
    intro hn
    have hl : ((lst t).drop i).length = t.size - i := by rw [List.length_drop, lst_len']
    generalize (lst t).drop i = L at h hl
    cases h with
    | nil => simp at hl; omega
    | piece a b c d P R _ i m S h1 h2 h3 h4 h5 h6 h7 h => simp at hl; omega
  have hd := lst_drop4 h4
  have hlen : ((lst t).drop (i + 4)).length = t.size - (i + 4) := by rw [List.length_drop, lst_len']
  rw [hd] at h
  generalize hR : (lst t).drop (i + 4) = Q at h hlen
  generalize hL : bt t i :: bt t (i + 1) :: bt t (i + 2) :: bt t (i + 3) :: Q = L at h
  cases h with
  | nil => cases hL
  | piece a b c d P R _ ci m S' h1 h2 h3 h4' h5 h6 h7 h =>
    simp only [List.cons.injEq] at hL
    obtain ⟨ea, eb, ec, ed, hPR⟩ := hL
    have hfit : i + 4 + m ≤ t.size := by
      have : Q.length = P.length + R.length := by rw [hPR, List.length_append]
      omega
    have hP : P = ((lst t).drop (i + 4)).take m := by rw [hR, hPR, ← h7]; simp
    have hRR : R = (lst t).drop (i + 4 + m) := by
      have e2 : (lst t).drop (i + 4 + m) = ((lst t).drop (i + 4)).drop m := by rw [List.drop_drop]
      rw [e2, hR, hPR, ← h7]; simp
    refine ⟨ci, m, S', ⟨by rw [ea, eb]; exact h1, by rw [ec, ed]; exact h2, h3, h4', h5, h6, hfit⟩, by unfold SvT; rw [← hRR]; exact h, ?_⟩
    rw [hP, bs_extract t hfit]
/-- No reading. -/
theorem svt_none_step {t : ByteArray} {i : Nat} {last : Int} {c m : Nat} (h : ¬ ∃ S, SvT t i last S) (p : Pc t i last c m) : ¬ ∃ S, SvT t (i + 4 + m) c S := fun ⟨S, hS⟩ => h ⟨_, svt_mk p hS⟩
theorem svt_low {t : ByteArray} {i : Nat} {last : Int} {S : Tx} (h : SvT t i last S) : ∀ d : Nat, (d : Int) ≤ last ∨ 24 ≤ d → S d = es := Sv.low h
end Go.Proofs.Qxb6500326aGreat
