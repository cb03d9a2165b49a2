import Derived.Test.Qxb6500326aGreatU1
import Derived.Laws.BytesArg
namespace Go.Proofs.Qxb6500326aGreat
set_option maxRecDepth 100000
set_option linter.unusedVariables false
set_option linter.unusedSimpArgs false
open Go.RowKit Go.PlainAid
theorem bs_size' (L : List Int) : (bs L).size = L.length := by
  show (L.map _).toArray.size = _
  simp
theorem bs_append (A B : List Int) : bs A ++ bs B = bs (A ++ B) := by
  unfold bs
  simp only [List.map_append]
  apply ByteArray.ext
  simp
theorem wpList_add_str {w : World} {ops : Array Oper} {rest : List Oper} {o : Oper} {a : Act} {Q : Exit → Act → World → Prop} (hgd : o.guard = none) (x y : Operand)
    (ho : o.op = .binOp .add 9 x y 9) (A B : List Int) (hx : a.eval x = .string (bs A)) (hy : a.eval y = .string (bs B)) (hl : A.length + B.length ≤ 100000)
    (h : wpList Tryz.prog ops Q rest (a.put o.dst (.string (bs (A ++ B)))) w) : wpList Tryz.prog ops Q (o :: rest) a w := by
  refine wpList_plain hgd fun K hK => ?_
  have hrun := run_string_add_sum (P := Tryz.prog) (w := w) (bs A) (bs B) (by rw [bs_size', bs_size']; omega)
  rw [bs_append] at hrun
  unfold Oper.wp
  simp [execOp, ho, hx, hy, binOp_string_add, hrun, Result.andThen, eqGuard]
  exact hK _ _ h
theorem run_bytes_str (w : World) (b o len cap : Nat) (T : List Int) (hl : T.length = len) (hc : ∀ j (h : j < T.length), w.cell? ⟨b, o + j, none⟩ = some (Y T[j])) :
    (convert 81 9 (.slice (some ⟨b, o, none⟩) len cap)).run Tryz.prog w = .ok (.string (bs T)) w := by
  subst hl
  rw [run_convert_bytes_string w 81 9 _ _ _ _ Tryz.underlying81 Tryz.underlying5 Tryz.underlying9]
  have hld := run_loadCells_list (P := Tryz.prog) w ⟨b, o, none⟩ (T.map (Value.int .u8)) (by
    intro j v hv
    rw [List.getElem?_map] at hv
    by_cases hj : j < T.length
    · rw [List.getElem?_eq_getElem hj] at hv
      cases hv
      rw [Addr.add_lit]
      exact hc j hj
    · rw [List.getElem?_eq_none (by omega)] at hv; cases hv)
  rw [List.length_map] at hld
  rw [run_bytesToString w _ _ _ T hld, foldl_push_bytes]
  congr 2
  unfold bs
  simp
theorem wpList_bytes_str {w : World} {ops : Array Oper} {rest : List Oper} {o : Oper} {a : Act} {Q : Exit → Act → World → Prop} (hgd : o.guard = none) (x : Operand)
    (ho : o.op = .convert 81 9 x) (b off len cap : Nat) (T : List Int) (hx : a.eval x = .slice (some ⟨b, off, none⟩) len cap) (hl : T.length = len) (hc : ∀ j (h : j < T.length), w.cell? ⟨b, off + j, none⟩ = some (Y T[j]))
    (h : wpList Tryz.prog ops Q rest (a.put o.dst (.string (bs T))) w) : wpList Tryz.prog ops Q (o :: rest) a w := by
  refine wpList_plain hgd fun K hK => ?_
  have hrun := run_bytes_str w b off len cap T hl hc
  unfold Oper.wp
  simp [execOp, ho, hx, hrun, Result.andThen]
  exact hK _ _ h
end Go.Proofs.Qxb6500326aGreat
