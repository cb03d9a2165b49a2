import Derived.Test.Qxb6500326aGreatGW2
namespace Go.Proofs.Qxb6500326aGreat.Gr
set_option maxRecDepth 100000
set_option linter.unusedVariables false
set_option linter.unusedSimpArgs false
open Go.RowKit
attribute [local go_sem] bv_and bv_or bv_andNot bv_and_all bv_andNot_all bv_all_andNot bv_eq_all bv_ne_all bv_pred bv_pred' bv_eq_zero bv_ne_zero bv_eq bv_ne bv_bit

theorem Tryz.info3 : (Tryz.prog.info? 3).map (fun i => (i.zero, i.size, i.bytes)) = some (some (.int .i64 0), 1, 8) := by kernel_rfl
/-- One round of Order that appends. -/
theorem ord_step {w wr w1 : World} {b base lb : Nat} {R : Nat → BitVec 32} {v v' : Value} {xs news : List Value} {n m : Nat} {o : Obj} (hb : w.heap.size ≤ base) (hlb : lb < base) (hbase : base ≤ wr.heap.size) (hm : MG wr b R) (hb1 : b + 1 < w.heap.size)
    (hrow : Row wr lb 24 (fun i => I (lev R i))) (hf : Fr (fun k => k = b + 1) w wr) (hown : wr.ownsRow base 3 1 v n xs)
    (hown' : w1.ownsRow base 3 1 v' (n + m) (xs ++ news)) (hg : (wr.alloc o).grownBy w1 v.ownBlock) :
    w1.ownsRow base 3 1 v' (n + m) (xs ++ news) ∧ Row w1 lb 24 (fun i => I (lev R i)) ∧ MG w1 b R ∧ Fr (fun k => k = b + 1) w w1 ∧ base ≤ w1.heap.size := by
  have hF := Fr.of_grown hg
  have hlt : ∀ k, some k = v.ownBlock → base ≤ k := fun k h => (hown.lt k h.symm).1
  have ha : Fr S0 wr (wr.alloc o) := (Fr.refl _ _).alloc _
  refine ⟨hown', hF.row (ha.row0 hrow) (fun h => by have := hlt _ h; omega), (hm.fr0 ha).fr hF (fun h => by have := hlt _ h; omega) (fun h => by have := hlt _ h; omega), (hf.alloc o).step hF (fun x h => .inr (by have := hlt _ h; omega)), by have := hF.size; simp at this; omega⟩
set_option maxRecDepth 100000 in
set_option maxHeartbeats 1000000 in
theorem mOrder_any (b : Nat) (R : Nat → BitVec 32) (s : BitVec 32) (w : World) (hm : MG w b R) :
    Calls Tryz.prog 140 #[pt (b + 1), U s] w fun e w' => ∃ v, e = .returned v ∧ ILv w' (w.heap.size + 1) v (ord R s) ∧ MG w' b R ∧ Fr (fun k => k = b + 1) w w' := by
  obtain ⟨i0, hi, hz0, hz1, hzb⟩ := info_parts Tryz.info3
  obtain ⟨p, q, ho⟩ := hm.obj
  have hc2 := ho.cell 2 (by omega)
  simp only [mcells] at hc2
  have hz2 := ho.frozen 2
  have hlt := ho.lt
  have hm1 : MG (w.setCell ⟨b + 1, 2, none⟩ (I (wrap64 (q + 1)))) b R := ⟨hm.row.set_other (by simp) _, p, wrap64 (q + 1), (ho.set 2 _).congr (fun i hi => by
    match i, hi with
    | 0, _ => rfl
    | 1, _ => rfl
    | 2, _ => rfl)⟩
  have hf1 : Fr (fun k => k = b + 1) w (w.setCell ⟨b + 1, 2, none⟩ (I (wrap64 (q + 1)))) := (Fr.refl (fun k => k = b + 1) w).setCell (p := ⟨b + 1, 2, none⟩) (.inl rfl) _
  clear ho hm
  go_enter Tryz.func140, Tryz.ntmps140
  go_wp2_with (go_at_call 167; refine (rounds_any _ _ _ hm1).mono ?_; rintro e w1 ⟨rfl, hrow, hfr⟩)
  have hrow : Row w1 w.heap.size 24 (fun i => I (lev R i)) := by simpa using hrow
  have hsz : w.heap.size + 1 ≤ w1.heap.size := hrow.lt
  have hm2 := hm1.fr0 hfr
  have hf2 := hf1.step hfr (by simp)
  clear hm1 hf1 hc2 hz2 hfr
  go_loopw [6, 7] (fun v c wr => ∃ q : Nat, q ≤ 24 ∧ c = .int .i64 q ∧ wr.ownsRow (w.heap.size + 1) 3 1 v (ordTo R s q).length ((ordTo R s q).map (fun c => I (c : Nat))) ∧ Row wr w.heap.size 24 (fun i => I (lev R i)) ∧ MG wr b R ∧ Fr (fun k => k = b + 1) w wr ∧ w.heap.size + 1 ≤ wr.heap.size) (fun _ c _ => 24 - (intOf c).toNat)
  case atStart => exact ⟨0, by omega, rfl, World.ownsRow_nil _ _ _ _, hrow, hm2, hf2, hsz⟩
  case round =>
    clear hrow hm2 hf2 hsz
    obtain ⟨q, hq, rfl, hown, hrow, hm, hf, hsz⟩ := hrel
    by_cases hlq : q < 24
    · have hqd : decide ((q : Int) < 24) = true := by simp; omega
      go_wp2
      go_loopw [6, 8] (fun v c wr => ∃ k : Nat, k ≤ 24 ∧ c = .int .i64 k ∧ wr.ownsRow (w.heap.size + 1) 3 1 v (ordTo R s q ++ ordRow R s q k).length ((ordTo R s q ++ ordRow R s q k).map (fun c => I (c : Nat))) ∧ Row wr w.heap.size 24 (fun i => I (lev R i)) ∧ MG wr b R ∧ Fr (fun k => k = b + 1) w wr ∧ w.heap.size + 1 ≤ wr.heap.size) (fun _ c _ => 24 - (intOf c).toNat)
      case atStart => exact ⟨0, by omega, rfl, by simpa [ordRow] using hown, hrow, hm, hf, hsz⟩
      case round =>
        clear hown hrow hm hf hsz
        obtain ⟨k, hk, rfl, hown, hrow, hm, hf, hsz⟩ := hrel
        have hlen : (ordTo R s q ++ ordRow R s q k).length ≤ 600 := by have := ordTo_len R s q; have := ordRow_len R s q k; simp; omega
        by_cases hlk : k < 24
        · have hck := hrow.cell k hlk
          cases h1 : (lev R k == (q : Int))
          · go_wp2
            go_roundw
            case rel => exact ⟨k + 1, by omega, by go_num, by simpa only [ordRow, h1, Bool.false_and, Bool.false_eq_true, if_false] using hown, hrow, hm, hf, hsz⟩
            case measure => simp [intOf]; omega
          · cases h2 : (s &&& bit k != 0#32)
            · go_wp2_with (go_at_call 124; refine (bit_any _ _ (by assumption)).mono ?_; rintro e w' ⟨rfl, rfl⟩)
              go_roundw
              case rel => exact ⟨k + 1, by omega, by go_num, by simpa only [ordRow, h2, Bool.and_false, Bool.false_eq_true, if_false] using hown, hrow, hm, hf, hsz⟩
              case measure => simp [intOf]; omega
            · have h3 : Hid (ordRow R s q (k + 1) = ordRow R s q k ++ [k]) := by show ordRow R s q (k + 1) = _; simp only [ordRow, h1, h2, Bool.and_self, if_true]
              go_wp2_with (first
                | (go_at_call 124; refine (bit_any _ _ (by assumption)).mono ?_; rintro e w' ⟨rfl, rfl⟩)
                | (at_builtin; go_loud (refine wpList_append_own _ rfl _ _ 111 rfl (w.heap.size + 1) 3 i0 (.int .i64 0) 1 8 Tryz.underlying111 hi hz0 hz1 hzb rfl (by decide) _ _ _ rfl (hown.alloc _) ⟨wr.heap.size, 0, none⟩ 1 1 [.int .i64 k] rfl rfl (cell_one_new _ _ _) (by intro u hu; simp at hu; subst hu; rfl) (by unfold maxLen; omega) (by omega) (by simp; omega) ?_); intro v' w1 hown' hgrow _; have R1 := ord_step (Nat.le_succ _) (Nat.lt_succ_self _) hsz hm (by omega) hrow hf hown hown' hgrow; clear hown' hgrow))
              go_roundw
              case rel => exact ⟨k + 1, by omega, by go_num, by simpa [h3.out, ← List.append_assoc] using R1.1, R1.2.1, R1.2.2.1, R1.2.2.2.1, R1.2.2.2.2⟩
              case measure => simp [intOf]; omega
        · have hk24 : k = 24 := by omega
          subst hk24
          go_wp2
          go_roundw
          case rel => exact ⟨q + 1, by omega, by go_num, hown, hrow, hm, hf, hsz⟩
          case measure => simp [intOf]; omega
    · have hq24 : q = 24 := by omega
      subst hq24
      go_wp2
      go_ret
      exact ⟨_, rfl, ilv_of_owns hown, hm, hf⟩
theorem mOrder_all (b : Nat) (R : Nat → BitVec 32) (w : World) (hm : MG w b R) :
    Calls Tryz.prog 140 #[pt (b + 1), .int .u32 16777215] w fun e w' => ∃ v, e = .returned v ∧ ILv w' (w.heap.size + 1) v (ord R All) ∧ MG w' b R ∧ Fr (fun k => k = b + 1) w w' :=
  mOrder_any b R All w hm
end Go.Proofs.Qxb6500326aGreat.Gr
