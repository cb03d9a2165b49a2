import Derived.Test.Qxb6500326aGreatGX1
import Derived.Test.Qxb6500326aGreatGInv
import Derived.Test.Qxb6500326aGreatGOrd
import Derived.Laws.MakeOwn
namespace Go.Proofs.Qxb6500326aGreat.Gr
set_option maxRecDepth 100000
set_option linter.unusedVariables false
set_option linter.unusedSimpArgs false
open Go.RowKit
attribute [local go_sem] bv_and bv_or bv_andNot bv_and_all bv_andNot_all bv_all_andNot bv_eq_all bv_ne_all bv_pred bv_pred' bv_eq_zero bv_ne_zero bv_eq bv_ne bv_bit

theorem mk25 (w : World) : (Instr.makeSlice 111 (.int .i64 25) (.int .i64 25)).run Tryz.prog w = .ok (sl w.heap.size 25 25) (w.alloc (.cells (zI 25) 3)) := by kernel_rfl
theorem Tryz.info3' : (Tryz.prog.info? 3).map (fun i => (i.zero, i.size, i.bytes)) = some (some (.int .i64 0), 1, 8) := by kernel_rfl
theorem mkN (n : Nat) (h : n ≤ 1000) (w : World) : (Instr.makeSlice 111 (.int .i64 (n : Nat)) (.int .i64 (n : Nat))).run Tryz.prog w = .ok (sl w.heap.size n n) (w.alloc (.cells (zI n) 3)) := by
  obtain ⟨i0, hi, hz0, hz1, hzb⟩ := info_parts Tryz.info3'
  have := run_make (P := Tryz.prog) w 111 3 i0 (.int .i64 0) Tryz.underlying111 hi hz0 .i64 .i64 (n : Int) (n : Int) (by omega) (by omega) (by rw [hzb]; omega) (by omega)
  rw [this, hz1]
  have e : madeCells (Value.int .i64 0).cells (((n : Int)).toNat * 1) = zI n := by
    apply Array.ext
    · simp [madeCells, zI]
    · intro i h1 h2
      simp [madeCells, zI, Value.cells, Nat.mod_one]
  rw [e]; simp
/-- What Order hands out. -/
def OrdRes (lo : Nat) (w' : World) (L : List Nat) (v : Value) : Prop :=
  (v = .slice none 0 0 ∧ L = []) ∨ (∃ g, v = sl g L.length L.length ∧ L ≠ [] ∧ lo ≤ g ∧ Row w' g L.length (fun i => I (nth L i : Nat)))
section
variable (R : Nat → BitVec 32) (s : BitVec 32)
def at1 (k j : Nat) : Nat := if j = 0 then 0 else (ordRow R s (j - 1) k).length
def at2 (m j : Nat) : Nat := if j < m then (ordTo R s j).length else at1 R s 24 j
def at3 (k j : Nat) : Nat := if j < 24 then (ordTo R s j).length + (ordRow R s j k).length else (ordTo R s 24).length
theorem row_len_skip {q k d : Nat} (hkd : k ≤ d) (hd : d ≤ 24) (h : ∀ j, k ≤ j → j < d → (ordSet R s).getLsbD j = false) : (ordRow R s q d).length = (ordRow R s q k).length := by
  induction d with
  | zero => rw [show k = 0 by omega]
  | succ d ih =>
    by_cases e : k = d + 1
    · rw [e]
    · rw [row_len_succ, ih (by omega) (by omega) (fun j h1 h2 => h j h1 (by omega))]
      have hn : hit R s q d = false := by
        cases hh : hit R s q d
        · rfl
        · have h1 := (hit_iff R s (show d < 24 by omega)).1 hh
          have h2 := (mem_ordSet R s d).2 ⟨by omega, h1.2, by omega⟩
          rw [h d (by omega) (by omega)] at h2; cases h2
      rw [hn]; rfl
theorem row_len_hit {q d : Nat} (hd : d < 24) (hin : inOrd R s d) (q' : Nat) (hq : lev R d = (q : Int)) : (ordRow R s q' (d + 1)).length = (ordRow R s q' d).length + if q' = q then 1 else 0 := by
  rw [row_len_succ]
  by_cases e : q' = q
  · subst e
    rw [if_pos rfl, if_pos ((hit_iff R s hd).2 ⟨hq, hin.2.1⟩)]
  · rw [if_neg e, if_neg]
    intro hh
    have := ((hit_iff R s hd).1 hh).1
    omega
theorem at1_step {q k d : Nat} (hkd : k ≤ d) (hd : d < 24) (hin : inOrd R s d) (hs : ∀ j, k ≤ j → j < d → (ordSet R s).getLsbD j = false) (hq : lev R d = (q : Int)) (j : Nat) :
    (upd (fun j => ((at1 R s k j : Nat) : Int)) (q + 1) ((at1 R s k (q + 1) : Nat) + 1 : Int)) j = ((at1 R s (d + 1) j : Nat) : Int) := by
  unfold upd at1
  by_cases e0 : j = 0
  · subst e0; simp
  · rw [if_neg e0]
    have h1 := row_len_hit R s hd hin (j - 1) hq
    have h2 := row_len_skip R s (q := j - 1) hkd (by omega) hs
    by_cases e : j = q + 1
    · subst e
      simp at h1 h2 ⊢
      omega
    · rw [if_neg e]
      have : ¬ j - 1 = q := by omega
      rw [if_neg this] at h1
      dsimp only
      rw [if_neg e0]; omega
theorem at2_step {m : Nat} (h1 : 1 ≤ m) (h2 : m ≤ 24) (j : Nat) : (upd (fun j => ((at2 R s m j : Nat) : Int)) m ((at2 R s m m : Nat) + (at2 R s m (m - 1) : Nat) : Int)) j = ((at2 R s (m + 1) j : Nat) : Int) := by
  obtain ⟨p, rfl⟩ : ∃ p, m = p + 1 := ⟨m - 1, by omega⟩
  unfold upd at2
  have e2 := to_succ_len R s p
  by_cases e : j = p + 1
  · subst e
    rw [if_pos rfl, if_neg (by omega), if_pos (by omega), if_pos (by omega)]
    unfold at1
    rw [if_neg (by omega)]
    simp
    omega
  · rw [if_neg e]
    dsimp only
    by_cases h : j < p + 1
    · rw [if_pos h, if_pos (by omega)]
    · rw [if_neg h, if_neg (by omega)]
theorem at3_zero (j : Nat) (hj : j < 25) : at2 R s 25 j = at3 R s 0 j := by
  unfold at2 at3
  rw [if_pos hj]
  by_cases h : j < 24
  · rw [if_pos h]; simp [ordRow]
  · rw [if_neg h, show j = 24 by omega]
theorem at3_step {q k d : Nat} (hkd : k ≤ d) (hd : d < 24) (hin : inOrd R s d) (hs : ∀ j, k ≤ j → j < d → (ordSet R s).getLsbD j = false) (hq : lev R d = (q : Int)) (hq24 : q < 24) (j : Nat) :
    (upd (fun j => ((at3 R s k j : Nat) : Int)) q ((at3 R s k q : Nat) + 1 : Int)) j = ((at3 R s (d + 1) j : Nat) : Int) := by
  unfold upd at3
  have h1 := row_len_hit R s hd hin j hq
  have h2 := row_len_skip R s (q := j) hkd (by omega) hs
  by_cases e : j = q
  · subst e
    simp [hq24] at h1 h2 ⊢
    omega
  · rw [if_neg e]
    rw [if_neg e] at h1
    by_cases h : j < 24
    · simp only [h, if_true]; omega
    · simp only [h, if_false]
theorem at3_pos {q k d : Nat} (hkd : k ≤ d) (hd : d < 24) (hs : ∀ j, k ≤ j → j < d → (ordSet R s).getLsbD j = false) (hq : lev R d = (q : Int)) (hq24 : q < 24) : at3 R s k q = pos R s d := by
  unfold at3 pos
  rw [if_pos hq24, hq, ← row_len_skip R s (q := q) hkd (by omega) hs]
  simp
theorem at_bd (k j : Nat) (hk : k ≤ 24) (hj : j ≤ 24) : at1 R s k j ≤ 24 ∧ at2 R s k j ≤ 600 ∧ at3 R s k j ≤ 600 := by
  have h1 := ordRow_len R s (j - 1) k
  have h2 := ordTo_len R s j
  have h3 := ordRow_len R s (j - 1) 24
  have h4 := ordRow_len R s j k
  have h5 := ordTo_len R s 24
  refine ⟨?_, ?_, ?_⟩
  · unfold at1; split <;> omega
  · unfold at2 at1; split
    · omega
    · split <;> omega
  · unfold at3; split <;> omega
end
theorem level_nat {x : XS} {R : Nat → BitVec 32} (hi : XI x R) {s : BitVec 32} {d : Nat} (h : inOrd R s d) : ∃ q : Nat, q < 24 ∧ x.level d = (q : Int) ∧ lev R d = (q : Int) := by
  obtain ⟨q, hq⟩ := Int.eq_ofNat_of_zero_le h.2.2
  have := lev_bd R h.1
  exact ⟨q, by omega, by rw [hi.level d h.1]; exact hq, hq⟩
set_option maxRecDepth 100000 in
set_option maxHeartbeats 4000000 in
theorem xOrder_any (b : Nat) (x : XS) (R : Nat → BitVec 32) (s : BitVec 32) (w : World) (hx : XG w b x) (hi : XI x R) :
    Calls Tryz.prog 128 #[pt b, U s] w fun e w' => ∃ v, e = .returned v ∧ OrdRes w.heap.size w' (ord R s) v ∧ Fr S0 w w' := by
  have hcy : x.cyc = cyc R := hi.cyc
  have g3 : w.cell? ⟨b, 3, none⟩ = some (U (cyc R)) := by rw [← hcy]; exact hx.c3
  have HI := Bx.mk hi
  have HX := Bx.mk hx
  have hmk := mk25
  have hlen := ord_len R s
  have hpc := pcTo_le (ordSet R s) 24
  have hTd : Bx (s &&& 16777215#32 &&& ~~~cyc R = ordSet R s) := ⟨rfl⟩
  have HT := Bx.mk (mem_ordSet R s)
  have HL := Bx.mk hlen
  have HN := Bx.mk (ord_nil R s)
  clear hi hcy hlen
  by_cases hz : ordSet R s = 0#32
  · have hz1 : (s &&& 16777215#32 &&& ~~~cyc R == 0#32) = true := by rw [hTd.out, hz]; rfl
    have hnil : ord R s = [] := List.eq_nil_of_length_eq_zero (HN.out.2 hz)
    have HNI := Bx.mk hnil
    clear hz hnil hx
    go_enter Tryz.func128, Tryz.ntmps128
    go_wp2
    go_ret
    exact ⟨_, rfl, .inl ⟨rfl, HNI.out⟩, Fr.refl _ _⟩
  · have hz1 : (s &&& 16777215#32 &&& ~~~cyc R == 0#32) = false := by rw [hTd.out]; simpa using hz
    have hne : ord R s ≠ [] := fun e => hz (HN.out.1 (by rw [e]; rfl))
    have HNE := Bx.mk hne
    clear hz hne hx
    go_enter Tryz.func128, Tryz.ntmps128
    go_wp2
    rw [hTd.out]
    rw [hTd.out] at hz1
    have hlt := HX.out.lt
    generalize hT : ordSet R s = T at *
    have HTT := Bx.mk hT
    clear hT
    go_loopw [6, 7, 8] (fun n st _ wr => ∃ k : Nat, k ≤ 24 ∧ st = U (above T k) ∧ n = I (pcTo T k : Nat) ∧ Row wr w.heap.size 25 (fun j => I (at1 R s k j : Nat)) ∧ Fr S0 w wr) (fun _ st _ _ => pc (bvOf st))
    case atStart => exact ⟨0, by omega, by rw [above_zero], rfl, (Row.zI w 25 3).congr (fun i hi => by
        have : at1 R s 0 i = 0 := by unfold at1; split <;> simp [ordRow]
        rw [this]; rfl), (Fr.refl _ _).alloc _⟩
    case round =>
      clear hmk g3
      obtain ⟨k, hk, rfl, rfl, hrow, hf⟩ := hrel
      by_cases hz : above T k = 0#32
      · have hz2 : (above T k != 0#32) = false := by simpa using hz
        have hpk : Bx (pcTo T 24 = pcTo T k) := ⟨pcTo_skip hk (fun i h1 _ => above_end hz i h1)⟩
        have hrow2 : Row wr w.heap.size 25 (fun j => I (at2 R s 1 j : Nat)) := hrow.congr (fun j hj => by
          have e : at1 R s k j = at2 R s 1 j := by
            unfold at2
            by_cases h0 : j < 1
            · have : j = 0 := by omega
              subst this
              simp [at1, ordTo]
            · rw [if_neg h0]
              unfold at1
              rw [if_neg (by omega), if_neg (by omega)]
              exact (row_len_skip R s (q := j - 1) hk (Nat.le_refl _) (fun i h1 _ => by rw [HTT.out]; exact above_end hz i h1)).symm
          rw [e])
        have hpc2 := pcTo_le T k
        clear hz hrow
        go_wp2
        go_loopw [9] (fun l wr => ∃ m : Nat, 1 ≤ m ∧ m ≤ 25 ∧ l = .int .i64 m ∧ Row wr w.heap.size 25 (fun j => I (at2 R s m j : Nat)) ∧ Fr S0 w wr) (fun l _ => 26 - (intOf l).toNat)
        case atStart => exact ⟨1, by omega, by omega, rfl, hrow2, hf⟩
        case round =>
          clear hrow2 hf
          obtain ⟨m, hm1, hm, rfl, hrow, hf⟩ := hrel
          by_cases hlp : m < 25
          · have g1 := hrow.cell m hlp
            have g2 := hrow.cell (m - 1) (by omega)
            have f1 := hrow.frozen m
            have hb1 := (at_bd R s m m (by omega) (by omega)).2.1
            have hb2 := (at_bd R s m (m - 1) (by omega) (by omega)).2.1
            have hle24 : m ≤ 24 := by omega
            go_wp2_with fail
            go_region
            all_goals go_wp2
            all_goals go_roundw
            case rel =>
              refine ⟨m + 1, by omega, by omega, by go_num, ?_, ?_⟩
              · exact ((hrow.set m (I ((at2 R s m m : Nat) + (at2 R s m (m - 1) : Nat)))).congr (fun j _ => by
                  rw [upd_map I (fun j => ((at2 R s m j : Nat) : Int)), at2_step R s hm1 hle24])).drew
              · exact (hf.setCell (.inr (Nat.le_refl _)) _).drew
            case measure => simp [intOf]; omega
          · have hp24 : m = 25 := by omega
            have hrow3 : Row wr w.heap.size 25 (fun j => I (at3 R s 0 j : Nat)) := hrow.congr (fun j hj => by rw [hp24, at3_zero R s j hj])
            have hmk2 := mkN (pcTo T k) (by omega)
            have hsz : w.heap.size < wr.heap.size := hrow.lt
            clear hp24 hrow
            go_wp2
            have hout : Row (wr.alloc (.cells (zI (pcTo T k)) 3)) wr.heap.size (pcTo T k) (fun _ => I 0) := Row.zI _ _ _
            generalize hoB : wr.heap.size = ob at *
            go_loopw [11, 12] (fun st _ w2 => ∃ k3 : Nat, k3 ≤ 24 ∧ st = U (above T k3) ∧ Row w2 w.heap.size 25 (fun j => I (at3 R s k3 j : Nat)) ∧ Fr S0 w w2 ∧ ∃ o : Nat → Nat, Row w2 ob (pcTo T k) (fun i => I (o i : Nat)) ∧ (∀ c, c < k3 → inOrd R s c → o (pos R s c) = c)) (fun st _ _ => pc (bvOf st))
            case atStart => exact ⟨0, by omega, by rw [above_zero], hrow3.alloc _, hf.alloc _, fun _ => 0, hout, fun c h => absurd h (by omega)⟩
            case round =>
              clear hrow3 hout hmk2
              clear hf hoB
              obtain ⟨k3, hk3, rfl, hrow, hf, o, hout, ho⟩ := hrel
              by_cases hz : above T k3 = 0#32
              · have hz3 : (above T k3 != 0#32) = false := by simpa using hz
                have hend := Bx.mk (fun j hj => above_end hz j hj)
                have HO := Bx.mk ho
                clear hz ho
                go_wp2
                go_ret
                have hle : (ord R s).length = pcTo T k := by rw [HL.out, hpk.out]
                refine ⟨_, rfl, .inr ⟨ob, by rw [hle]; rfl, HNE.out, by omega, ?_⟩, hf⟩
                rw [hle]
                refine hout.congr (fun i hi' => ?_)
                obtain ⟨a1, a2⟩ := ord_at R s (show i < (ord R s).length by omega)
                have hk' : nth (ord R s) i < k3 := by
                  rcases Nat.lt_or_ge (nth (ord R s) i) k3 with h | h
                  · exact h
                  · have h1 := (HT.out _).2 a1
                    rw [hend.out _ h] at h1; cases h1
                have := HO.out _ hk' a1
                rw [a2] at this
                rw [this]
              · have hz3 : (above T k3 != 0#32) = true := by simpa using hz
                obtain ⟨e1, e2, e3, e4, e5⟩ := above_lo hz
                have hin : inOrd R s (lo (above T k3)) := (HT.out _).1 e3
                have hlo := hin.1
                obtain ⟨q, hq24, hxq, hlq⟩ := level_nat HI.out hin
                have hs' : ∀ j, k3 ≤ j → j < lo (above T k3) → (ordSet R s).getLsbD j = false := by rw [HTT.out]; exact e4
                have hpos := at3_pos R s e1 hlo hs' hlq hq24
                have hpl : pos R s (lo (above T k3)) < pcTo T k := by
                  have := (pos_bd R s hin).2.2
                  rw [HL.out, hpk.out] at this; exact this
                have HS3 := Bx.mk (at3_step R s e1 hlo hin hs' hlq hq24)
                have HE4 := Bx.mk e4
                have HE5 := Bx.mk e5
                have HMM := Bx.mk (above_dec hz)
                have hp := one_le_uN hz
                have hxr := HX.out.fr0 hf
                have g2 := hxr.c2
                have gl : wr.cell? ⟨b + 3, lo (above T k3), none⟩ = some (I (q : Nat)) := by rw [← hxq]; exact hxr.lv.cell _ hlo
                have ga : wr.cell? ⟨w.heap.size, q, none⟩ = some (I (at3 R s k3 q : Nat)) := hrow.cell q (by omega)
                have fa := hrow.frozen q
                have go := hout.cell _ hpl
                have fo := hout.frozen (pos R s (lo (above T k3)))
                have hab := (at_bd R s k3 q hk3 (by omega)).2.2
                have HO := Bx.mk ho
                have HIN := Bx.mk hin
                have HPO := Bx.mk hpos
                rw [← hpos] at go fo hpl
                clear ho e3 e4 e5 hs' hpos hxq hlq hin hxr
                go_wp2_with (go_at_call 155; refine (first_any _ _ (by assumption)).mono ?_; rintro e w' ⟨rfl, rfl⟩)
                go_roundw
                case rel =>
                  refine ⟨lo (above T k3) + 1, by omega, by rw [HE5.out], ?_, (hf.setCell (.inr (by simp; omega)) _).setCell (.inr (Nat.le_refl _)) _, upd o (at3 R s k3 q) (lo (above T k3)), ?_, ?_⟩
                  · exact ((hrow.set_other (p := ⟨ob, at3 R s k3 q, none⟩) (by simp; omega) _).set q (I ((at3 R s k3 q : Nat) + 1))).congr (fun j _ => by
                      rw [upd_map I (fun j => ((at3 R s k3 j : Nat) : Int)), HS3.out])
                  · exact ((hout.set (at3 R s k3 q) (I (lo (above T k3) : Nat))).set_other (p := ⟨w.heap.size, q, none⟩) (by simp; omega) _).congr (fun j _ => by
                      rw [upd_map (fun n : Nat => I (n : Nat)) o])
                  · intro c hc hcin
                    by_cases e : c = lo (above T k3)
                    · rw [e, HPO.out, upd_same]
                    · have hck : c < k3 := by
                        rcases Nat.lt_or_ge c k3 with h | h
                        · exact h
                        · have h1 := (HT.out c).2 hcin
                          rw [HE4.out c h (by omega)] at h1; cases h1
                      rw [upd_other, HO.out c hck hcin]
                      rw [HPO.out]
                      exact fun e2 => e (pos_inj R s hcin HIN.out e2)
                case measure => simp only [bvOf_U, HE5.out]; exact HMM.out
      · have hz2 : (above T k != 0#32) = true := by simpa using hz
        obtain ⟨e1, e2, e3, e4, e5⟩ := above_lo hz
        have hin : inOrd R s (lo (above T k)) := (HT.out _).1 e3
        have hlo := hin.1
        obtain ⟨q, hq24, hxq, hlq⟩ := level_nat HI.out hin
        have hs' : ∀ j, k ≤ j → j < lo (above T k) → (ordSet R s).getLsbD j = false := by rw [HTT.out]; exact e4
        have HS1 := Bx.mk (at1_step R s e1 hlo hin hs' hlq)
        have hpc3 : Bx (pcTo T (lo (above T k) + 1) = pcTo T k + 1) := by
          refine ⟨?_⟩
          rw [show pcTo T (lo (above T k) + 1) = pcTo T (lo (above T k)) + if T.getLsbD (lo (above T k)) then 1 else 0 from rfl, e3, pcTo_skip e1 e4]; rfl
        have HE5 := Bx.mk e5
        have HMM := Bx.mk (above_dec hz)
        have hp := one_le_uN hz
        have hxr := HX.out.fr0 hf
        have g2 := hxr.c2
        have gl : wr.cell? ⟨b + 3, lo (above T k), none⟩ = some (I (q : Nat)) := by rw [← hxq]; exact hxr.lv.cell _ hlo
        have ga : wr.cell? ⟨w.heap.size, q + 1, none⟩ = some (I (at1 R s k (q + 1) : Nat)) := hrow.cell (q + 1) (by omega)
        have fa := hrow.frozen (q + 1)
        have hab := (at_bd R s k (q + 1) hk (by omega)).1
        have hpl := pcTo_le T k
        clear e3 e4 e5 hs' hxq hlq hin hxr
        go_wp2_with (go_at_call 155; refine (first_any _ _ (by assumption)).mono ?_; rintro e w' ⟨rfl, rfl⟩)
        go_roundw
        case rel =>
          refine ⟨lo (above T k) + 1, by omega, by rw [HE5.out], by rw [hpc3.out]; go_num, ?_, hf.setCell (.inr (Nat.le_refl _)) _⟩
          exact (hrow.set (q + 1) (I ((at1 R s k (q + 1) : Nat) + 1))).congr (fun j _ => by
            rw [upd_map I (fun j => ((at1 R s k j : Nat) : Int)), HS1.out])
        case measure => simp only [bvOf_U, HE5.out]; exact HMM.out
end Go.Proofs.Qxb6500326aGreat.Gr
