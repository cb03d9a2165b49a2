import Derived.Test.Qxb6500326aGreatB16
import Derived.Test.Qxb6500326aGreatD1
import Derived.Test.Qxb6500326aGreatX22
namespace Go.Proofs.Qxb6500326aGreat
set_option maxRecDepth 100000
set_option linter.unusedVariables false
set_option linter.unusedSimpArgs false
open Go.RowKit Go.PlainAid

attribute [local go_sem] bv_or
abbrev trA (v : Value) (t : Tr) : Array Value := #[v, I t.root, I t.err, I t.pos]
set_option maxHeartbeats 2000000 in
theorem eval_any {g eb cap ecap : Nat} {t : Tr} {env : Nat → Vl} {i : Nat} {x : Vl} (w : World) (hi : t.root = (i : Int)) (hW : WM w g eb t.nodes env) (hx : WOK g eb t.nodes env i x) :
    Calls Tryz.prog 170 #[treeV (sl g t.nodes.length cap) t, sl eb 24 ecap] w (VR w x) := by
  have hz := Bx.mk (v_zero (w.alloc (.cells (trA (sl g t.nodes.length cap) t) 105)) 92 (H := w.heap.size + 1) (by simp))
  have hfr := Bx.mk (((Fr.refl S0 w).alloc (.cells (trA (sl g t.nodes.length cap) t) 105)).alloc (.cells #[I 0, I 0, .string es] 92))
  have hA : Bx (∀ w', Fr S0 w w' → Calls Tryz.prog 209 #[sl g t.nodes.length cap, I t.root, sl eb 24 ecap] w' (VR w' x)) := ⟨fun w' f => by rw [hi]; exact hx w' cap ecap (hW.fr f)⟩
  clear hW hx hi
  go_enter Tryz.func170, Tryz.ntmps170
  go_wp2_with (first
    | (go_at_call 209; refine (hA.out _ hfr.out).mono ?_; clear hA; rintro e w1 ⟨rfl, hf⟩; have hz1 := Bx.mk (hf.row0 hz.out); obtain ⟨c0, c1, c2, y0, y1, y2⟩ := hz1.out.v3))
  exact ret_vs (x := x) (p := 4) rfl rfl rfl hz1.out (hfr.out.trans hf) (by omega) rfl
/-- The nodes of a list lie in block g. -/
def NG (w : World) (g : Nat) (L : List Nd) : Prop := g < w.heap.size ∧ ∀ j k, j < L.length → k < 13 → w.cell? ⟨g, j * 13 + k, none⟩ = some (ndC (nd L j) k)
theorem NG.fr {S : Nat → Prop} {w w' : World} {g : Nat} {L : List Nd} (h : NG w g L) (f : Fr S w w') (hg : ¬ S g) : NG w' g L :=
  ⟨Nat.lt_of_lt_of_le h.1 f.size, fun j k hj hk => by rw [f.cell (a := ⟨g, j * 13 + k, none⟩) h.1 hg]; exact h.2 j k hj hk⟩
theorem NG.wm {w : World} {g eb : Nat} {L : List Nd} {env : Nat → Vl} (h : NG w g L) (he : Grid w eb 24 3 (fun c => vC (env c))) : WM w g eb L env :=
  ⟨h.1, Row.lt he, h.2, fun c k hc hk => he.cell c k hc hk⟩
theorem NG.cells {w : World} {g : Nat} {L : List Nd} (h : NG w g L) {i : Nat} (hi : i < L.length) {x : Nd} (hx : nd L i = x) :
    w.cell? ⟨g, i * 13, none⟩ = some (I x.kind) ∧ w.cell? ⟨g, i * 13 + 1, none⟩ = some (I x.op) ∧ w.cell? ⟨g, i * 13 + 2, none⟩ = some (I x.a) ∧ w.cell? ⟨g, i * 13 + 3, none⟩ = some (I x.b) ∧ w.cell? ⟨g, i * 13 + 4, none⟩ = some (I x.n) ∧
    w.cell? ⟨g, i * 13 + 5, none⟩ = some (I x.r1.col) ∧ w.cell? ⟨g, i * 13 + 6, none⟩ = some (I x.r1.row) ∧ w.cell? ⟨g, i * 13 + 7, none⟩ = some (.bool x.r1.absC) ∧ w.cell? ⟨g, i * 13 + 8, none⟩ = some (.bool x.r1.absR) ∧
    w.cell? ⟨g, i * 13 + 9, none⟩ = some (I x.r2.col) ∧ w.cell? ⟨g, i * 13 + 10, none⟩ = some (I x.r2.row) ∧ w.cell? ⟨g, i * 13 + 11, none⟩ = some (.bool x.r2.absC) ∧ w.cell? ⟨g, i * 13 + 12, none⟩ = some (.bool x.r2.absR) := by
  subst hx
  exact ⟨h.2 i 0 hi (by omega), h.2 i 1 hi (by omega), h.2 i 2 hi (by omega), h.2 i 3 hi (by omega), h.2 i 4 hi (by omega), h.2 i 5 hi (by omega), h.2 i 6 hi (by omega), h.2 i 7 hi (by omega), h.2 i 8 hi (by omega), h.2 i 9 hi (by omega), h.2 i 10 hi (by omega), h.2 i 11 hi (by omega), h.2 i 12 hi (by omega)⟩
theorem XL.ng {w : World} {B : Nat} {v : Value} {L : List Nd} (h : XL w B v L) (hL : L ≠ []) : ∃ g, B ≤ g ∧ v = sl g L.length L.length ∧ NG w g L := by
  rcases h with ⟨e, -⟩ | ⟨-, g, hb, rfl, hg⟩
  · exact (hL e).elim
  · refine ⟨g, hb, rfl, (Array.getElem?_eq_some_iff.1 hg).1, fun j k hj hk => ?_⟩
    simp only [World.cell?, hg]
    show (nds L).toArray[j * 13 + k]? = _
    rw [List.getElem?_toArray, nds_get L j k hj hk, nd_get hj, ndC_get _ k hk]
def tvC (v : Value) (t : Tr) : Nat → Value
  | 0 => v
  | 1 => I t.root
  | 2 => I t.err
  | _ => I t.pos
theorem tv_new (w : World) (v : Value) (t : Tr) (T : TypeId) {H : Nat} (e : w.heap.size = H) : Row (w.alloc (.cells (trA v t) T)) H 4 (tvC v t) := by
  subst e
  exact Row.new _ _ _ _ _ rfl (by
    intro i hi
    have : i = 0 ∨ i = 1 ∨ i = 2 ∨ i = 3 := by omega
    rcases this with e | e | e | e <;> subst e <;> rfl)
theorem Row.tr4 {w : World} {B : Nat} {v : Value} {t : Tr} (h : Row w B 4 (tvC v t)) :
    w.cell? ⟨B, 0, none⟩ = some v ∧ w.cell? ⟨B, 1, none⟩ = some (I t.root) ∧ w.cell? ⟨B, 2, none⟩ = some (I t.err) ∧ w.cell? ⟨B, 3, none⟩ = some (I t.pos) :=
  ⟨h.cell 0 (by omega), h.cell 1 (by omega), h.cell 2 (by omega), h.cell 3 (by omega)⟩
set_option maxHeartbeats 8000000 in
theorem readsA_any {g cap : Nat} {t : Tr} (w : World) (hN : NG w g t.nodes) (hlen : t.nodes.length ≤ 24) :
    Calls Tryz.prog 207 #[treeV (sl g t.nodes.length cap) t] w fun e w' => e = .returned (U (rdS t.nodes 0 t.nodes.length)) ∧ Fr S0 w w' := by
  have hT := Bx.mk (tv_new w (sl g t.nodes.length cap) t 105 rfl)
  have hfr := Bx.mk ((Fr.refl S0 w).alloc (.cells (trA (sl g t.nodes.length cap) t) 105))
  have hN := Bx.mk hN
  obtain ⟨L, hL⟩ : ∃ L, Bx (t.nodes = L) := ⟨_, ⟨rfl⟩⟩
  rw [hL.out] at hN hT hfr hlen ⊢
  go_enter Tryz.func207, Tryz.ntmps207
  go_wp2_with fail
  go_loopw [3, 4] (fun s i wr => ∃ k : Nat, k ≤ L.length ∧ s = U (rdS L 0 k) ∧ i = I (k : Int) ∧ Bx (Row wr w.heap.size 4 (tvC (sl g L.length cap) t)) ∧ Bx (Fr S0 w wr)) (fun _ i _ => L.length - (intOf i).toNat)
  case atStart => exact ⟨0, by omega, rfl, rfl, hT, hfr⟩
  case round =>
    clear hT hfr
    obtain ⟨k, hk, rfl, rfl, hT, hfr⟩ := hrel
    obtain ⟨t0, t1, t2, t3⟩ := hT.out.tr4
    by_cases hlt : k < L.length
    · have hkd : decide ((k : Int) < L.length) = true := by simp; omega
      obtain ⟨x, hx⟩ : ∃ x, Bx (nd L k = x) := ⟨_, ⟨rfl⟩⟩
      have hN1 := hN.out.fr hfr.out (by simp)
      obtain ⟨c0, c1, c2, c3, c4, c5, c6, c7, c8, c9, c10, c11, c12⟩ := hN1.cells hlt hx.out
      have hgl := hN1.1
      have hl1 := hT.out.lt
      clear hN1
      have hstep : Bx (rdS L 0 (k + 1) = rdS L 0 k ||| rdN x) := ⟨by show rdS L 0 k ||| rdN (nd L (0 + k)) = _; rw [Nat.zero_add, hx.out]⟩
      have hn := Bx.mk (nd_row wr x rfl)
      have hT := Bx.mk (hT.out.alloc (.cells (ndA x) 149))
      have hfr := Bx.mk (hfr.out.alloc (.cells (ndA x) 149))
      generalize rdS L 0 k = S at hstep
      cases k3 : (x.kind == 3)
      · cases k4 : (x.kind == 4)
        · have hR : Bx (rdS L 0 (k + 1) = S) := ⟨by rw [hstep.out]; simp [rdN, k3, k4]⟩
          go_wp2_with fail
          go_roundw
          case rel => exact ⟨k + 1, by omega, by rw [hR.out], rfl, hT, hfr⟩
          case measure => simp [intOf]; omega
        · have hR : Bx (rdS L 0 (k + 1) = S ||| blockS x.r1 x.r2) := ⟨by rw [hstep.out]; simp [rdN, k3, k4]⟩
          go_wp2_with (first | (go_at_call 147; refine (block_any x.r1 x.r2 _).mono ?_; rintro e w1 ⟨rfl, hf⟩; have hT := Bx.mk (hf.row0 hT.out); have hfr := Bx.mk (hfr.out.trans hf); clear hf))
          go_roundw
          case rel => exact ⟨k + 1, by omega, by rw [hR.out], rfl, hT, hfr⟩
          case measure => simp [intOf]; omega
      · have k4 : (x.kind == 4) = false := by have : x.kind = 3 := by simpa using k3
                                              rw [this]; rfl
        cases hg : inGrid x.r1
        · have hR : Bx (rdS L 0 (k + 1) = S) := ⟨by rw [hstep.out]; simp [rdN, k3, k4, hg]⟩
          have hG : Bx (∀ w, Calls Tryz.prog 131 #[refV x.r1] w fun e w' => e = .returned (.bool false) ∧ Fr S0 w w') := ⟨fun w => hg ▸ inGrid_any x.r1 w⟩
          go_wp2_with (first | (go_at_call 131; refine (hG.out _).mono ?_; clear hG; rintro e w1 ⟨rfl, hf⟩; have hT := Bx.mk (hf.row0 hT.out); have hn := Bx.mk (hf.row0 hn.out); have hfr := Bx.mk (hfr.out.trans hf); obtain ⟨n0, n1, n2, n3, n4, n5, n6, n7, n8, n9, n10, n11, n12⟩ := RowNd hn.out; clear hf))
          go_roundw
          case rel => exact ⟨k + 1, by omega, by rw [hR.out], rfl, hT, hfr⟩
          case measure => simp [intOf]; omega
        · obtain ⟨d1, d2⟩ := cellOf_bd hg
          obtain ⟨c, hc⟩ : ∃ c : Nat, Bx (cellOf x.r1 = (c : Int)) := ⟨(cellOf x.r1).toNat, ⟨by omega⟩⟩
          have hc24 : c < 24 := by have := hc.out; omega
          clear d1 d2
          have hR : Bx (rdS L 0 (k + 1) = S ||| bit c) := ⟨by rw [hstep.out]; simp [rdN, k3, hg, hc.out]⟩
          have hG : Bx (∀ w, Calls Tryz.prog 131 #[refV x.r1] w fun e w' => e = .returned (.bool true) ∧ Fr S0 w w') := ⟨fun w => hg ▸ inGrid_any x.r1 w⟩
          have hC : Bx (∀ w, Calls Tryz.prog 228 #[refV x.r1] w fun e w' => e = .returned (I (c : Int)) ∧ Fr S0 w w') := ⟨fun w => hc.out ▸ cellOf_any x.r1 w hg⟩
          go_wp2_with (first
            | (go_at_call 131; refine (hG.out _).mono ?_; clear hG; rintro e w1 ⟨rfl, hf⟩; have hT := Bx.mk (hf.row0 hT.out); have hn := Bx.mk (hf.row0 hn.out); have hfr := Bx.mk (hfr.out.trans hf); obtain ⟨n0, n1, n2, n3, n4, n5, n6, n7, n8, n9, n10, n11, n12⟩ := RowNd hn.out; clear hf)
            | (go_at_call 228; refine (hC.out _).mono ?_; clear hC; rintro e w1 ⟨rfl, hf⟩; have hT := Bx.mk (hf.row0 hT.out); have hn := Bx.mk (hf.row0 hn.out); have hfr := Bx.mk (hfr.out.trans hf); obtain ⟨n0, n1, n2, n3, n4, n5, n6, n7, n8, n9, n10, n11, n12⟩ := RowNd hn.out; clear hf)
            | (go_at_call 124; refine (bit_any c _ hc24).mono ?_; rintro e w' ⟨rfl, rfl⟩))
          go_roundw
          case rel => exact ⟨k + 1, by omega, by rw [hR.out], rfl, hT, hfr⟩
          case measure => simp [intOf]; omega
    · have hkd : decide ((k : Int) < L.length) = false := by simp; omega
      have hke : Bx (k = L.length) := ⟨by omega⟩
      go_wp2
      go_ret
      exact ⟨by rw [hke.out]; rfl, hfr.out⟩
end Go.Proofs.Qxb6500326aGreat
