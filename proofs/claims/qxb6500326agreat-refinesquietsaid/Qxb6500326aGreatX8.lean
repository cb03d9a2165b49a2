import Derived.Test.Qxb6500326aGreatX7
import Derived.Test.Qxb6500326aGreatU5
namespace Go.Proofs.Qxb6500326aGreat
set_option maxRecDepth 100000
set_option linter.unusedVariables false
set_option linter.unusedSimpArgs false
open Go.RowKit Go.PlainAid
theorem addTo_eq (st : RS) (x : Nd) : st.addTo x = (st.add x).1.vo ((st.add x).2 :: st.V) st.O := by
  unfold RS.addTo
  rw [(add_O st x).1, (add_O st x).2]
theorem RowNd {w : World} {B : Nat} {x : Nd} (h : Row w B 13 (ndC x)) :
    w.cell? ⟨B, 0, none⟩ = some (I x.kind) ∧ w.cell? ⟨B, 1, none⟩ = some (I x.op) ∧ w.cell? ⟨B, 2, none⟩ = some (I x.a) ∧ w.cell? ⟨B, 3, none⟩ = some (I x.b) ∧ w.cell? ⟨B, 4, none⟩ = some (I x.n) ∧
    w.cell? ⟨B, 5, none⟩ = some (I x.r1.col) ∧ w.cell? ⟨B, 6, none⟩ = some (I x.r1.row) ∧ w.cell? ⟨B, 7, none⟩ = some (.bool x.r1.absC) ∧ w.cell? ⟨B, 8, none⟩ = some (.bool x.r1.absR) ∧
    w.cell? ⟨B, 9, none⟩ = some (I x.r2.col) ∧ w.cell? ⟨B, 10, none⟩ = some (I x.r2.row) ∧ w.cell? ⟨B, 11, none⟩ = some (.bool x.r2.absC) ∧ w.cell? ⟨B, 12, none⟩ = some (.bool x.r2.absR) :=
  ⟨h.cell 0 (by omega), h.cell 1 (by omega), h.cell 2 (by omega), h.cell 3 (by omega), h.cell 4 (by omega), h.cell 5 (by omega), h.cell 6 (by omega), h.cell 7 (by omega), h.cell 8 (by omega), h.cell 9 (by omega), h.cell 10 (by omega), h.cell 11 (by omega), h.cell 12 (by omega)⟩
theorem not_fm {B : FB} {w : World} {F : Fmr} (h : FM w B F) {k : Nat} (hk : w.heap.size ≤ k) : ¬ FmS B k := by
  obtain ⟨l1, l2, l3, l4, l5, l6, l7⟩ := h.lts
  rintro (e | e | e | e | e | e | e) <;> omega
set_option maxRecDepth 100000 in
set_option maxHeartbeats 4000000 in
theorem wholeX (B : FB) (b : Nat → Int) (n nt k : Nat) (st : RS) (x : Nd) (w : World) (h : AF w B b n nt k st) (ho : st.O.length ≤ 41) (hv : st.V.length < 41) (hb : st.V.length = bins st.O) :
    Calls Tryz.prog 198 #[pt B.f, ndV x] w (Ran w B b n nt k (st.whole x) (.tuple #[])) := by
  unfold RS.whole
  rw [addTo_eq]
  obtain ⟨F, hF, hR, rfl, rfl⟩ := h
  have hnv := hR.nvl
  have c6 := hF.row.cell 6 (by omega)
  have c7 := hF.row.cell 7 (by omega)
  simp only [fmC] at c6 c7
  obtain ⟨l1, l2, l3, l4, l5, l6, l7⟩ := hF.lts
  have hAx : AFx ((w.alloc (.cells (ndA x) 149)).drew) B b n F.nt F.k st F.ops F.opnd := ⟨F, (hF.alloc _).drew, hR, rfl, rfl, rfl, rfl⟩
  have hadd := Bx.mk (addY B b n F.nt F.k st F.ops F.opnd x _ hAx)
  have hao := add_O st x
  generalize st.add x = r at *
  have hnb : ¬ FmS B w.heap.size := not_fm hF (Nat.le_refl _)
  have hXr := Bx.mk ((nb_new w x).drew)
  have hset := Bx.mk (fun wx (hx : AF wx B b n F.nt F.k (r.1.vo (r.2 :: st.V) st.O)) => settleX B b n F.nt F.k (r.1.vo (r.2 :: st.V) st.O) wx hx ho (by show (r.2 :: st.V).length ≤ 41; simp; omega) (by show (r.2 :: st.V).length = bins st.O + 1; simp; omega))
  have hVB := Bx.mk hR.V
  have hnvB := Bx.mk hnv
  have hn41 : (F.nv : Int) < 41 := by omega
  have haoB := Bx.mk hao
  have hnbB := Bx.mk hnb
  have n1 : B.f ≠ B.v := hF.ok.fv
  have n2 : B.v ≠ B.f := fun e => hF.ok.fv e.symm
  have n3 : w.heap.size ≠ B.v := by omega
  have n4 : B.v ≠ w.heap.size := by omega
  clear hF hR hAx hao hnb hnv ho hv hb
  go_enter Tryz.func198, Tryz.ntmps198
  go_wp2_with fail
  go_region_held3 (fun w' => w'.cell? ⟨B.f, 6, none⟩ = some (sl B.v 41 41) ∧ w'.cell? ⟨B.f, 7, none⟩ = some (I F.nv) ∧ w'.cell? ⟨w.heap.size, 0, none⟩ = some (I x.kind) ∧ w'.cell? ⟨w.heap.size, 1, none⟩ = some (I x.op) ∧ w'.cell? ⟨w.heap.size, 2, none⟩ = some (I x.a) ∧ w'.cell? ⟨w.heap.size, 3, none⟩ = some (I x.b) ∧ w'.cell? ⟨w.heap.size, 4, none⟩ = some (I x.n) ∧ w'.cell? ⟨w.heap.size, 5, none⟩ = some (I x.r1.col) ∧ w'.cell? ⟨w.heap.size, 6, none⟩ = some (I x.r1.row) ∧ w'.cell? ⟨w.heap.size, 7, none⟩ = some (.bool x.r1.absC) ∧ w'.cell? ⟨w.heap.size, 8, none⟩ = some (.bool x.r1.absR) ∧ w'.cell? ⟨w.heap.size, 9, none⟩ = some (I x.r2.col) ∧ w'.cell? ⟨w.heap.size, 10, none⟩ = some (I x.r2.row) ∧ w'.cell? ⟨w.heap.size, 11, none⟩ = some (.bool x.r2.absC) ∧ w'.cell? ⟨w.heap.size, 12, none⟩ = some (.bool x.r2.absR)) (go_keep)
    (first | (go_at_call 222; refine hadd.out.mono ?_; clear hadd; rintro e w2 ⟨rfl, hA2, hf2⟩; obtain ⟨F2, hF2, hR2, e1, e2, e3, e4⟩ := hA2; have e6 := hR2.nvl; rw [haoB.out.2, ← hnvB.out] at e6; have i6 := hF2.row.cell 6 (by omega); have i7 := hF2.row.cell 7 (by omega); have z7 := hF2.row.frozen 7; simp only [fmC] at i6 i7; rw [e6] at i7; have iv := hF2.opnd.cell F.nv (by omega); have iz := hF2.opnd.frozen F.nv; have fv2 := hF2.ok.fv; have hX2 := Bx.mk (hf2.row hXr.out hnbB.out); obtain ⟨j0, j1, j2, j3, j4, j5, j6, j7, j8, j9, j10, j11, j12⟩ := RowNd hX2.out; have hF2 := Bx.mk hF2; have hR2 := Bx.mk hR2; have e1 := Bx.mk e1; have e2 := Bx.mk e2; have e4 := Bx.mk e4; have e6 := Bx.mk e6; clear e3))
  clear j0 j1 j2 j3 j4 j5 j6 j7 j8 j9 j10 j11 j12
  have h3 := hF2.out.setV F.nv r.2
  have d7 := h3.row.cell 7 (by omega)
  have y7 := h3.row.frozen 7
  simp only [fmC] at d7
  rw [e6.out] at d7
  have h4 := Bx.mk (h3.set (F' := { F2 with opnd := upd F2.opnd F.nv r.2, nv := F.nv + 1 }) 7 (I ((F.nv : Int) + 1)) (by intro i hi; rcases i with _ | _ | _ | _ | _ | _ | _ | _ | _ | _ | _ | _ | _ | _ | _ | _ | _ | i <;> first | rfl | omega | (show I ((F.nv : Int) + 1) = I ((F.nv + 1 : Nat) : Int); congr 1)) rfl rfl rfl rfl rfl rfl rfl)
  have hrel : Bx (Rel b n { F2 with opnd := upd F2.opnd F.nv r.2, nv := F.nv + 1 } (r.1.vo (r.2 :: st.V) st.O)) := Bx.mk { hR2.out with
    V := by show r.2 :: st.V = ((List.range (F.nv + 1)).map (upd F2.opnd F.nv r.2)).reverse; rw [range_rev, upd_same, range_upd _ _ _ _ (Nat.le_refl _), e4.out, ← hVB.out]
    O := by have := hR2.out.O; rw [haoB.out.1] at this; exact this }
  clear h3
  go_wp2_with (first
    | (go_at_call 223; refine (hset.out _ ⟨_, h4.out, hrel.out, e1.out, e2.out⟩).mono ?_; clear hset; rintro e w3 ⟨rfl, hA3, hf3⟩))
  go_end0
  exact ⟨rfl, hA3, (((((Fr.refl _ _).alloc _).drew.trans hf2).fmV F.nv _).fm 7 _).trans hf3⟩
end Go.Proofs.Qxb6500326aGreat
