import Derived.Test.Qxb6500326aGreatU4
import Derived.Test.Qxb6500326aGreatQ4
namespace Go.Proofs.Qxb6500326aGreat
set_option maxRecDepth 100000
set_option linter.unusedVariables false
set_option linter.unusedSimpArgs false
open Go.RowKit Go.PlainAid
theorem nd_get {L : List Nd} {i : Nat} (h : i < L.length) : L[i] = nd L i := by unfold nd; rw [List.getElem?_eq_getElem h]; rfl
theorem NL.cells {w : World} {g n cap : Nat} {L : List Nd} (h : NL w (.slice (some ⟨g, 0, none⟩) n cap) L) {i : Nat} (hi : i < L.length) {x : Nd} (hx : nd L i = x) :
    w.cell? ⟨g, i * 13, none⟩ = some (I x.kind) ∧ w.cell? ⟨g, i * 13 + 1, none⟩ = some (I x.op) ∧ w.cell? ⟨g, i * 13 + 2, none⟩ = some (I x.a) ∧ w.cell? ⟨g, i * 13 + 3, none⟩ = some (I x.b) ∧ w.cell? ⟨g, i * 13 + 4, none⟩ = some (I x.n) ∧
    w.cell? ⟨g, i * 13 + 5, none⟩ = some (I x.r1.col) ∧ w.cell? ⟨g, i * 13 + 6, none⟩ = some (I x.r1.row) ∧ w.cell? ⟨g, i * 13 + 7, none⟩ = some (.bool x.r1.absC) ∧ w.cell? ⟨g, i * 13 + 8, none⟩ = some (.bool x.r1.absR) ∧
    w.cell? ⟨g, i * 13 + 9, none⟩ = some (I x.r2.col) ∧ w.cell? ⟨g, i * 13 + 10, none⟩ = some (I x.r2.row) ∧ w.cell? ⟨g, i * 13 + 11, none⟩ = some (.bool x.r2.absC) ∧ w.cell? ⟨g, i * 13 + 12, none⟩ = some (.bool x.r2.absR) := by
  have e : L[i] = x := (nd_get hi).trans hx
  subst e
  exact ⟨h.cell i 0 hi (by omega) _ rfl, h.cell i 1 hi (by omega) _ rfl, h.cell i 2 hi (by omega) _ rfl, h.cell i 3 hi (by omega) _ rfl, h.cell i 4 hi (by omega) _ rfl, h.cell i 5 hi (by omega) _ rfl, h.cell i 6 hi (by omega) _ rfl, h.cell i 7 hi (by omega) _ rfl, h.cell i 8 hi (by omega) _ rfl, h.cell i 9 hi (by omega) _ rfl, h.cell i 10 hi (by omega) _ rfl, h.cell i 11 hi (by omega) _ rfl, h.cell i 12 hi (by omega) _ rfl⟩
theorem nb_new (w : World) (x : Nd) : Row (w.alloc (.cells (ndA x) 149)) w.heap.size 13 (ndC x) :=
  Row.new _ _ _ _ _ rfl (by
    intro i hi
    have : i = 0 ∨ i = 1 ∨ i = 2 ∨ i = 3 ∨ i = 4 ∨ i = 5 ∨ i = 6 ∨ i = 7 ∨ i = 8 ∨ i = 9 ∨ i = 10 ∨ i = 11 ∨ i = 12 := by omega
    rcases this with e | e | e | e | e | e | e | e | e | e | e | e | e <;> subst e <;> rfl)
/-- Reading only: the text of node i. -/
abbrev Shows (w : World) (T : List Int) : Ending → World → Prop := fun e w' => e = .returned (.string (bs T)) ∧ Fr S0 w w'
set_option maxRecDepth 100000 in
set_option maxHeartbeats 2000000 in
theorem show_num (g n cap : Nat) (L : List Nd) (i : Nat) (w : World) (hn : L.length = n) (h : NL w (.slice (some ⟨g, 0, none⟩) n cap) L) (hi : i < L.length) (v : Nat) (hv : v ≤ 999999999) (hx : nd L i = nNum v) (need : Int) (hneed : need ≤ 5) :
    Calls Tryz.prog 150 #[.slice (some ⟨g, 0, none⟩) n cap, I i, I need] w (Shows w (dec v)) := by
  obtain ⟨k0, k1, k2, k3, k4, k5, k6, k7, k8, k9, k10, k11, k12⟩ := h.cells hi hx
  simp only [nNum, rz] at k0 k1 k2 k3 k4 k5 k6 k7 k8 k9 k10 k11 k12
  have hiI : (i : Int) < (n : Int) := by omega
  have hB := Bx.mk h
  clear h hx
  have nd5 : decide ((5 : Int) < need) = false := decide_eq_false (by omega)
  go_enter Tryz.func150, Tryz.ntmps150
  go_wp2_with (first
    | (go_at_call 176; refine (level_any (nNum v) _).mono ?_; rintro e w1 ⟨rfl, hf1⟩; rw [show level (nNum v) = 5 from rfl]; have hX1 := Bx.mk (hf1.row0 (nb_new w (nNum v))); have hN1 := Bx.mk ((hB.out.fr0 ((Fr.refl _ _).alloc _)).fr0 hf1); have q0 := hX1.out.cell 0 (by omega); have q4 := hX1.out.cell 4 (by omega); simp only [ndC, nNum] at q0 q4)
    | (go_at_call 177; refine (itoa_any v _ hv).mono ?_; rintro e w2 ⟨rfl, hf2⟩))
  go_ret
  exact ⟨rfl, (((Fr.refl _ _).alloc _).trans hf1).trans hf2⟩
set_option maxRecDepth 100000 in
set_option maxHeartbeats 2000000 in
theorem show_bool0 (g n cap : Nat) (L : List Nd) (i : Nat) (w : World) (hn : L.length = n) (h : NL w (.slice (some ⟨g, 0, none⟩) n cap) L) (hi : i < L.length)  (hx : nd L i = nBool 0) (need : Int) (hneed : need ≤ 5) :
    Calls Tryz.prog 150 #[.slice (some ⟨g, 0, none⟩) n cap, I i, I need] w (Shows w (wFalse)) := by
  obtain ⟨k0, k1, k2, k3, k4, k5, k6, k7, k8, k9, k10, k11, k12⟩ := h.cells hi hx
  simp only [nBool, rz] at k0 k1 k2 k3 k4 k5 k6 k7 k8 k9 k10 k11 k12
  have hiI : (i : Int) < (n : Int) := by omega
  have hB := Bx.mk h
  clear h hx
  have nd5 : decide ((5 : Int) < need) = false := decide_eq_false (by omega)
  go_enter Tryz.func150, Tryz.ntmps150
  go_wp2_with (first
    | (go_at_call 176; refine (level_any (nBool 0) _).mono ?_; rintro e w1 ⟨rfl, hf1⟩; rw [show level (nBool 0) = 5 from rfl]; have hX1 := Bx.mk (hf1.row0 (nb_new w (nBool 0))); have hN1 := Bx.mk ((hB.out.fr0 ((Fr.refl _ _).alloc _)).fr0 hf1); have q0 := hX1.out.cell 0 (by omega); have q4 := hX1.out.cell 4 (by omega); simp only [ndC, nBool] at q0 q4))
  go_ret
  exact ⟨rfl, ((Fr.refl _ _).alloc _).trans hf1⟩
set_option maxRecDepth 100000 in
set_option maxHeartbeats 2000000 in
theorem show_bool1 (g n cap : Nat) (L : List Nd) (i : Nat) (w : World) (hn : L.length = n) (h : NL w (.slice (some ⟨g, 0, none⟩) n cap) L) (hi : i < L.length)  (hx : nd L i = nBool 1) (need : Int) (hneed : need ≤ 5) :
    Calls Tryz.prog 150 #[.slice (some ⟨g, 0, none⟩) n cap, I i, I need] w (Shows w (wTrue)) := by
  obtain ⟨k0, k1, k2, k3, k4, k5, k6, k7, k8, k9, k10, k11, k12⟩ := h.cells hi hx
  simp only [nBool, rz] at k0 k1 k2 k3 k4 k5 k6 k7 k8 k9 k10 k11 k12
  have hiI : (i : Int) < (n : Int) := by omega
  have hB := Bx.mk h
  clear h hx
  have nd5 : decide ((5 : Int) < need) = false := decide_eq_false (by omega)
  go_enter Tryz.func150, Tryz.ntmps150
  go_wp2_with (first
    | (go_at_call 176; refine (level_any (nBool 1) _).mono ?_; rintro e w1 ⟨rfl, hf1⟩; rw [show level (nBool 1) = 5 from rfl]; have hX1 := Bx.mk (hf1.row0 (nb_new w (nBool 1))); have hN1 := Bx.mk ((hB.out.fr0 ((Fr.refl _ _).alloc _)).fr0 hf1); have q0 := hX1.out.cell 0 (by omega); have q4 := hX1.out.cell 4 (by omega); simp only [ndC, nBool] at q0 q4))
  go_ret
  exact ⟨rfl, ((Fr.refl _ _).alloc _).trans hf1⟩
set_option maxRecDepth 100000 in
set_option maxHeartbeats 2000000 in
theorem show_ref (g n cap : Nat) (L : List Nd) (i : Nat) (w : World) (hn : L.length = n) (h : NL w (.slice (some ⟨g, 0, none⟩) n cap) L) (hi : i < L.length) (r : Ref) (hr : refIn r) (hx : nd L i = nRef r) (need : Int) (hneed : need ≤ 5) :
    Calls Tryz.prog 150 #[.slice (some ⟨g, 0, none⟩) n cap, I i, I need] w (Shows w (refTxt r)) := by
  obtain ⟨k0, k1, k2, k3, k4, k5, k6, k7, k8, k9, k10, k11, k12⟩ := h.cells hi hx
  simp only [nRef, rz] at k0 k1 k2 k3 k4 k5 k6 k7 k8 k9 k10 k11 k12
  have hiI : (i : Int) < (n : Int) := by omega
  have hB := Bx.mk h
  clear h hx
  have nd5 : decide ((5 : Int) < need) = false := decide_eq_false (by omega)
  go_enter Tryz.func150, Tryz.ntmps150
  go_wp2_with (first
    | (go_at_call 176; refine (level_any (nRef r) _).mono ?_; rintro e w1 ⟨rfl, hf1⟩; rw [show level (nRef r) = 5 from rfl]; have hX1 := Bx.mk (hf1.row0 (nb_new w (nRef r))); have hN1 := Bx.mk ((hB.out.fr0 ((Fr.refl _ _).alloc _)).fr0 hf1); have q0 := hX1.out.cell 0 (by omega); have q5 := hX1.out.cell 5 (by omega); have q6 := hX1.out.cell 6 (by omega); have q7 := hX1.out.cell 7 (by omega); have q8 := hX1.out.cell 8 (by omega); simp only [ndC, nRef] at q0 q5 q6 q7 q8)
    | (go_at_call 178; refine (refText_any r hr _).mono ?_; rintro e w2 ⟨rfl, hf2⟩))
  go_ret
  exact ⟨rfl, (((Fr.refl _ _).alloc _).trans hf1).trans hf2⟩
set_option maxRecDepth 100000 in
set_option maxHeartbeats 2000000 in
theorem show_bad (g n cap : Nat) (L : List Nd) (i : Nat) (w : World) (hn : L.length = n) (h : NL w (.slice (some ⟨g, 0, none⟩) n cap) L) (hi : i < L.length)  (hx : nd L i = nBad) (need : Int) (hneed : need ≤ 5) :
    Calls Tryz.prog 150 #[.slice (some ⟨g, 0, none⟩) n cap, I i, I need] w (Shows w ([35, 35])) := by
  obtain ⟨k0, k1, k2, k3, k4, k5, k6, k7, k8, k9, k10, k11, k12⟩ := h.cells hi hx
  simp only [nBad, rz] at k0 k1 k2 k3 k4 k5 k6 k7 k8 k9 k10 k11 k12
  have hiI : (i : Int) < (n : Int) := by omega
  have hB := Bx.mk h
  clear h hx
  have nd5 : decide ((5 : Int) < need) = false := decide_eq_false (by omega)
  go_enter Tryz.func150, Tryz.ntmps150
  go_wp2_with (first
    | (go_at_call 176; refine (level_any nBad _).mono ?_; rintro e w1 ⟨rfl, hf1⟩; rw [show level nBad = 5 from rfl]; have hX1 := Bx.mk (hf1.row0 (nb_new w nBad)); have hN1 := Bx.mk ((hB.out.fr0 ((Fr.refl _ _).alloc _)).fr0 hf1); have q0 := hX1.out.cell 0 (by omega); simp only [ndC, nBad] at q0))
  go_ret
  exact ⟨rfl, ((Fr.refl _ _).alloc _).trans hf1⟩
set_option maxRecDepth 100000 in
set_option maxHeartbeats 2000000 in
theorem show_range (g n cap : Nat) (L : List Nd) (i : Nat) (w : World) (hn : L.length = n) (h : NL w (.slice (some ⟨g, 0, none⟩) n cap) L) (hi : i < L.length) (r s : Ref) (hr : refIn r) (hs : refIn s) (hx : nd L i = nRange r s) (need : Int) (hneed : need ≤ 5) :
    Calls Tryz.prog 150 #[.slice (some ⟨g, 0, none⟩) n cap, I i, I need] w (Shows w (refTxt r ++ 58 :: refTxt s)) := by
  obtain ⟨k0, k1, k2, k3, k4, k5, k6, k7, k8, k9, k10, k11, k12⟩ := h.cells hi hx
  simp only [nRange, rz] at k0 k1 k2 k3 k4 k5 k6 k7 k8 k9 k10 k11 k12
  have hiI : (i : Int) < (n : Int) := by omega
  have hB := Bx.mk h
  clear h hx
  have nd5 : decide ((5 : Int) < need) = false := decide_eq_false (by omega)
  have lr := refTxt_len hr
  have ls := refTxt_len hs
  have hR1 := Bx.mk (fun x => refText_any r hr x)
  have hR2 := Bx.mk (fun x => refText_any s hs x)
  clear hr hs
  go_enter Tryz.func150, Tryz.ntmps150
  go_wp2_with (first
    | (go_at_call 176; refine (level_any (nRange r s) _).mono ?_; rintro e w1 ⟨rfl, hf1⟩; rw [show level (nRange r s) = 5 from rfl]; have hX1 := Bx.mk (hf1.row0 (nb_new w (nRange r s))); have hN1 := Bx.mk ((hB.out.fr0 ((Fr.refl _ _).alloc _)).fr0 hf1); have q0 := hX1.out.cell 0 (by omega); have q5 := hX1.out.cell 5 (by omega); have q6 := hX1.out.cell 6 (by omega); have q7 := hX1.out.cell 7 (by omega); have q8 := hX1.out.cell 8 (by omega); have q9 := hX1.out.cell 9 (by omega); have q10 := hX1.out.cell 10 (by omega); have q11 := hX1.out.cell 11 (by omega); have q12 := hX1.out.cell 12 (by omega); simp only [ndC, nRange] at q0 q5 q6 q7 q8 q9 q10 q11 q12)
    | (go_at_call 178; refine (hR1.out _).mono ?_; clear hR1; rintro e w2 ⟨rfl, hf2⟩; have hX2 := Bx.mk (hf2.row0 hX1.out); have hN2 := Bx.mk (hN1.out.fr0 hf2); clear q0 q5 q6 q7 q8 q9 q10 q11 q12; have q0 := hX2.out.cell 0 (by omega); have q5 := hX2.out.cell 5 (by omega); have q6 := hX2.out.cell 6 (by omega); have q7 := hX2.out.cell 7 (by omega); have q8 := hX2.out.cell 8 (by omega); have q9 := hX2.out.cell 9 (by omega); have q10 := hX2.out.cell 10 (by omega); have q11 := hX2.out.cell 11 (by omega); have q12 := hX2.out.cell 12 (by omega); simp only [ndC, nRange] at q0 q5 q6 q7 q8 q9 q10 q11 q12)
    | (go_at_call 178; refine (hR2.out _).mono ?_; clear hR2; rintro e w3 ⟨rfl, hf3⟩)
    | (refine wpList_add_str rfl (.tmp 47) (.const (.string ⟨#[58]⟩)) (by rfl) (refTxt r) [58] (by rfl) (by rfl) (by simp; omega) ?_)
    | (refine wpList_add_str rfl (.tmp 48) (.tmp 49) (by rfl) (refTxt r ++ [58]) (refTxt s) (by rfl) (by rfl) (by simp; omega) ?_))
  go_ret
  exact ⟨by simp, ((((Fr.refl _ _).alloc _).trans hf1).trans hf2).trans hf3⟩
set_option maxRecDepth 100000 in
set_option maxHeartbeats 2000000 in
theorem show_neg1 (g n cap : Nat) (L : List Nd) (i : Nat) (w : World) (hn : L.length = n) (h : NL w (.slice (some ⟨g, 0, none⟩) n cap) L) (hi : i < L.length) (T : List Int) (hrec : Bx (∀ w, NL w (.slice (some ⟨g, 0, none⟩) n cap) L → Calls Tryz.prog 150 #[.slice (some ⟨g, 0, none⟩) n cap, I ((i : Int) - 1), I 4] w (Shows w T))) (hT : T.length ≤ 1000) (hx : nd L i = nNeg ((i : Int) - 1)) (need : Int) (hneed : 4 < need) :
    Calls Tryz.prog 150 #[.slice (some ⟨g, 0, none⟩) n cap, I i, I need] w (Shows w (40 :: ((45 :: T) ++ [41]))) := by
  obtain ⟨k0, k1, k2, k3, k4, k5, k6, k7, k8, k9, k10, k11, k12⟩ := h.cells hi hx
  simp only [nNeg, rz] at k0 k1 k2 k3 k4 k5 k6 k7 k8 k9 k10 k11 k12
  have hiI : (i : Int) < (n : Int) := by omega
  have hB := Bx.mk h
  clear h hx
  have nd4 : decide ((4 : Int) < need) = true := decide_eq_true hneed
  go_enter Tryz.func150, Tryz.ntmps150
  go_wp2_with (first
    | (go_at_call 176; refine (level_any (nNeg ((i : Int) - 1)) _).mono ?_; rintro e w1 ⟨rfl, hf1⟩; rw [show level (nNeg ((i : Int) - 1)) = 4 from rfl]; have hX1 := Bx.mk (hf1.row0 (nb_new w (nNeg ((i : Int) - 1)))); have hN1 := Bx.mk ((hB.out.fr0 ((Fr.refl _ _).alloc _)).fr0 hf1); have q0 := hX1.out.cell 0 (by omega); have q2 := hX1.out.cell 2 (by omega); simp only [ndC, nNeg] at q0 q2)
    | (go_at_call 150; refine (hrec.out _ hN1.out).mono ?_; clear hrec; rintro e w2 ⟨rfl, hf2⟩)
    | (refine wpList_add_str rfl (.const (.string ⟨#[45]⟩)) (.tmp 58) (by rfl) [45] T (by rfl) (by rfl) (by simp; omega) ?_)
    | (refine wpList_add_str rfl (.const (.string ⟨#[40]⟩)) (.tmp 99) (by rfl) [40] ([45] ++ T) (by rfl) (by rfl) (by simp; omega) ?_)
    | (refine wpList_add_str rfl (.tmp 100) (.const (.string ⟨#[41]⟩)) (by rfl) ([40] ++ ([45] ++ T)) [41] (by rfl) (by rfl) (by simp; omega) ?_))
  go_ret
  exact ⟨by simp, (((Fr.refl _ _).alloc _).trans hf1).trans hf2⟩
set_option maxRecDepth 100000 in
set_option maxHeartbeats 2000000 in
theorem show_neg0 (g n cap : Nat) (L : List Nd) (i : Nat) (w : World) (hn : L.length = n) (h : NL w (.slice (some ⟨g, 0, none⟩) n cap) L) (hi : i < L.length) (T : List Int) (hrec : Bx (∀ w, NL w (.slice (some ⟨g, 0, none⟩) n cap) L → Calls Tryz.prog 150 #[.slice (some ⟨g, 0, none⟩) n cap, I ((i : Int) - 1), I 4] w (Shows w T))) (hT : T.length ≤ 1000) (hx : nd L i = nNeg ((i : Int) - 1)) (need : Int) (hneed : need ≤ 4) :
    Calls Tryz.prog 150 #[.slice (some ⟨g, 0, none⟩) n cap, I i, I need] w (Shows w (45 :: T)) := by
  obtain ⟨k0, k1, k2, k3, k4, k5, k6, k7, k8, k9, k10, k11, k12⟩ := h.cells hi hx
  simp only [nNeg, rz] at k0 k1 k2 k3 k4 k5 k6 k7 k8 k9 k10 k11 k12
  have hiI : (i : Int) < (n : Int) := by omega
  have hB := Bx.mk h
  clear h hx
  have nd4 : decide ((4 : Int) < need) = false := decide_eq_false (by omega)
  go_enter Tryz.func150, Tryz.ntmps150
  go_wp2_with (first
    | (go_at_call 176; refine (level_any (nNeg ((i : Int) - 1)) _).mono ?_; rintro e w1 ⟨rfl, hf1⟩; rw [show level (nNeg ((i : Int) - 1)) = 4 from rfl]; have hX1 := Bx.mk (hf1.row0 (nb_new w (nNeg ((i : Int) - 1)))); have hN1 := Bx.mk ((hB.out.fr0 ((Fr.refl _ _).alloc _)).fr0 hf1); have q0 := hX1.out.cell 0 (by omega); have q2 := hX1.out.cell 2 (by omega); simp only [ndC, nNeg] at q0 q2)
    | (go_at_call 150; refine (hrec.out _ hN1.out).mono ?_; clear hrec; rintro e w2 ⟨rfl, hf2⟩)
    | (refine wpList_add_str rfl (.const (.string ⟨#[45]⟩)) (.tmp 58) (by rfl) [45] T (by rfl) (by rfl) (by simp; omega) ?_))
  go_ret
  exact ⟨by simp, (((Fr.refl _ _).alloc _).trans hf1).trans hf2⟩
end Go.Proofs.Qxb6500326aGreat
