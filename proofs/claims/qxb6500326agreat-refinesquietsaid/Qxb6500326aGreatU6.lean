import Derived.Test.Qxb6500326aGreatU5
namespace Go.Proofs.Qxb6500326aGreat
set_option maxRecDepth 100000
set_option linter.unusedVariables false
set_option linter.unusedSimpArgs false
open Go.RowKit Go.PlainAid
set_option maxRecDepth 100000 in
set_option maxHeartbeats 2000000 in
theorem show_call (g n cap : Nat) (L : List Nd) (i : Nat) (w : World) (hn : L.length = n) (h : NL w (.slice (some ⟨g, 0, none⟩) n cap) L) (hi : i < L.length) (op k : Int) (T : List Int) (hrec : Bx (∀ w, NL w (.slice (some ⟨g, 0, none⟩) n cap) L → Calls Tryz.prog 180 #[.slice (some ⟨g, 0, none⟩) n cap, I ((i : Int) - 1)] w (Shows w T))) (hT : T.length ≤ 1000) (hx : nd L i = nCall op ((i : Int) - 1) k) (need : Int) (hneed : need ≤ 5) :
    Calls Tryz.prog 150 #[.slice (some ⟨g, 0, none⟩) n cap, I i, I need] w (Shows w (fnName op ++ 40 :: (T ++ [41]))) := by
  obtain ⟨k0, k1, k2, k3, k4, k5, k6, k7, k8, k9, k10, k11, k12⟩ := h.cells hi hx
  simp only [nCall, rz] at k0 k1 k2 k3 k4 k5 k6 k7 k8 k9 k10 k11 k12
  have hiI : (i : Int) < (n : Int) := by omega
  have hB := Bx.mk h
  clear h hx
  have nd5 : decide ((5 : Int) < need) = false := decide_eq_false (by omega)
  have lf := fn_len op
  go_enter Tryz.func150, Tryz.ntmps150
  go_wp2_with (first
    | (go_at_call 176; refine (level_any (nCall op ((i : Int) - 1) k) _).mono ?_; rintro e w1 ⟨rfl, hf1⟩; rw [show level (nCall op ((i : Int) - 1) k) = 5 from rfl]; have hX1 := Bx.mk (hf1.row0 (nb_new w (nCall op ((i : Int) - 1) k))); have hN1 := Bx.mk ((hB.out.fr0 ((Fr.refl _ _).alloc _)).fr0 hf1); have q0 := hX1.out.cell 0 (by omega); have q1 := hX1.out.cell 1 (by omega); have q2 := hX1.out.cell 2 (by omega); simp only [ndC, nCall] at q0 q1 q2)
    | (go_at_call 180; refine (hrec.out _ hN1.out).mono ?_; clear hrec; rintro e w2 ⟨rfl, hf2⟩; have hX2 := Bx.mk (hf2.row0 hX1.out); have hN2 := Bx.mk (hN1.out.fr0 hf2); clear q0 q1 q2; have q0 := hX2.out.cell 0 (by omega); have q1 := hX2.out.cell 1 (by omega); have q2 := hX2.out.cell 2 (by omega); simp only [ndC, nCall] at q0 q1 q2)
    | (go_at_call 181; refine (fn_any op _).mono ?_; rintro e w3 ⟨rfl, rfl⟩)
    | (refine wpList_add_str rfl (.tmp 91) (.const (.string ⟨#[40]⟩)) (by rfl) (fnName op) [40] (by rfl) (by rfl) (by simp; omega) ?_)
    | (refine wpList_add_str rfl (.tmp 92) (.tmp 93) (by rfl) (fnName op ++ [40]) T (by rfl) (by rfl) (by simp; omega) ?_)
    | (refine wpList_add_str rfl (.tmp 94) (.const (.string ⟨#[41]⟩)) (by rfl) (fnName op ++ [40] ++ T) [41] (by rfl) (by rfl) (by simp; omega) ?_))
  go_ret
  exact ⟨by simp, (((Fr.refl _ _).alloc _).trans hf1).trans hf2⟩
set_option maxRecDepth 100000 in
set_option maxHeartbeats 2000000 in
theorem show_bin11 (g n cap : Nat) (L : List Nd) (i : Nat) (w : World) (hn : L.length = n) (h : NL w (.slice (some ⟨g, 0, none⟩) n cap) L) (hi : i < L.length) (op a : Int) (hop1 : 1 ≤ op) (hop2 : op ≤ 10) (T U : List Int) (hA : Bx (∀ w, NL w (.slice (some ⟨g, 0, none⟩) n cap) L → Calls Tryz.prog 150 #[.slice (some ⟨g, 0, none⟩) n cap, I a, I 2] w (Shows w T))) (hT : T.length ≤ 1000) (hB2 : Bx (∀ w, NL w (.slice (some ⟨g, 0, none⟩) n cap) L → Calls Tryz.prog 150 #[.slice (some ⟨g, 0, none⟩) n cap, I ((i : Int) - 1), I 2] w (Shows w U))) (hU : U.length ≤ 1000) (hlv : Bx (level (nBin op a ((i : Int) - 1)) = 1)) (hx : nd L i = nBin op a ((i : Int) - 1)) (need : Int) (hneed : 1 < need) :
    Calls Tryz.prog 150 #[.slice (some ⟨g, 0, none⟩) n cap, I i, I need] w (Shows w (40 :: ((T ++ opTxt op ++ U) ++ [41]))) := by
  obtain ⟨k0, k1, k2, k3, k4, k5, k6, k7, k8, k9, k10, k11, k12⟩ := h.cells hi hx
  simp only [nBin, rz] at k0 k1 k2 k3 k4 k5 k6 k7 k8 k9 k10 k11 k12
  have hiI : (i : Int) < (n : Int) := by omega
  have hB := Bx.mk h
  clear h hx
  have ndl : decide ((1 : Int) < need) = true := decide_eq_true hneed
  have lo := opTxt_len op
  go_enter Tryz.func150, Tryz.ntmps150
  go_wp2_with (first
    | (go_at_call 176; refine (level_any (nBin op a ((i : Int) - 1)) _).mono ?_; rintro e w1 ⟨rfl, hf1⟩; rw [show level (nBin op a ((i : Int) - 1)) = 1 from hlv.out]; have hX1 := Bx.mk (hf1.row0 (nb_new w (nBin op a ((i : Int) - 1)))); have hN1 := Bx.mk ((hB.out.fr0 ((Fr.refl _ _).alloc _)).fr0 hf1); have q0 := hX1.out.cell 0 (by omega); have q1 := hX1.out.cell 1 (by omega); have q2 := hX1.out.cell 2 (by omega); have q3 := hX1.out.cell 3 (by omega); simp only [ndC, nBin] at q0 q1 q2 q3)
    | (go_at_call 150; refine (hA.out _ hN1.out).mono ?_; clear hA; rintro e w2 ⟨rfl, hf2⟩; have hX2 := Bx.mk (hf2.row0 hX1.out); have hN2 := Bx.mk (hN1.out.fr0 hf2); clear q0 q1 q2 q3; have q0 := hX2.out.cell 0 (by omega); have q1 := hX2.out.cell 1 (by omega); have q2 := hX2.out.cell 2 (by omega); have q3 := hX2.out.cell 3 (by omega); simp only [ndC, nBin] at q0 q1 q2 q3)
    | (go_at_call 150; refine (hB2.out _ hN2.out).mono ?_; clear hB2; rintro e w3 ⟨rfl, hf3⟩; have hX3 := Bx.mk (hf3.row0 hX2.out); have hN3 := Bx.mk (hN2.out.fr0 hf3); clear q0 q1 q2 q3; have q0 := hX3.out.cell 0 (by omega); have q1 := hX3.out.cell 1 (by omega); have q2 := hX3.out.cell 2 (by omega); have q3 := hX3.out.cell 3 (by omega); simp only [ndC, nBin] at q0 q1 q2 q3)
    | (go_at_call 179; refine (opText_any op hop1 hop2 _).mono ?_; rintro e w4 ⟨rfl, rfl⟩)
    | (refine wpList_add_str rfl (.tmp 76) (.tmp 79) (by rfl) T (opTxt op) (by rfl) (by rfl) (by omega) ?_)
    | (refine wpList_add_str rfl (.tmp 80) (.tmp 81) (by rfl) (T ++ opTxt op) U (by rfl) (by rfl) (by simp; omega) ?_)
    | (refine wpList_add_str rfl (.const (.string ⟨#[40]⟩)) (.tmp 99) (by rfl) [40] (T ++ (opTxt op ++ U)) (by rfl) (by rfl) (by simp; omega) ?_)
    | (refine wpList_add_str rfl (.tmp 100) (.const (.string ⟨#[41]⟩)) (by rfl) ([40] ++ (T ++ (opTxt op ++ U))) [41] (by rfl) (by rfl) (by simp; omega) ?_))
  go_ret
  exact ⟨by simp, ((((Fr.refl _ _).alloc _).trans hf1).trans hf2).trans hf3⟩
set_option maxRecDepth 100000 in
set_option maxHeartbeats 2000000 in
theorem show_bin10 (g n cap : Nat) (L : List Nd) (i : Nat) (w : World) (hn : L.length = n) (h : NL w (.slice (some ⟨g, 0, none⟩) n cap) L) (hi : i < L.length) (op a : Int) (hop1 : 1 ≤ op) (hop2 : op ≤ 10) (T U : List Int) (hA : Bx (∀ w, NL w (.slice (some ⟨g, 0, none⟩) n cap) L → Calls Tryz.prog 150 #[.slice (some ⟨g, 0, none⟩) n cap, I a, I 2] w (Shows w T))) (hT : T.length ≤ 1000) (hB2 : Bx (∀ w, NL w (.slice (some ⟨g, 0, none⟩) n cap) L → Calls Tryz.prog 150 #[.slice (some ⟨g, 0, none⟩) n cap, I ((i : Int) - 1), I 2] w (Shows w U))) (hU : U.length ≤ 1000) (hlv : Bx (level (nBin op a ((i : Int) - 1)) = 1)) (hx : nd L i = nBin op a ((i : Int) - 1)) (need : Int) (hneed : need ≤ 1) :
    Calls Tryz.prog 150 #[.slice (some ⟨g, 0, none⟩) n cap, I i, I need] w (Shows w (T ++ opTxt op ++ U)) := by
  obtain ⟨k0, k1, k2, k3, k4, k5, k6, k7, k8, k9, k10, k11, k12⟩ := h.cells hi hx
  simp only [nBin, rz] at k0 k1 k2 k3 k4 k5 k6 k7 k8 k9 k10 k11 k12
  have hiI : (i : Int) < (n : Int) := by omega
  have hB := Bx.mk h
  clear h hx
  have ndl : decide ((1 : Int) < need) = false := decide_eq_false (by omega)
  have lo := opTxt_len op
  go_enter Tryz.func150, Tryz.ntmps150
  go_wp2_with (first
    | (go_at_call 176; refine (level_any (nBin op a ((i : Int) - 1)) _).mono ?_; rintro e w1 ⟨rfl, hf1⟩; rw [show level (nBin op a ((i : Int) - 1)) = 1 from hlv.out]; have hX1 := Bx.mk (hf1.row0 (nb_new w (nBin op a ((i : Int) - 1)))); have hN1 := Bx.mk ((hB.out.fr0 ((Fr.refl _ _).alloc _)).fr0 hf1); have q0 := hX1.out.cell 0 (by omega); have q1 := hX1.out.cell 1 (by omega); have q2 := hX1.out.cell 2 (by omega); have q3 := hX1.out.cell 3 (by omega); simp only [ndC, nBin] at q0 q1 q2 q3)
    | (go_at_call 150; refine (hA.out _ hN1.out).mono ?_; clear hA; rintro e w2 ⟨rfl, hf2⟩; have hX2 := Bx.mk (hf2.row0 hX1.out); have hN2 := Bx.mk (hN1.out.fr0 hf2); clear q0 q1 q2 q3; have q0 := hX2.out.cell 0 (by omega); have q1 := hX2.out.cell 1 (by omega); have q2 := hX2.out.cell 2 (by omega); have q3 := hX2.out.cell 3 (by omega); simp only [ndC, nBin] at q0 q1 q2 q3)
    | (go_at_call 150; refine (hB2.out _ hN2.out).mono ?_; clear hB2; rintro e w3 ⟨rfl, hf3⟩; have hX3 := Bx.mk (hf3.row0 hX2.out); have hN3 := Bx.mk (hN2.out.fr0 hf3); clear q0 q1 q2 q3; have q0 := hX3.out.cell 0 (by omega); have q1 := hX3.out.cell 1 (by omega); have q2 := hX3.out.cell 2 (by omega); have q3 := hX3.out.cell 3 (by omega); simp only [ndC, nBin] at q0 q1 q2 q3)
    | (go_at_call 179; refine (opText_any op hop1 hop2 _).mono ?_; rintro e w4 ⟨rfl, rfl⟩)
    | (refine wpList_add_str rfl (.tmp 76) (.tmp 79) (by rfl) T (opTxt op) (by rfl) (by rfl) (by omega) ?_)
    | (refine wpList_add_str rfl (.tmp 80) (.tmp 81) (by rfl) (T ++ opTxt op) U (by rfl) (by rfl) (by simp; omega) ?_))
  go_ret
  exact ⟨by simp, ((((Fr.refl _ _).alloc _).trans hf1).trans hf2).trans hf3⟩
set_option maxRecDepth 100000 in
set_option maxHeartbeats 2000000 in
theorem show_bin21 (g n cap : Nat) (L : List Nd) (i : Nat) (w : World) (hn : L.length = n) (h : NL w (.slice (some ⟨g, 0, none⟩) n cap) L) (hi : i < L.length) (op a : Int) (hop1 : 1 ≤ op) (hop2 : op ≤ 10) (T U : List Int) (hA : Bx (∀ w, NL w (.slice (some ⟨g, 0, none⟩) n cap) L → Calls Tryz.prog 150 #[.slice (some ⟨g, 0, none⟩) n cap, I a, I 2] w (Shows w T))) (hT : T.length ≤ 1000) (hB2 : Bx (∀ w, NL w (.slice (some ⟨g, 0, none⟩) n cap) L → Calls Tryz.prog 150 #[.slice (some ⟨g, 0, none⟩) n cap, I ((i : Int) - 1), I 3] w (Shows w U))) (hU : U.length ≤ 1000) (hlv : Bx (level (nBin op a ((i : Int) - 1)) = 2)) (hx : nd L i = nBin op a ((i : Int) - 1)) (need : Int) (hneed : 2 < need) :
    Calls Tryz.prog 150 #[.slice (some ⟨g, 0, none⟩) n cap, I i, I need] w (Shows w (40 :: ((T ++ opTxt op ++ U) ++ [41]))) := by
  obtain ⟨k0, k1, k2, k3, k4, k5, k6, k7, k8, k9, k10, k11, k12⟩ := h.cells hi hx
  simp only [nBin, rz] at k0 k1 k2 k3 k4 k5 k6 k7 k8 k9 k10 k11 k12
  have hiI : (i : Int) < (n : Int) := by omega
  have hB := Bx.mk h
  clear h hx
  have ndl : decide ((2 : Int) < need) = true := decide_eq_true hneed
  have lo := opTxt_len op
  go_enter Tryz.func150, Tryz.ntmps150
  go_wp2_with (first
    | (go_at_call 176; refine (level_any (nBin op a ((i : Int) - 1)) _).mono ?_; rintro e w1 ⟨rfl, hf1⟩; rw [show level (nBin op a ((i : Int) - 1)) = 2 from hlv.out]; have hX1 := Bx.mk (hf1.row0 (nb_new w (nBin op a ((i : Int) - 1)))); have hN1 := Bx.mk ((hB.out.fr0 ((Fr.refl _ _).alloc _)).fr0 hf1); have q0 := hX1.out.cell 0 (by omega); have q1 := hX1.out.cell 1 (by omega); have q2 := hX1.out.cell 2 (by omega); have q3 := hX1.out.cell 3 (by omega); simp only [ndC, nBin] at q0 q1 q2 q3)
    | (go_at_call 150; refine (hA.out _ hN1.out).mono ?_; clear hA; rintro e w2 ⟨rfl, hf2⟩; have hX2 := Bx.mk (hf2.row0 hX1.out); have hN2 := Bx.mk (hN1.out.fr0 hf2); clear q0 q1 q2 q3; have q0 := hX2.out.cell 0 (by omega); have q1 := hX2.out.cell 1 (by omega); have q2 := hX2.out.cell 2 (by omega); have q3 := hX2.out.cell 3 (by omega); simp only [ndC, nBin] at q0 q1 q2 q3)
    | (go_at_call 150; refine (hB2.out _ hN2.out).mono ?_; clear hB2; rintro e w3 ⟨rfl, hf3⟩; have hX3 := Bx.mk (hf3.row0 hX2.out); have hN3 := Bx.mk (hN2.out.fr0 hf3); clear q0 q1 q2 q3; have q0 := hX3.out.cell 0 (by omega); have q1 := hX3.out.cell 1 (by omega); have q2 := hX3.out.cell 2 (by omega); have q3 := hX3.out.cell 3 (by omega); simp only [ndC, nBin] at q0 q1 q2 q3)
    | (go_at_call 179; refine (opText_any op hop1 hop2 _).mono ?_; rintro e w4 ⟨rfl, rfl⟩)
    | (refine wpList_add_str rfl (.tmp 76) (.tmp 79) (by rfl) T (opTxt op) (by rfl) (by rfl) (by omega) ?_)
    | (refine wpList_add_str rfl (.tmp 80) (.tmp 81) (by rfl) (T ++ opTxt op) U (by rfl) (by rfl) (by simp; omega) ?_)
    | (refine wpList_add_str rfl (.const (.string ⟨#[40]⟩)) (.tmp 99) (by rfl) [40] (T ++ (opTxt op ++ U)) (by rfl) (by rfl) (by simp; omega) ?_)
    | (refine wpList_add_str rfl (.tmp 100) (.const (.string ⟨#[41]⟩)) (by rfl) ([40] ++ (T ++ (opTxt op ++ U))) [41] (by rfl) (by rfl) (by simp; omega) ?_))
  go_ret
  exact ⟨by simp, ((((Fr.refl _ _).alloc _).trans hf1).trans hf2).trans hf3⟩
set_option maxRecDepth 100000 in
set_option maxHeartbeats 2000000 in
theorem show_bin20 (g n cap : Nat) (L : List Nd) (i : Nat) (w : World) (hn : L.length = n) (h : NL w (.slice (some ⟨g, 0, none⟩) n cap) L) (hi : i < L.length) (op a : Int) (hop1 : 1 ≤ op) (hop2 : op ≤ 10) (T U : List Int) (hA : Bx (∀ w, NL w (.slice (some ⟨g, 0, none⟩) n cap) L → Calls Tryz.prog 150 #[.slice (some ⟨g, 0, none⟩) n cap, I a, I 2] w (Shows w T))) (hT : T.length ≤ 1000) (hB2 : Bx (∀ w, NL w (.slice (some ⟨g, 0, none⟩) n cap) L → Calls Tryz.prog 150 #[.slice (some ⟨g, 0, none⟩) n cap, I ((i : Int) - 1), I 3] w (Shows w U))) (hU : U.length ≤ 1000) (hlv : Bx (level (nBin op a ((i : Int) - 1)) = 2)) (hx : nd L i = nBin op a ((i : Int) - 1)) (need : Int) (hneed : need ≤ 2) :
    Calls Tryz.prog 150 #[.slice (some ⟨g, 0, none⟩) n cap, I i, I need] w (Shows w (T ++ opTxt op ++ U)) := by
  obtain ⟨k0, k1, k2, k3, k4, k5, k6, k7, k8, k9, k10, k11, k12⟩ := h.cells hi hx
  simp only [nBin, rz] at k0 k1 k2 k3 k4 k5 k6 k7 k8 k9 k10 k11 k12
  have hiI : (i : Int) < (n : Int) := by omega
  have hB := Bx.mk h
  clear h hx
  have ndl : decide ((2 : Int) < need) = false := decide_eq_false (by omega)
  have lo := opTxt_len op
  go_enter Tryz.func150, Tryz.ntmps150
  go_wp2_with (first
    | (go_at_call 176; refine (level_any (nBin op a ((i : Int) - 1)) _).mono ?_; rintro e w1 ⟨rfl, hf1⟩; rw [show level (nBin op a ((i : Int) - 1)) = 2 from hlv.out]; have hX1 := Bx.mk (hf1.row0 (nb_new w (nBin op a ((i : Int) - 1)))); have hN1 := Bx.mk ((hB.out.fr0 ((Fr.refl _ _).alloc _)).fr0 hf1); have q0 := hX1.out.cell 0 (by omega); have q1 := hX1.out.cell 1 (by omega); have q2 := hX1.out.cell 2 (by omega); have q3 := hX1.out.cell 3 (by omega); simp only [ndC, nBin] at q0 q1 q2 q3)
    | (go_at_call 150; refine (hA.out _ hN1.out).mono ?_; clear hA; rintro e w2 ⟨rfl, hf2⟩; have hX2 := Bx.mk (hf2.row0 hX1.out); have hN2 := Bx.mk (hN1.out.fr0 hf2); clear q0 q1 q2 q3; have q0 := hX2.out.cell 0 (by omega); have q1 := hX2.out.cell 1 (by omega); have q2 := hX2.out.cell 2 (by omega); have q3 := hX2.out.cell 3 (by omega); simp only [ndC, nBin] at q0 q1 q2 q3)
    | (go_at_call 150; refine (hB2.out _ hN2.out).mono ?_; clear hB2; rintro e w3 ⟨rfl, hf3⟩; have hX3 := Bx.mk (hf3.row0 hX2.out); have hN3 := Bx.mk (hN2.out.fr0 hf3); clear q0 q1 q2 q3; have q0 := hX3.out.cell 0 (by omega); have q1 := hX3.out.cell 1 (by omega); have q2 := hX3.out.cell 2 (by omega); have q3 := hX3.out.cell 3 (by omega); simp only [ndC, nBin] at q0 q1 q2 q3)
    | (go_at_call 179; refine (opText_any op hop1 hop2 _).mono ?_; rintro e w4 ⟨rfl, rfl⟩)
    | (refine wpList_add_str rfl (.tmp 76) (.tmp 79) (by rfl) T (opTxt op) (by rfl) (by rfl) (by omega) ?_)
    | (refine wpList_add_str rfl (.tmp 80) (.tmp 81) (by rfl) (T ++ opTxt op) U (by rfl) (by rfl) (by simp; omega) ?_))
  go_ret
  exact ⟨by simp, ((((Fr.refl _ _).alloc _).trans hf1).trans hf2).trans hf3⟩
set_option maxRecDepth 100000 in
set_option maxHeartbeats 2000000 in
theorem show_bin31 (g n cap : Nat) (L : List Nd) (i : Nat) (w : World) (hn : L.length = n) (h : NL w (.slice (some ⟨g, 0, none⟩) n cap) L) (hi : i < L.length) (op a : Int) (hop1 : 1 ≤ op) (hop2 : op ≤ 10) (T U : List Int) (hA : Bx (∀ w, NL w (.slice (some ⟨g, 0, none⟩) n cap) L → Calls Tryz.prog 150 #[.slice (some ⟨g, 0, none⟩) n cap, I a, I 3] w (Shows w T))) (hT : T.length ≤ 1000) (hB2 : Bx (∀ w, NL w (.slice (some ⟨g, 0, none⟩) n cap) L → Calls Tryz.prog 150 #[.slice (some ⟨g, 0, none⟩) n cap, I ((i : Int) - 1), I 4] w (Shows w U))) (hU : U.length ≤ 1000) (hlv : Bx (level (nBin op a ((i : Int) - 1)) = 3)) (hx : nd L i = nBin op a ((i : Int) - 1)) (need : Int) (hneed : 3 < need) :
    Calls Tryz.prog 150 #[.slice (some ⟨g, 0, none⟩) n cap, I i, I need] w (Shows w (40 :: ((T ++ opTxt op ++ U) ++ [41]))) := by
  obtain ⟨k0, k1, k2, k3, k4, k5, k6, k7, k8, k9, k10, k11, k12⟩ := h.cells hi hx
  simp only [nBin, rz] at k0 k1 k2 k3 k4 k5 k6 k7 k8 k9 k10 k11 k12
  have hiI : (i : Int) < (n : Int) := by omega
  have hB := Bx.mk h
  clear h hx
  have ndl : decide ((3 : Int) < need) = true := decide_eq_true hneed
  have lo := opTxt_len op
  go_enter Tryz.func150, Tryz.ntmps150
  go_wp2_with (first
    | (go_at_call 176; refine (level_any (nBin op a ((i : Int) - 1)) _).mono ?_; rintro e w1 ⟨rfl, hf1⟩; rw [show level (nBin op a ((i : Int) - 1)) = 3 from hlv.out]; have hX1 := Bx.mk (hf1.row0 (nb_new w (nBin op a ((i : Int) - 1)))); have hN1 := Bx.mk ((hB.out.fr0 ((Fr.refl _ _).alloc _)).fr0 hf1); have q0 := hX1.out.cell 0 (by omega); have q1 := hX1.out.cell 1 (by omega); have q2 := hX1.out.cell 2 (by omega); have q3 := hX1.out.cell 3 (by omega); simp only [ndC, nBin] at q0 q1 q2 q3)
    | (go_at_call 150; refine (hA.out _ hN1.out).mono ?_; clear hA; rintro e w2 ⟨rfl, hf2⟩; have hX2 := Bx.mk (hf2.row0 hX1.out); have hN2 := Bx.mk (hN1.out.fr0 hf2); clear q0 q1 q2 q3; have q0 := hX2.out.cell 0 (by omega); have q1 := hX2.out.cell 1 (by omega); have q2 := hX2.out.cell 2 (by omega); have q3 := hX2.out.cell 3 (by omega); simp only [ndC, nBin] at q0 q1 q2 q3)
    | (go_at_call 150; refine (hB2.out _ hN2.out).mono ?_; clear hB2; rintro e w3 ⟨rfl, hf3⟩; have hX3 := Bx.mk (hf3.row0 hX2.out); have hN3 := Bx.mk (hN2.out.fr0 hf3); clear q0 q1 q2 q3; have q0 := hX3.out.cell 0 (by omega); have q1 := hX3.out.cell 1 (by omega); have q2 := hX3.out.cell 2 (by omega); have q3 := hX3.out.cell 3 (by omega); simp only [ndC, nBin] at q0 q1 q2 q3)
    | (go_at_call 179; refine (opText_any op hop1 hop2 _).mono ?_; rintro e w4 ⟨rfl, rfl⟩)
    | (refine wpList_add_str rfl (.tmp 76) (.tmp 79) (by rfl) T (opTxt op) (by rfl) (by rfl) (by omega) ?_)
    | (refine wpList_add_str rfl (.tmp 80) (.tmp 81) (by rfl) (T ++ opTxt op) U (by rfl) (by rfl) (by simp; omega) ?_)
    | (refine wpList_add_str rfl (.const (.string ⟨#[40]⟩)) (.tmp 99) (by rfl) [40] (T ++ (opTxt op ++ U)) (by rfl) (by rfl) (by simp; omega) ?_)
    | (refine wpList_add_str rfl (.tmp 100) (.const (.string ⟨#[41]⟩)) (by rfl) ([40] ++ (T ++ (opTxt op ++ U))) [41] (by rfl) (by rfl) (by simp; omega) ?_))
  go_ret
  exact ⟨by simp, ((((Fr.refl _ _).alloc _).trans hf1).trans hf2).trans hf3⟩
set_option maxRecDepth 100000 in
set_option maxHeartbeats 2000000 in
theorem show_bin30 (g n cap : Nat) (L : List Nd) (i : Nat) (w : World) (hn : L.length = n) (h : NL w (.slice (some ⟨g, 0, none⟩) n cap) L) (hi : i < L.length) (op a : Int) (hop1 : 1 ≤ op) (hop2 : op ≤ 10) (T U : List Int) (hA : Bx (∀ w, NL w (.slice (some ⟨g, 0, none⟩) n cap) L → Calls Tryz.prog 150 #[.slice (some ⟨g, 0, none⟩) n cap, I a, I 3] w (Shows w T))) (hT : T.length ≤ 1000) (hB2 : Bx (∀ w, NL w (.slice (some ⟨g, 0, none⟩) n cap) L → Calls Tryz.prog 150 #[.slice (some ⟨g, 0, none⟩) n cap, I ((i : Int) - 1), I 4] w (Shows w U))) (hU : U.length ≤ 1000) (hlv : Bx (level (nBin op a ((i : Int) - 1)) = 3)) (hx : nd L i = nBin op a ((i : Int) - 1)) (need : Int) (hneed : need ≤ 3) :
    Calls Tryz.prog 150 #[.slice (some ⟨g, 0, none⟩) n cap, I i, I need] w (Shows w (T ++ opTxt op ++ U)) := by
  obtain ⟨k0, k1, k2, k3, k4, k5, k6, k7, k8, k9, k10, k11, k12⟩ := h.cells hi hx
  simp only [nBin, rz] at k0 k1 k2 k3 k4 k5 k6 k7 k8 k9 k10 k11 k12
  have hiI : (i : Int) < (n : Int) := by omega
  have hB := Bx.mk h
  clear h hx
  have ndl : decide ((3 : Int) < need) = false := decide_eq_false (by omega)
  have lo := opTxt_len op
  go_enter Tryz.func150, Tryz.ntmps150
  go_wp2_with (first
    | (go_at_call 176; refine (level_any (nBin op a ((i : Int) - 1)) _).mono ?_; rintro e w1 ⟨rfl, hf1⟩; rw [show level (nBin op a ((i : Int) - 1)) = 3 from hlv.out]; have hX1 := Bx.mk (hf1.row0 (nb_new w (nBin op a ((i : Int) - 1)))); have hN1 := Bx.mk ((hB.out.fr0 ((Fr.refl _ _).alloc _)).fr0 hf1); have q0 := hX1.out.cell 0 (by omega); have q1 := hX1.out.cell 1 (by omega); have q2 := hX1.out.cell 2 (by omega); have q3 := hX1.out.cell 3 (by omega); simp only [ndC, nBin] at q0 q1 q2 q3)
    | (go_at_call 150; refine (hA.out _ hN1.out).mono ?_; clear hA; rintro e w2 ⟨rfl, hf2⟩; have hX2 := Bx.mk (hf2.row0 hX1.out); have hN2 := Bx.mk (hN1.out.fr0 hf2); clear q0 q1 q2 q3; have q0 := hX2.out.cell 0 (by omega); have q1 := hX2.out.cell 1 (by omega); have q2 := hX2.out.cell 2 (by omega); have q3 := hX2.out.cell 3 (by omega); simp only [ndC, nBin] at q0 q1 q2 q3)
    | (go_at_call 150; refine (hB2.out _ hN2.out).mono ?_; clear hB2; rintro e w3 ⟨rfl, hf3⟩; have hX3 := Bx.mk (hf3.row0 hX2.out); have hN3 := Bx.mk (hN2.out.fr0 hf3); clear q0 q1 q2 q3; have q0 := hX3.out.cell 0 (by omega); have q1 := hX3.out.cell 1 (by omega); have q2 := hX3.out.cell 2 (by omega); have q3 := hX3.out.cell 3 (by omega); simp only [ndC, nBin] at q0 q1 q2 q3)
    | (go_at_call 179; refine (opText_any op hop1 hop2 _).mono ?_; rintro e w4 ⟨rfl, rfl⟩)
    | (refine wpList_add_str rfl (.tmp 76) (.tmp 79) (by rfl) T (opTxt op) (by rfl) (by rfl) (by omega) ?_)
    | (refine wpList_add_str rfl (.tmp 80) (.tmp 81) (by rfl) (T ++ opTxt op) U (by rfl) (by rfl) (by simp; omega) ?_))
  go_ret
  exact ⟨by simp, ((((Fr.refl _ _).alloc _).trans hf1).trans hf2).trans hf3⟩
end Go.Proofs.Qxb6500326aGreat
