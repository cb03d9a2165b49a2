import Derived.Test.Qxb6500326aGreatY2
namespace Go.Proofs.Qxb6500326aGreat
set_option maxRecDepth 100000
set_option linter.unusedVariables false
set_option linter.unusedSimpArgs false
open Go.RowKit Go.PlainAid
set_option maxRecDepth 100000 in
set_option maxHeartbeats 2000000 in
theorem sign_40_x_m (s : ByteArray) (i : Nat) (w : World) (hs : s.size ≤ 40) (hi : i < s.size) (hm : i + 1 < s.size) (hc : bt s i = 40) :
    Calls Tryz.prog 189 #[.string s, I i] w fun e w' => e = .returned (tkV ⟨40, i, i + 1, 0, 0, rz⟩) ∧ Fr S0 w w' := by
  have hb := get_bt s
  have hmd : decide ((i : Int) + 1 < (s.size : Int)) = true := decide_eq_true (by omega)
  go_enter Tryz.func189, Tryz.ntmps189
  go_wp2
  refine ret_tok (p := 4) rfl rfl ((tk_new w ⟨40, i, i + 1, 0, 0, rz⟩ (H := w.heap.size) rfl).alloc (.cells (tkA ⟨40, i, i + 1, 0, 0, rz⟩) 213)) rfl ?_
  exact ⟨rfl, ((Fr.refl _ _).alloc _).alloc _⟩
set_option maxRecDepth 100000 in
set_option maxHeartbeats 2000000 in
theorem sign_41_x_m (s : ByteArray) (i : Nat) (w : World) (hs : s.size ≤ 40) (hi : i < s.size) (hm : i + 1 < s.size) (hc : bt s i = 41) :
    Calls Tryz.prog 189 #[.string s, I i] w fun e w' => e = .returned (tkV ⟨41, i, i + 1, 0, 0, rz⟩) ∧ Fr S0 w w' := by
  have hb := get_bt s
  have hmd : decide ((i : Int) + 1 < (s.size : Int)) = true := decide_eq_true (by omega)
  go_enter Tryz.func189, Tryz.ntmps189
  go_wp2
  refine ret_tok (p := 4) rfl rfl ((tk_new w ⟨41, i, i + 1, 0, 0, rz⟩ (H := w.heap.size) rfl).alloc (.cells (tkA ⟨41, i, i + 1, 0, 0, rz⟩) 213)) rfl ?_
  exact ⟨rfl, ((Fr.refl _ _).alloc _).alloc _⟩
set_option maxRecDepth 100000 in
set_option maxHeartbeats 2000000 in
theorem sign_44_x_m (s : ByteArray) (i : Nat) (w : World) (hs : s.size ≤ 40) (hi : i < s.size) (hm : i + 1 < s.size) (hc : bt s i = 44) :
    Calls Tryz.prog 189 #[.string s, I i] w fun e w' => e = .returned (tkV ⟨44, i, i + 1, 0, 0, rz⟩) ∧ Fr S0 w w' := by
  have hb := get_bt s
  have hmd : decide ((i : Int) + 1 < (s.size : Int)) = true := decide_eq_true (by omega)
  go_enter Tryz.func189, Tryz.ntmps189
  go_wp2
  refine ret_tok (p := 4) rfl rfl ((tk_new w ⟨44, i, i + 1, 0, 0, rz⟩ (H := w.heap.size) rfl).alloc (.cells (tkA ⟨44, i, i + 1, 0, 0, rz⟩) 213)) rfl ?_
  exact ⟨rfl, ((Fr.refl _ _).alloc _).alloc _⟩
set_option maxRecDepth 100000 in
set_option maxHeartbeats 2000000 in
theorem sign_58_x_m (s : ByteArray) (i : Nat) (w : World) (hs : s.size ≤ 40) (hi : i < s.size) (hm : i + 1 < s.size) (hc : bt s i = 58) :
    Calls Tryz.prog 189 #[.string s, I i] w fun e w' => e = .returned (tkV ⟨58, i, i + 1, 0, 0, rz⟩) ∧ Fr S0 w w' := by
  have hb := get_bt s
  have hmd : decide ((i : Int) + 1 < (s.size : Int)) = true := decide_eq_true (by omega)
  go_enter Tryz.func189, Tryz.ntmps189
  go_wp2
  refine ret_tok (p := 4) rfl rfl ((tk_new w ⟨58, i, i + 1, 0, 0, rz⟩ (H := w.heap.size) rfl).alloc (.cells (tkA ⟨58, i, i + 1, 0, 0, rz⟩) 213)) rfl ?_
  exact ⟨rfl, ((Fr.refl _ _).alloc _).alloc _⟩
set_option maxRecDepth 100000 in
set_option maxHeartbeats 2000000 in
theorem sign_43_x_m (s : ByteArray) (i : Nat) (w : World) (hs : s.size ≤ 40) (hi : i < s.size) (hm : i + 1 < s.size) (hc : bt s i = 43) :
    Calls Tryz.prog 189 #[.string s, I i] w fun e w' => e = .returned (tkV ⟨6, i, i + 1, 0, 7, rz⟩) ∧ Fr S0 w w' := by
  have hb := get_bt s
  have hmd : decide ((i : Int) + 1 < (s.size : Int)) = true := decide_eq_true (by omega)
  go_enter Tryz.func189, Tryz.ntmps189
  go_wp2
  refine ret_tok (p := 4) rfl rfl ((tk_new w ⟨6, i, i + 1, 0, 7, rz⟩ (H := w.heap.size) rfl).alloc (.cells (tkA ⟨6, i, i + 1, 0, 7, rz⟩) 213)) rfl ?_
  exact ⟨rfl, ((Fr.refl _ _).alloc _).alloc _⟩
set_option maxRecDepth 100000 in
set_option maxHeartbeats 2000000 in
theorem sign_45_x_m (s : ByteArray) (i : Nat) (w : World) (hs : s.size ≤ 40) (hi : i < s.size) (hm : i + 1 < s.size) (hc : bt s i = 45) :
    Calls Tryz.prog 189 #[.string s, I i] w fun e w' => e = .returned (tkV ⟨6, i, i + 1, 0, 8, rz⟩) ∧ Fr S0 w w' := by
  have hb := get_bt s
  have hmd : decide ((i : Int) + 1 < (s.size : Int)) = true := decide_eq_true (by omega)
  go_enter Tryz.func189, Tryz.ntmps189
  go_wp2
  refine ret_tok (p := 4) rfl rfl ((tk_new w ⟨6, i, i + 1, 0, 8, rz⟩ (H := w.heap.size) rfl).alloc (.cells (tkA ⟨6, i, i + 1, 0, 8, rz⟩) 213)) rfl ?_
  exact ⟨rfl, ((Fr.refl _ _).alloc _).alloc _⟩
set_option maxRecDepth 100000 in
set_option maxHeartbeats 2000000 in
theorem sign_42_x_m (s : ByteArray) (i : Nat) (w : World) (hs : s.size ≤ 40) (hi : i < s.size) (hm : i + 1 < s.size) (hc : bt s i = 42) :
    Calls Tryz.prog 189 #[.string s, I i] w fun e w' => e = .returned (tkV ⟨6, i, i + 1, 0, 9, rz⟩) ∧ Fr S0 w w' := by
  have hb := get_bt s
  have hmd : decide ((i : Int) + 1 < (s.size : Int)) = true := decide_eq_true (by omega)
  go_enter Tryz.func189, Tryz.ntmps189
  go_wp2
  refine ret_tok (p := 4) rfl rfl ((tk_new w ⟨6, i, i + 1, 0, 9, rz⟩ (H := w.heap.size) rfl).alloc (.cells (tkA ⟨6, i, i + 1, 0, 9, rz⟩) 213)) rfl ?_
  exact ⟨rfl, ((Fr.refl _ _).alloc _).alloc _⟩
set_option maxRecDepth 100000 in
set_option maxHeartbeats 2000000 in
theorem sign_47_x_m (s : ByteArray) (i : Nat) (w : World) (hs : s.size ≤ 40) (hi : i < s.size) (hm : i + 1 < s.size) (hc : bt s i = 47) :
    Calls Tryz.prog 189 #[.string s, I i] w fun e w' => e = .returned (tkV ⟨6, i, i + 1, 0, 10, rz⟩) ∧ Fr S0 w w' := by
  have hb := get_bt s
  have hmd : decide ((i : Int) + 1 < (s.size : Int)) = true := decide_eq_true (by omega)
  go_enter Tryz.func189, Tryz.ntmps189
  go_wp2
  refine ret_tok (p := 4) rfl rfl ((tk_new w ⟨6, i, i + 1, 0, 10, rz⟩ (H := w.heap.size) rfl).alloc (.cells (tkA ⟨6, i, i + 1, 0, 10, rz⟩) 213)) rfl ?_
  exact ⟨rfl, ((Fr.refl _ _).alloc _).alloc _⟩
set_option maxRecDepth 100000 in
set_option maxHeartbeats 2000000 in
theorem sign_61_x_m (s : ByteArray) (i : Nat) (w : World) (hs : s.size ≤ 40) (hi : i < s.size) (hm : i + 1 < s.size) (hc : bt s i = 61) :
    Calls Tryz.prog 189 #[.string s, I i] w fun e w' => e = .returned (tkV ⟨6, i, i + 1, 0, 1, rz⟩) ∧ Fr S0 w w' := by
  have hb := get_bt s
  have hmd : decide ((i : Int) + 1 < (s.size : Int)) = true := decide_eq_true (by omega)
  go_enter Tryz.func189, Tryz.ntmps189
  go_wp2
  refine ret_tok (p := 4) rfl rfl ((tk_new w ⟨6, i, i + 1, 0, 1, rz⟩ (H := w.heap.size) rfl).alloc (.cells (tkA ⟨6, i, i + 1, 0, 1, rz⟩) 213)) rfl ?_
  exact ⟨rfl, ((Fr.refl _ _).alloc _).alloc _⟩
set_option maxRecDepth 100000 in
set_option maxHeartbeats 2000000 in
theorem sign_60_61_m (s : ByteArray) (i : Nat) (w : World) (hs : s.size ≤ 40) (hi : i < s.size) (hm : i + 1 < s.size) (hc : bt s i = 60) (hd : bt s (i + 1) = 61) :
    Calls Tryz.prog 189 #[.string s, I i] w fun e w' => e = .returned (tkV ⟨6, i, i + 2, 0, 4, rz⟩) ∧ Fr S0 w w' := by
  have hb := get_bt s
  have hmd : decide ((i : Int) + 1 < (s.size : Int)) = true := decide_eq_true (by omega)
  go_enter Tryz.func189, Tryz.ntmps189
  go_wp2
  refine ret_tok (p := 4) rfl rfl ((tk_new w ⟨6, i, i + 2, 0, 4, rz⟩ (H := w.heap.size) rfl).alloc (.cells (tkA ⟨6, i, i + 2, 0, 4, rz⟩) 213)) rfl ?_
  exact ⟨rfl, ((Fr.refl _ _).alloc _).alloc _⟩
set_option maxRecDepth 100000 in
set_option maxHeartbeats 2000000 in
theorem sign_60_62_m (s : ByteArray) (i : Nat) (w : World) (hs : s.size ≤ 40) (hi : i < s.size) (hm : i + 1 < s.size) (hc : bt s i = 60) (hd : bt s (i + 1) = 62) :
    Calls Tryz.prog 189 #[.string s, I i] w fun e w' => e = .returned (tkV ⟨6, i, i + 2, 0, 2, rz⟩) ∧ Fr S0 w w' := by
  have hb := get_bt s
  have hmd : decide ((i : Int) + 1 < (s.size : Int)) = true := decide_eq_true (by omega)
  go_enter Tryz.func189, Tryz.ntmps189
  go_wp2
  refine ret_tok (p := 4) rfl rfl ((tk_new w ⟨6, i, i + 2, 0, 2, rz⟩ (H := w.heap.size) rfl).alloc (.cells (tkA ⟨6, i, i + 2, 0, 2, rz⟩) 213)) rfl ?_
  exact ⟨rfl, ((Fr.refl _ _).alloc _).alloc _⟩
set_option maxRecDepth 100000 in
set_option maxHeartbeats 2000000 in
theorem sign_60_0_m (s : ByteArray) (i : Nat) (w : World) (hs : s.size ≤ 40) (hi : i < s.size) (hm : i + 1 < s.size) (hc : bt s i = 60) (m61 : (bt s (i + 1) == 61) = false) (m62 : (bt s (i + 1) == 62) = false) :
    Calls Tryz.prog 189 #[.string s, I i] w fun e w' => e = .returned (tkV ⟨6, i, i + 1, 0, 3, rz⟩) ∧ Fr S0 w w' := by
  have hb := get_bt s
  have hmd : decide ((i : Int) + 1 < (s.size : Int)) = true := decide_eq_true (by omega)
  go_enter Tryz.func189, Tryz.ntmps189
  go_wp2
  refine ret_tok (p := 4) rfl rfl ((tk_new w ⟨6, i, i + 1, 0, 3, rz⟩ (H := w.heap.size) rfl).alloc (.cells (tkA ⟨6, i, i + 1, 0, 3, rz⟩) 213)) rfl ?_
  exact ⟨rfl, ((Fr.refl _ _).alloc _).alloc _⟩
set_option maxRecDepth 100000 in
set_option maxHeartbeats 2000000 in
theorem sign_62_61_m (s : ByteArray) (i : Nat) (w : World) (hs : s.size ≤ 40) (hi : i < s.size) (hm : i + 1 < s.size) (hc : bt s i = 62) (hd : bt s (i + 1) = 61) :
    Calls Tryz.prog 189 #[.string s, I i] w fun e w' => e = .returned (tkV ⟨6, i, i + 2, 0, 6, rz⟩) ∧ Fr S0 w w' := by
  have hb := get_bt s
  have hmd : decide ((i : Int) + 1 < (s.size : Int)) = true := decide_eq_true (by omega)
  go_enter Tryz.func189, Tryz.ntmps189
  go_wp2
  refine ret_tok (p := 4) rfl rfl ((tk_new w ⟨6, i, i + 2, 0, 6, rz⟩ (H := w.heap.size) rfl).alloc (.cells (tkA ⟨6, i, i + 2, 0, 6, rz⟩) 213)) rfl ?_
  exact ⟨rfl, ((Fr.refl _ _).alloc _).alloc _⟩
set_option maxRecDepth 100000 in
set_option maxHeartbeats 2000000 in
theorem sign_62_0_m (s : ByteArray) (i : Nat) (w : World) (hs : s.size ≤ 40) (hi : i < s.size) (hm : i + 1 < s.size) (hc : bt s i = 62) (m61 : (bt s (i + 1) == 61) = false) :
    Calls Tryz.prog 189 #[.string s, I i] w fun e w' => e = .returned (tkV ⟨6, i, i + 1, 0, 5, rz⟩) ∧ Fr S0 w w' := by
  have hb := get_bt s
  have hmd : decide ((i : Int) + 1 < (s.size : Int)) = true := decide_eq_true (by omega)
  go_enter Tryz.func189, Tryz.ntmps189
  go_wp2
  refine ret_tok (p := 4) rfl rfl ((tk_new w ⟨6, i, i + 1, 0, 5, rz⟩ (H := w.heap.size) rfl).alloc (.cells (tkA ⟨6, i, i + 1, 0, 5, rz⟩) 213)) rfl ?_
  exact ⟨rfl, ((Fr.refl _ _).alloc _).alloc _⟩
set_option maxRecDepth 100000 in
set_option maxHeartbeats 2000000 in
theorem sign_35_35_m (s : ByteArray) (i : Nat) (w : World) (hs : s.size ≤ 40) (hi : i < s.size) (hm : i + 1 < s.size) (hc : bt s i = 35) (hd : bt s (i + 1) = 35) :
    Calls Tryz.prog 189 #[.string s, I i] w fun e w' => e = .returned (tkV ⟨2, i, i + 2, 5, 0, rz⟩) ∧ Fr S0 w w' := by
  have hb := get_bt s
  have hmd : decide ((i : Int) + 1 < (s.size : Int)) = true := decide_eq_true (by omega)
  go_enter Tryz.func189, Tryz.ntmps189
  go_wp2
  refine ret_tok (p := 4) rfl rfl ((tk_new w ⟨2, i, i + 2, 5, 0, rz⟩ (H := w.heap.size) rfl).alloc (.cells (tkA ⟨2, i, i + 2, 5, 0, rz⟩) 213)) rfl ?_
  exact ⟨rfl, ((Fr.refl _ _).alloc _).alloc _⟩
set_option maxRecDepth 100000 in
set_option maxHeartbeats 2000000 in
theorem sign_35_0_m (s : ByteArray) (i : Nat) (w : World) (hs : s.size ≤ 40) (hi : i < s.size) (hm : i + 1 < s.size) (hc : bt s i = 35) (m35 : (bt s (i + 1) == 35) = false) :
    Calls Tryz.prog 189 #[.string s, I i] w fun e w' => e = .returned (tkV ⟨3, i, i + 1, 0, 2, rz⟩) ∧ Fr S0 w w' := by
  have hb := get_bt s
  have hmd : decide ((i : Int) + 1 < (s.size : Int)) = true := decide_eq_true (by omega)
  go_enter Tryz.func189, Tryz.ntmps189
  go_wp2
  refine ret_tok (p := 4) rfl rfl ((tk_new w ⟨3, i, i + 1, 0, 2, rz⟩ (H := w.heap.size) rfl).alloc (.cells (tkA ⟨3, i, i + 1, 0, 2, rz⟩) 213)) rfl ?_
  exact ⟨rfl, ((Fr.refl _ _).alloc _).alloc _⟩
set_option maxRecDepth 100000 in
set_option maxHeartbeats 2000000 in
theorem sign_no_x_m (s : ByteArray) (i : Nat) (w : World) (hs : s.size ≤ 40) (hi : i < s.size) (hm : i + 1 < s.size) (n40 : (bt s i == 40) = false) (n41 : (bt s i == 41) = false) (n44 : (bt s i == 44) = false) (n58 : (bt s i == 58) = false) (n43 : (bt s i == 43) = false) (n45 : (bt s i == 45) = false) (n42 : (bt s i == 42) = false) (n47 : (bt s i == 47) = false) (n61 : (bt s i == 61) = false) (n60 : (bt s i == 60) = false) (n62 : (bt s i == 62) = false) (n35 : (bt s i == 35) = false) :
    Calls Tryz.prog 189 #[.string s, I i] w fun e w' => e = .returned (tkV ⟨1, i, i + 1, 0, 0, rz⟩) ∧ Fr S0 w w' := by
  have hb := get_bt s
  have hmd : decide ((i : Int) + 1 < (s.size : Int)) = true := decide_eq_true (by omega)
  go_enter Tryz.func189, Tryz.ntmps189
  go_wp2
  refine ret_tok (p := 4) rfl rfl ((tk_new w ⟨1, i, i + 1, 0, 0, rz⟩ (H := w.heap.size) rfl).alloc (.cells (tkA ⟨1, i, i + 1, 0, 0, rz⟩) 213)) rfl ?_
  exact ⟨rfl, ((Fr.refl _ _).alloc _).alloc _⟩
set_option maxRecDepth 100000 in
set_option maxHeartbeats 2000000 in
theorem sign_40_x_e (s : ByteArray) (i : Nat) (w : World) (hs : s.size ≤ 40) (hi : i < s.size) (hm : s.size ≤ i + 1) (hc : bt s i = 40) :
    Calls Tryz.prog 189 #[.string s, I i] w fun e w' => e = .returned (tkV ⟨40, i, i + 1, 0, 0, rz⟩) ∧ Fr S0 w w' := by
  have hb := get_bt s
  have hmd : decide ((i : Int) + 1 < (s.size : Int)) = false := decide_eq_false (by omega)
  go_enter Tryz.func189, Tryz.ntmps189
  go_wp2
  refine ret_tok (p := 4) rfl rfl ((tk_new w ⟨40, i, i + 1, 0, 0, rz⟩ (H := w.heap.size) rfl).alloc (.cells (tkA ⟨40, i, i + 1, 0, 0, rz⟩) 213)) rfl ?_
  exact ⟨rfl, ((Fr.refl _ _).alloc _).alloc _⟩
set_option maxRecDepth 100000 in
set_option maxHeartbeats 2000000 in
theorem sign_41_x_e (s : ByteArray) (i : Nat) (w : World) (hs : s.size ≤ 40) (hi : i < s.size) (hm : s.size ≤ i + 1) (hc : bt s i = 41) :
    Calls Tryz.prog 189 #[.string s, I i] w fun e w' => e = .returned (tkV ⟨41, i, i + 1, 0, 0, rz⟩) ∧ Fr S0 w w' := by
  have hb := get_bt s
  have hmd : decide ((i : Int) + 1 < (s.size : Int)) = false := decide_eq_false (by omega)
  go_enter Tryz.func189, Tryz.ntmps189
  go_wp2
  refine ret_tok (p := 4) rfl rfl ((tk_new w ⟨41, i, i + 1, 0, 0, rz⟩ (H := w.heap.size) rfl).alloc (.cells (tkA ⟨41, i, i + 1, 0, 0, rz⟩) 213)) rfl ?_
  exact ⟨rfl, ((Fr.refl _ _).alloc _).alloc _⟩
set_option maxRecDepth 100000 in
set_option maxHeartbeats 2000000 in
theorem sign_44_x_e (s : ByteArray) (i : Nat) (w : World) (hs : s.size ≤ 40) (hi : i < s.size) (hm : s.size ≤ i + 1) (hc : bt s i = 44) :
    Calls Tryz.prog 189 #[.string s, I i] w fun e w' => e = .returned (tkV ⟨44, i, i + 1, 0, 0, rz⟩) ∧ Fr S0 w w' := by
  have hb := get_bt s
  have hmd : decide ((i : Int) + 1 < (s.size : Int)) = false := decide_eq_false (by omega)
  go_enter Tryz.func189, Tryz.ntmps189
  go_wp2
  refine ret_tok (p := 4) rfl rfl ((tk_new w ⟨44, i, i + 1, 0, 0, rz⟩ (H := w.heap.size) rfl).alloc (.cells (tkA ⟨44, i, i + 1, 0, 0, rz⟩) 213)) rfl ?_
  exact ⟨rfl, ((Fr.refl _ _).alloc _).alloc _⟩
set_option maxRecDepth 100000 in
set_option maxHeartbeats 2000000 in
theorem sign_58_x_e (s : ByteArray) (i : Nat) (w : World) (hs : s.size ≤ 40) (hi : i < s.size) (hm : s.size ≤ i + 1) (hc : bt s i = 58) :
    Calls Tryz.prog 189 #[.string s, I i] w fun e w' => e = .returned (tkV ⟨58, i, i + 1, 0, 0, rz⟩) ∧ Fr S0 w w' := by
  have hb := get_bt s
  have hmd : decide ((i : Int) + 1 < (s.size : Int)) = false := decide_eq_false (by omega)
  go_enter Tryz.func189, Tryz.ntmps189
  go_wp2
  refine ret_tok (p := 4) rfl rfl ((tk_new w ⟨58, i, i + 1, 0, 0, rz⟩ (H := w.heap.size) rfl).alloc (.cells (tkA ⟨58, i, i + 1, 0, 0, rz⟩) 213)) rfl ?_
  exact ⟨rfl, ((Fr.refl _ _).alloc _).alloc _⟩
set_option maxRecDepth 100000 in
set_option maxHeartbeats 2000000 in
theorem sign_43_x_e (s : ByteArray) (i : Nat) (w : World) (hs : s.size ≤ 40) (hi : i < s.size) (hm : s.size ≤ i + 1) (hc : bt s i = 43) :
    Calls Tryz.prog 189 #[.string s, I i] w fun e w' => e = .returned (tkV ⟨6, i, i + 1, 0, 7, rz⟩) ∧ Fr S0 w w' := by
  have hb := get_bt s
  have hmd : decide ((i : Int) + 1 < (s.size : Int)) = false := decide_eq_false (by omega)
  go_enter Tryz.func189, Tryz.ntmps189
  go_wp2
  refine ret_tok (p := 4) rfl rfl ((tk_new w ⟨6, i, i + 1, 0, 7, rz⟩ (H := w.heap.size) rfl).alloc (.cells (tkA ⟨6, i, i + 1, 0, 7, rz⟩) 213)) rfl ?_
  exact ⟨rfl, ((Fr.refl _ _).alloc _).alloc _⟩
set_option maxRecDepth 100000 in
set_option maxHeartbeats 2000000 in
theorem sign_45_x_e (s : ByteArray) (i : Nat) (w : World) (hs : s.size ≤ 40) (hi : i < s.size) (hm : s.size ≤ i + 1) (hc : bt s i = 45) :
    Calls Tryz.prog 189 #[.string s, I i] w fun e w' => e = .returned (tkV ⟨6, i, i + 1, 0, 8, rz⟩) ∧ Fr S0 w w' := by
  have hb := get_bt s
  have hmd : decide ((i : Int) + 1 < (s.size : Int)) = false := decide_eq_false (by omega)
  go_enter Tryz.func189, Tryz.ntmps189
  go_wp2
  refine ret_tok (p := 4) rfl rfl ((tk_new w ⟨6, i, i + 1, 0, 8, rz⟩ (H := w.heap.size) rfl).alloc (.cells (tkA ⟨6, i, i + 1, 0, 8, rz⟩) 213)) rfl ?_
  exact ⟨rfl, ((Fr.refl _ _).alloc _).alloc _⟩
set_option maxRecDepth 100000 in
set_option maxHeartbeats 2000000 in
theorem sign_42_x_e (s : ByteArray) (i : Nat) (w : World) (hs : s.size ≤ 40) (hi : i < s.size) (hm : s.size ≤ i + 1) (hc : bt s i = 42) :
    Calls Tryz.prog 189 #[.string s, I i] w fun e w' => e = .returned (tkV ⟨6, i, i + 1, 0, 9, rz⟩) ∧ Fr S0 w w' := by
  have hb := get_bt s
  have hmd : decide ((i : Int) + 1 < (s.size : Int)) = false := decide_eq_false (by omega)
  go_enter Tryz.func189, Tryz.ntmps189
  go_wp2
  refine ret_tok (p := 4) rfl rfl ((tk_new w ⟨6, i, i + 1, 0, 9, rz⟩ (H := w.heap.size) rfl).alloc (.cells (tkA ⟨6, i, i + 1, 0, 9, rz⟩) 213)) rfl ?_
  exact ⟨rfl, ((Fr.refl _ _).alloc _).alloc _⟩
set_option maxRecDepth 100000 in
set_option maxHeartbeats 2000000 in
theorem sign_47_x_e (s : ByteArray) (i : Nat) (w : World) (hs : s.size ≤ 40) (hi : i < s.size) (hm : s.size ≤ i + 1) (hc : bt s i = 47) :
    Calls Tryz.prog 189 #[.string s, I i] w fun e w' => e = .returned (tkV ⟨6, i, i + 1, 0, 10, rz⟩) ∧ Fr S0 w w' := by
  have hb := get_bt s
  have hmd : decide ((i : Int) + 1 < (s.size : Int)) = false := decide_eq_false (by omega)
  go_enter Tryz.func189, Tryz.ntmps189
  go_wp2
  refine ret_tok (p := 4) rfl rfl ((tk_new w ⟨6, i, i + 1, 0, 10, rz⟩ (H := w.heap.size) rfl).alloc (.cells (tkA ⟨6, i, i + 1, 0, 10, rz⟩) 213)) rfl ?_
  exact ⟨rfl, ((Fr.refl _ _).alloc _).alloc _⟩
set_option maxRecDepth 100000 in
set_option maxHeartbeats 2000000 in
theorem sign_61_x_e (s : ByteArray) (i : Nat) (w : World) (hs : s.size ≤ 40) (hi : i < s.size) (hm : s.size ≤ i + 1) (hc : bt s i = 61) :
    Calls Tryz.prog 189 #[.string s, I i] w fun e w' => e = .returned (tkV ⟨6, i, i + 1, 0, 1, rz⟩) ∧ Fr S0 w w' := by
  have hb := get_bt s
  have hmd : decide ((i : Int) + 1 < (s.size : Int)) = false := decide_eq_false (by omega)
  go_enter Tryz.func189, Tryz.ntmps189
  go_wp2
  refine ret_tok (p := 4) rfl rfl ((tk_new w ⟨6, i, i + 1, 0, 1, rz⟩ (H := w.heap.size) rfl).alloc (.cells (tkA ⟨6, i, i + 1, 0, 1, rz⟩) 213)) rfl ?_
  exact ⟨rfl, ((Fr.refl _ _).alloc _).alloc _⟩
set_option maxRecDepth 100000 in
set_option maxHeartbeats 2000000 in
theorem sign_60_0_e (s : ByteArray) (i : Nat) (w : World) (hs : s.size ≤ 40) (hi : i < s.size) (hm : s.size ≤ i + 1) (hc : bt s i = 60) :
    Calls Tryz.prog 189 #[.string s, I i] w fun e w' => e = .returned (tkV ⟨6, i, i + 1, 0, 3, rz⟩) ∧ Fr S0 w w' := by
  have hb := get_bt s
  have hmd : decide ((i : Int) + 1 < (s.size : Int)) = false := decide_eq_false (by omega)
  go_enter Tryz.func189, Tryz.ntmps189
  go_wp2
  refine ret_tok (p := 4) rfl rfl ((tk_new w ⟨6, i, i + 1, 0, 3, rz⟩ (H := w.heap.size) rfl).alloc (.cells (tkA ⟨6, i, i + 1, 0, 3, rz⟩) 213)) rfl ?_
  exact ⟨rfl, ((Fr.refl _ _).alloc _).alloc _⟩
set_option maxRecDepth 100000 in
set_option maxHeartbeats 2000000 in
theorem sign_62_0_e (s : ByteArray) (i : Nat) (w : World) (hs : s.size ≤ 40) (hi : i < s.size) (hm : s.size ≤ i + 1) (hc : bt s i = 62) :
    Calls Tryz.prog 189 #[.string s, I i] w fun e w' => e = .returned (tkV ⟨6, i, i + 1, 0, 5, rz⟩) ∧ Fr S0 w w' := by
  have hb := get_bt s
  have hmd : decide ((i : Int) + 1 < (s.size : Int)) = false := decide_eq_false (by omega)
  go_enter Tryz.func189, Tryz.ntmps189
  go_wp2
  refine ret_tok (p := 4) rfl rfl ((tk_new w ⟨6, i, i + 1, 0, 5, rz⟩ (H := w.heap.size) rfl).alloc (.cells (tkA ⟨6, i, i + 1, 0, 5, rz⟩) 213)) rfl ?_
  exact ⟨rfl, ((Fr.refl _ _).alloc _).alloc _⟩
set_option maxRecDepth 100000 in
set_option maxHeartbeats 2000000 in
theorem sign_35_0_e (s : ByteArray) (i : Nat) (w : World) (hs : s.size ≤ 40) (hi : i < s.size) (hm : s.size ≤ i + 1) (hc : bt s i = 35) :
    Calls Tryz.prog 189 #[.string s, I i] w fun e w' => e = .returned (tkV ⟨3, i, i + 1, 0, 2, rz⟩) ∧ Fr S0 w w' := by
  have hb := get_bt s
  have hmd : decide ((i : Int) + 1 < (s.size : Int)) = false := decide_eq_false (by omega)
  go_enter Tryz.func189, Tryz.ntmps189
  go_wp2
  refine ret_tok (p := 4) rfl rfl ((tk_new w ⟨3, i, i + 1, 0, 2, rz⟩ (H := w.heap.size) rfl).alloc (.cells (tkA ⟨3, i, i + 1, 0, 2, rz⟩) 213)) rfl ?_
  exact ⟨rfl, ((Fr.refl _ _).alloc _).alloc _⟩
set_option maxRecDepth 100000 in
set_option maxHeartbeats 2000000 in
theorem sign_no_x_e (s : ByteArray) (i : Nat) (w : World) (hs : s.size ≤ 40) (hi : i < s.size) (hm : s.size ≤ i + 1) (n40 : (bt s i == 40) = false) (n41 : (bt s i == 41) = false) (n44 : (bt s i == 44) = false) (n58 : (bt s i == 58) = false) (n43 : (bt s i == 43) = false) (n45 : (bt s i == 45) = false) (n42 : (bt s i == 42) = false) (n47 : (bt s i == 47) = false) (n61 : (bt s i == 61) = false) (n60 : (bt s i == 60) = false) (n62 : (bt s i == 62) = false) (n35 : (bt s i == 35) = false) :
    Calls Tryz.prog 189 #[.string s, I i] w fun e w' => e = .returned (tkV ⟨1, i, i + 1, 0, 0, rz⟩) ∧ Fr S0 w w' := by
  have hb := get_bt s
  have hmd : decide ((i : Int) + 1 < (s.size : Int)) = false := decide_eq_false (by omega)
  go_enter Tryz.func189, Tryz.ntmps189
  go_wp2
  refine ret_tok (p := 4) rfl rfl ((tk_new w ⟨1, i, i + 1, 0, 0, rz⟩ (H := w.heap.size) rfl).alloc (.cells (tkA ⟨1, i, i + 1, 0, 0, rz⟩) 213)) rfl ?_
  exact ⟨rfl, ((Fr.refl _ _).alloc _).alloc _⟩
theorem nextB_more {b : Nat → Int} {n i : Nat} (h : i + 1 < n) : nextB b n i = b (i + 1) := by unfold nextB; rw [if_pos h]
theorem nextB_end {b : Nat → Int} {n i : Nat} (h : n ≤ i + 1) : nextB b n i = 0 := by unfold nextB; rw [if_neg (by omega)]
theorem ne_beq {a c : Int} (h : a ≠ c) : (a == c) = false := by simpa using h
theorem sign_any (s : ByteArray) (i : Nat) (w : World) (hs : s.size ≤ 40) (hi : i < s.size) :
    Calls Tryz.prog 189 #[.string s, I i] w fun e w' => e = .returned (tkV (lexSgn (bt s i) (nextB (bt s) s.size i) i)) ∧ Fr S0 w w' := by
  rcases Nat.lt_or_ge (i + 1) s.size with hm | hm
  · rw [nextB_more hm]
    by_cases h40 : bt s i = 40
    · have hc := h40
      rw [show lexSgn (bt s i) (bt s (i + 1)) i = ⟨40, i, i + 1, 0, 0, rz⟩ from by rw [hc]; rfl]
      exact sign_40_x_m s i w hs hi hm hc
    by_cases h41 : bt s i = 41
    · have hc := h41
      rw [show lexSgn (bt s i) (bt s (i + 1)) i = ⟨41, i, i + 1, 0, 0, rz⟩ from by rw [hc]; rfl]
      exact sign_41_x_m s i w hs hi hm hc
    by_cases h44 : bt s i = 44
    · have hc := h44
      rw [show lexSgn (bt s i) (bt s (i + 1)) i = ⟨44, i, i + 1, 0, 0, rz⟩ from by rw [hc]; rfl]
      exact sign_44_x_m s i w hs hi hm hc
    by_cases h58 : bt s i = 58
    · have hc := h58
      rw [show lexSgn (bt s i) (bt s (i + 1)) i = ⟨58, i, i + 1, 0, 0, rz⟩ from by rw [hc]; rfl]
      exact sign_58_x_m s i w hs hi hm hc
    by_cases h43 : bt s i = 43
    · have hc := h43
      rw [show lexSgn (bt s i) (bt s (i + 1)) i = ⟨6, i, i + 1, 0, 7, rz⟩ from by rw [hc]; rfl]
      exact sign_43_x_m s i w hs hi hm hc
    by_cases h45 : bt s i = 45
    · have hc := h45
      rw [show lexSgn (bt s i) (bt s (i + 1)) i = ⟨6, i, i + 1, 0, 8, rz⟩ from by rw [hc]; rfl]
      exact sign_45_x_m s i w hs hi hm hc
    by_cases h42 : bt s i = 42
    · have hc := h42
      rw [show lexSgn (bt s i) (bt s (i + 1)) i = ⟨6, i, i + 1, 0, 9, rz⟩ from by rw [hc]; rfl]
      exact sign_42_x_m s i w hs hi hm hc
    by_cases h47 : bt s i = 47
    · have hc := h47
      rw [show lexSgn (bt s i) (bt s (i + 1)) i = ⟨6, i, i + 1, 0, 10, rz⟩ from by rw [hc]; rfl]
      exact sign_47_x_m s i w hs hi hm hc
    by_cases h61 : bt s i = 61
    · have hc := h61
      rw [show lexSgn (bt s i) (bt s (i + 1)) i = ⟨6, i, i + 1, 0, 1, rz⟩ from by rw [hc]; rfl]
      exact sign_61_x_m s i w hs hi hm hc
    by_cases h60 : bt s i = 60
    · have hc := h60
      by_cases g61 : bt s (i + 1) = 61
      · have hd := g61
        rw [show lexSgn (bt s i) (bt s (i + 1)) i = ⟨6, i, i + 2, 0, 4, rz⟩ from by rw [hc, hd]; rfl]
        exact sign_60_61_m s i w hs hi hm hc hd
      by_cases g62 : bt s (i + 1) = 62
      · have hd := g62
        rw [show lexSgn (bt s i) (bt s (i + 1)) i = ⟨6, i, i + 2, 0, 2, rz⟩ from by rw [hc, hd]; rfl]
        exact sign_60_62_m s i w hs hi hm hc hd
      rw [show lexSgn (bt s i) (bt s (i + 1)) i = ⟨6, i, i + 1, 0, 3, rz⟩ from by rw [hc]; unfold lexSgn; simp [addOp, mulOp, isCmp, cmpOp, g61, g62]]
      exact sign_60_0_m s i w hs hi hm hc (ne_beq g61) (ne_beq g62)
    by_cases h62 : bt s i = 62
    · have hc := h62
      by_cases g61 : bt s (i + 1) = 61
      · have hd := g61
        rw [show lexSgn (bt s i) (bt s (i + 1)) i = ⟨6, i, i + 2, 0, 6, rz⟩ from by rw [hc, hd]; rfl]
        exact sign_62_61_m s i w hs hi hm hc hd
      rw [show lexSgn (bt s i) (bt s (i + 1)) i = ⟨6, i, i + 1, 0, 5, rz⟩ from by rw [hc]; unfold lexSgn; simp [addOp, mulOp, isCmp, cmpOp, g61]]
      exact sign_62_0_m s i w hs hi hm hc (ne_beq g61)
    by_cases h35 : bt s i = 35
    · have hc := h35
      by_cases g35 : bt s (i + 1) = 35
      · have hd := g35
        rw [show lexSgn (bt s i) (bt s (i + 1)) i = ⟨2, i, i + 2, 5, 0, rz⟩ from by rw [hc, hd]; rfl]
        exact sign_35_35_m s i w hs hi hm hc hd
      rw [show lexSgn (bt s i) (bt s (i + 1)) i = ⟨3, i, i + 1, 0, 2, rz⟩ from by rw [hc]; unfold lexSgn; simp [addOp, mulOp, isCmp, cmpOp, g35]]
      exact sign_35_0_m s i w hs hi hm hc (ne_beq g35)
    rw [show lexSgn (bt s i) (bt s (i + 1)) i = ⟨1, i, i + 1, 0, 0, rz⟩ from by unfold lexSgn; simp [addOp, mulOp, isCmp, cmpOp, h40, h41, h44, h58, h43, h45, h42, h47, h61, h60, h62, h35]]
    exact sign_no_x_m s i w hs hi hm (ne_beq h40) (ne_beq h41) (ne_beq h44) (ne_beq h58) (ne_beq h43) (ne_beq h45) (ne_beq h42) (ne_beq h47) (ne_beq h61) (ne_beq h60) (ne_beq h62) (ne_beq h35)
  · rw [nextB_end hm]
    by_cases h40 : bt s i = 40
    · have hc := h40
      rw [show lexSgn (bt s i) (0) i = ⟨40, i, i + 1, 0, 0, rz⟩ from by rw [hc]; rfl]
      exact sign_40_x_e s i w hs hi hm hc
    by_cases h41 : bt s i = 41
    · have hc := h41
      rw [show lexSgn (bt s i) (0) i = ⟨41, i, i + 1, 0, 0, rz⟩ from by rw [hc]; rfl]
      exact sign_41_x_e s i w hs hi hm hc
    by_cases h44 : bt s i = 44
    · have hc := h44
      rw [show lexSgn (bt s i) (0) i = ⟨44, i, i + 1, 0, 0, rz⟩ from by rw [hc]; rfl]
      exact sign_44_x_e s i w hs hi hm hc
    by_cases h58 : bt s i = 58
    · have hc := h58
      rw [show lexSgn (bt s i) (0) i = ⟨58, i, i + 1, 0, 0, rz⟩ from by rw [hc]; rfl]
      exact sign_58_x_e s i w hs hi hm hc
    by_cases h43 : bt s i = 43
    · have hc := h43
      rw [show lexSgn (bt s i) (0) i = ⟨6, i, i + 1, 0, 7, rz⟩ from by rw [hc]; rfl]
      exact sign_43_x_e s i w hs hi hm hc
    by_cases h45 : bt s i = 45
    · have hc := h45
      rw [show lexSgn (bt s i) (0) i = ⟨6, i, i + 1, 0, 8, rz⟩ from by rw [hc]; rfl]
      exact sign_45_x_e s i w hs hi hm hc
    by_cases h42 : bt s i = 42
    · have hc := h42
      rw [show lexSgn (bt s i) (0) i = ⟨6, i, i + 1, 0, 9, rz⟩ from by rw [hc]; rfl]
      exact sign_42_x_e s i w hs hi hm hc
    by_cases h47 : bt s i = 47
    · have hc := h47
      rw [show lexSgn (bt s i) (0) i = ⟨6, i, i + 1, 0, 10, rz⟩ from by rw [hc]; rfl]
      exact sign_47_x_e s i w hs hi hm hc
    by_cases h61 : bt s i = 61
    · have hc := h61
      rw [show lexSgn (bt s i) (0) i = ⟨6, i, i + 1, 0, 1, rz⟩ from by rw [hc]; rfl]
      exact sign_61_x_e s i w hs hi hm hc
    by_cases h60 : bt s i = 60
    · have hc := h60
      rw [show lexSgn (bt s i) (0) i = ⟨6, i, i + 1, 0, 3, rz⟩ from by rw [hc]; rfl]
      exact sign_60_0_e s i w hs hi hm hc
    by_cases h62 : bt s i = 62
    · have hc := h62
      rw [show lexSgn (bt s i) (0) i = ⟨6, i, i + 1, 0, 5, rz⟩ from by rw [hc]; rfl]
      exact sign_62_0_e s i w hs hi hm hc
    by_cases h35 : bt s i = 35
    · have hc := h35
      rw [show lexSgn (bt s i) (0) i = ⟨3, i, i + 1, 0, 2, rz⟩ from by rw [hc]; rfl]
      exact sign_35_0_e s i w hs hi hm hc
    rw [show lexSgn (bt s i) (0) i = ⟨1, i, i + 1, 0, 0, rz⟩ from by unfold lexSgn; simp [addOp, mulOp, isCmp, cmpOp, h40, h41, h44, h58, h43, h45, h42, h47, h61, h60, h62, h35]]
    exact sign_no_x_e s i w hs hi hm (ne_beq h40) (ne_beq h41) (ne_beq h44) (ne_beq h58) (ne_beq h43) (ne_beq h45) (ne_beq h42) (ne_beq h47) (ne_beq h61) (ne_beq h60) (ne_beq h62) (ne_beq h35)
end Go.Proofs.Qxb6500326aGreat
