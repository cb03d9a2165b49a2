import Derived.Test.Qxb6500326aGreatU6
namespace Go.Proofs.Qxb6500326aGreat
set_option maxRecDepth 100000
set_option linter.unusedVariables false
set_option linter.unusedSimpArgs false
open Go.RowKit Go.PlainAid
section
variable (g n cap : Nat) (L : List Nd)
abbrev ShowOK (f : Nat) : Prop := ∀ (i lo : Nat) (arg : Bool) (need : Int) (w : World), need ≤ 5 → NL w (.slice (some ⟨g, 0, none⟩) n cap) L → Sp L f i lo arg → Calls Tryz.prog 150 #[.slice (some ⟨g, 0, none⟩) n cap, I i, I need] w (Shows w (tx L i need))
abbrev ArgsOK (f : Nat) : Prop := ∀ (k i lo : Nat) (rg : Bool) (w : World), NL w (.slice (some ⟨g, 0, none⟩) n cap) L → Lk (Sp L f) L rg k i lo → Calls Tryz.prog 180 #[.slice (some ⟨g, 0, none⟩) n cap, I i] w (Shows w (axt L i))
end
set_option maxRecDepth 100000 in
set_option maxHeartbeats 2000000 in
theorem args_one (g n cap : Nat) (L : List Nd) (i : Nat) (w : World) (hn : L.length = n) (h : NL w (.slice (some ⟨g, 0, none⟩) n cap) L) (hi : i < L.length) (a : Int) (hx : nd L i = nArg a (-1)) (T : List Int)
    (hrec : Bx (∀ w, NL w (.slice (some ⟨g, 0, none⟩) n cap) L → Calls Tryz.prog 150 #[.slice (some ⟨g, 0, none⟩) n cap, I a, I 1] w (Shows w T))) :
    Calls Tryz.prog 180 #[.slice (some ⟨g, 0, none⟩) n cap, I i] w (Shows w T) := by
  obtain ⟨k0, k1, k2, k3, k4, k5, k6, k7, k8, k9, k10, k11, k12⟩ := h.cells hi hx
  simp only [nArg] at k2 k3
  have hiI : (i : Int) < (n : Int) := by omega
  have hB := Bx.mk h
  have hxB := Bx.mk hx
  clear h hx k0 k1 k4 k5 k6 k7 k8 k9 k10 k11 k12
  go_enter Tryz.func180, Tryz.ntmps180
  go_wp2_with (first
    | (go_at_call 150; refine (hrec.out _ hB.out).mono ?_; clear hrec; rintro e w1 ⟨rfl, hf1⟩; have hN1 := Bx.mk (hB.out.fr0 hf1); clear k2 k3; obtain ⟨k0, k1, k2, k3, k4, k5, k6, k7, k8, k9, k10, k11, k12⟩ := hN1.out.cells hi hxB.out; simp only [nArg] at k3; clear k0 k1 k2 k4 k5 k6 k7 k8 k9 k10 k11 k12))
  go_ret
  exact ⟨rfl, hf1⟩
set_option maxRecDepth 100000 in
set_option maxHeartbeats 2000000 in
theorem args_more (g n cap : Nat) (L : List Nd) (i : Nat) (w : World) (hn : L.length = n) (h : NL w (.slice (some ⟨g, 0, none⟩) n cap) L) (hi : i < L.length) (a b : Int) (hb0 : 0 ≤ b) (hx : nd L i = nArg a b) (T U : List Int) (hT : T.length ≤ 1000) (hU : U.length ≤ 1000)
    (hrec : Bx (∀ w, NL w (.slice (some ⟨g, 0, none⟩) n cap) L → Calls Tryz.prog 150 #[.slice (some ⟨g, 0, none⟩) n cap, I a, I 1] w (Shows w T)))
    (hrec2 : Bx (∀ w, NL w (.slice (some ⟨g, 0, none⟩) n cap) L → Calls Tryz.prog 180 #[.slice (some ⟨g, 0, none⟩) n cap, I b] w (Shows w U))) :
    Calls Tryz.prog 180 #[.slice (some ⟨g, 0, none⟩) n cap, I i] w (Shows w (U ++ 44 :: T)) := by
  obtain ⟨k0, k1, k2, k3, k4, k5, k6, k7, k8, k9, k10, k11, k12⟩ := h.cells hi hx
  simp only [nArg] at k2 k3
  have hiI : (i : Int) < (n : Int) := by omega
  have hbd : decide (b < 0) = false := decide_eq_false (by omega)
  have hB := Bx.mk h
  have hxB := Bx.mk hx
  clear h hx k0 k1 k4 k5 k6 k7 k8 k9 k10 k11 k12
  go_enter Tryz.func180, Tryz.ntmps180
  go_wp2_with (first
    | (go_at_call 150; refine (hrec.out _ hB.out).mono ?_; clear hrec; rintro e w1 ⟨rfl, hf1⟩; have hN1 := Bx.mk (hB.out.fr0 hf1); clear k2 k3; obtain ⟨k0, k1, k2, k3, k4, k5, k6, k7, k8, k9, k10, k11, k12⟩ := hN1.out.cells hi hxB.out; simp only [nArg] at k3; clear k0 k1 k2 k4 k5 k6 k7 k8 k9 k10 k11 k12)
    | (go_at_call 180; refine (hrec2.out _ hN1.out).mono ?_; clear hrec2; rintro e w2 ⟨rfl, hf2⟩)
    | (refine wpList_add_str rfl (.tmp 26) (.const (.string ⟨#[44]⟩)) (by rfl) U [44] (by rfl) (by rfl) (by simp; omega) ?_)
    | (refine wpList_add_str rfl (.tmp 27) (.tmp 28) (by rfl) (U ++ [44]) T (by rfl) (by rfl) (by simp; omega) ?_))
  go_ret
  exact ⟨by simp, hf1.trans hf2⟩
theorem args_any (g n cap : Nat) (L : List Nd) (hn : L.length = n) (h24 : L.length ≤ 24) (f : Nat) (hs : ShowOK g n cap L f) : ArgsOK g n cap L f := by
  intro k
  induction k with
  | zero => intro i lo rg w h hk; exact hk.elim
  | succ k ih =>
    intro i lo rg w h hk
    obtain ⟨h1, h2, m, hS, hm⟩ := hk
    have hlT := sp_len f (i - 1) m rg 1 (by omega) hS
    have e : ((i : Int) - 1) = ((i - 1 : Nat) : Int) := by omega
    have hr : Bx (∀ w, NL w (.slice (some ⟨g, 0, none⟩) n cap) L → Calls Tryz.prog 150 #[.slice (some ⟨g, 0, none⟩) n cap, I ((i : Int) - 1), I 1] w (Shows w (tx L (i - 1) 1))) :=
      Bx.mk (fun w hw => by rw [e]; exact hs (i - 1) m rg 1 w (by omega) hw hS)
    rcases hm with ⟨hk0, hx, hlo⟩ | ⟨hk0, hm1, hx, hL⟩
    · rw [axt_one h1 hx]
      exact args_one g n cap L i w hn h h2 _ hx _ hr
    · have hmi := Sp.le _ _ _ _ hS
      rw [axt_more h1 hm1 hmi hx hL]
      have hlk := hL
      have e2 : ((m : Int) - 1) = ((m - 1 : Nat) : Int) := by omega
      have hlU := lk_len (L := L) (fun i lo a need hn' h' => sp_len f i lo a need hn' h') k (m - 1) lo hL
      exact args_more g n cap L i w hn h h2 _ _ (by omega) hx _ _ (by omega) (by omega) hr (Bx.mk (fun w hw => by rw [e2]; exact ih (m - 1) lo rg w hw hL))
theorem leftNeed_1 : leftNeed 1 = 2 := rfl
theorem show_any (g n cap : Nat) (L : List Nd) (hn : L.length = n) (h24 : L.length ≤ 24) : ∀ f, ShowOK g n cap L f := by
  intro f
  induction f with
  | zero => intro i lo arg need w h1 h2 h3; exact h3.elim
  | succ f ih =>
    intro i lo arg need w hneed h hsp
    obtain ⟨hi, hsp⟩ := hsp
    rcases hsp with ⟨-, hl⟩ | ⟨a1, a2, a3⟩ | ⟨op, m, a1, a2, a3, a4, a5, a6, a7⟩ | ⟨op, k, a1, a2, a3, a4⟩
    · rw [tx_leaf hl hneed]
      rcases hl with ⟨v, e, v1, v2⟩ | e | e | ⟨r, e, hr⟩ | e | ⟨ha, r, s, e, hr, hs⟩
      · obtain ⟨q, rfl⟩ := Int.eq_ofNat_of_zero_le v1
        rw [e]
        exact show_num g n cap L i w hn h hi q (by omega) e need hneed
      · rw [e]; exact show_bool0 g n cap L i w hn h hi e need hneed
      · rw [e]; exact show_bool1 g n cap L i w hn h hi e need hneed
      · rw [e]; exact show_ref g n cap L i w hn h hi r hr e need hneed
      · rw [e]; exact show_bad g n cap L i w hn h hi e need hneed
      · rw [e]; exact show_range g n cap L i w hn h hi r s hr hs e need hneed
    · rw [tx_neg a1 a2]
      have e : ((i : Int) - 1) = ((i - 1 : Nat) : Int) := by omega
      have hl := sp_len f (i - 1) lo false 4 (by omega) a3
      have hr : Bx (∀ w, NL w (.slice (some ⟨g, 0, none⟩) n cap) L → Calls Tryz.prog 150 #[.slice (some ⟨g, 0, none⟩) n cap, I ((i : Int) - 1), I 4] w (Shows w (tx L (i - 1) 4))) :=
        Bx.mk (fun w hw => by rw [e]; exact ih (i - 1) lo false 4 w (by omega) hw a3)
      unfold bracket
      by_cases hd : 4 < need
      · rw [if_pos hd]; exact show_neg1 g n cap L i w hn h hi _ hr (by omega) a2 need hd
      · rw [if_neg hd]; exact show_neg0 g n cap L i w hn h hi _ hr (by omega) a2 need (by omega)
    · rw [tx_bin a3 a4 a5 a6 a7]
      have e : ((i : Int) - 1) = ((i - 1 : Nat) : Int) := by omega
      have e2 : ((m : Int) - 1) = ((m - 1 : Nat) : Int) := by omega
      have hmi := Sp.le _ _ _ _ a6
      have hB : ∀ nd', nd' ≤ 5 → Bx (∀ w, NL w (.slice (some ⟨g, 0, none⟩) n cap) L → Calls Tryz.prog 150 #[.slice (some ⟨g, 0, none⟩) n cap, I ((i : Int) - 1), I nd'] w (Shows w (tx L (i - 1) nd'))) :=
        fun nd' hn' => Bx.mk (fun w hw => by rw [e]; exact ih (i - 1) m false nd' w hn' hw a6)
      have hA : ∀ nd', nd' ≤ 5 → Bx (∀ w, NL w (.slice (some ⟨g, 0, none⟩) n cap) L → Calls Tryz.prog 150 #[.slice (some ⟨g, 0, none⟩) n cap, I ((m : Int) - 1), I nd'] w (Shows w (tx L (m - 1) nd'))) :=
        fun nd' hn' => Bx.mk (fun w hw => by rw [e2]; exact ih (m - 1) lo false nd' w hn' hw a7)
      have lB : ∀ nd', nd' ≤ 5 → (tx L (i - 1) nd').length ≤ 1000 := fun nd' hn' => by have := sp_len f (i - 1) m false nd' hn' a6; omega
      have lA : ∀ nd', nd' ≤ 5 → (tx L (m - 1) nd').length ≤ 1000 := fun nd' hn' => by have := sp_len f (m - 1) lo false nd' hn' a7; omega
      have hlv : level (nBin op ((m : Int) - 1) ((i : Int) - 1)) = 1 ∨ level (nBin op ((m : Int) - 1) ((i : Int) - 1)) = 2 ∨ level (nBin op ((m : Int) - 1) ((i : Int) - 1)) = 3 := by
        unfold level nBin; simp only; rw [if_neg (by omega), if_neg (by omega)]; split; exact .inl rfl; split; exact .inr (.inl rfl); exact .inr (.inr rfl)
      rw [a5]
      rcases hlv with hlv | hlv | hlv
      · rw [hlv]
        unfold bracket
        rw [show leftNeed 1 = 2 from rfl]
        by_cases hd : 1 < need
        · rw [if_pos hd]; exact show_bin11 g n cap L i w hn h hi op _ a1 a2 _ _ (hA 2 (by omega)) (lA 2 (by omega)) (hB 2 (by omega)) (lB 2 (by omega)) (Bx.mk hlv) a5 need hd
        · rw [if_neg hd]; exact show_bin10 g n cap L i w hn h hi op _ a1 a2 _ _ (hA 2 (by omega)) (lA 2 (by omega)) (hB 2 (by omega)) (lB 2 (by omega)) (Bx.mk hlv) a5 need (by omega)
      · rw [hlv]
        unfold bracket
        rw [show leftNeed 2 = 2 from rfl]
        by_cases hd : 2 < need
        · rw [if_pos hd]; exact show_bin21 g n cap L i w hn h hi op _ a1 a2 _ _ (hA 2 (by omega)) (lA 2 (by omega)) (hB 3 (by omega)) (lB 3 (by omega)) (Bx.mk hlv) a5 need hd
        · rw [if_neg hd]; exact show_bin20 g n cap L i w hn h hi op _ a1 a2 _ _ (hA 2 (by omega)) (lA 2 (by omega)) (hB 3 (by omega)) (lB 3 (by omega)) (Bx.mk hlv) a5 need (by omega)
      · rw [hlv]
        unfold bracket
        rw [show leftNeed 3 = 3 from rfl]
        by_cases hd : 3 < need
        · rw [if_pos hd]; exact show_bin31 g n cap L i w hn h hi op _ a1 a2 _ _ (hA 3 (by omega)) (lA 3 (by omega)) (hB 4 (by omega)) (lB 4 (by omega)) (Bx.mk hlv) a5 need hd
        · rw [if_neg hd]; exact show_bin30 g n cap L i w hn h hi op _ a1 a2 _ _ (hA 3 (by omega)) (lA 3 (by omega)) (hB 4 (by omega)) (lB 4 (by omega)) (Bx.mk hlv) a5 need (by omega)
    · rw [tx_call a1 a2 a4 hneed]
      have e : ((i : Int) - 1) = ((i - 1 : Nat) : Int) := by omega
      have hl := lk_len (L := L) (fun i lo a need hn' h' => sp_len f i lo a need hn' h') k.toNat (i - 1) lo a4
      exact show_call g n cap L i w hn h hi op k _ (Bx.mk (fun w hw => by rw [e]; exact args_any g n cap L hn h24 f ih k.toNat (i - 1) lo (rangeOK op) w hw a4)) (by omega) a2 need hneed
end Go.Proofs.Qxb6500326aGreat
