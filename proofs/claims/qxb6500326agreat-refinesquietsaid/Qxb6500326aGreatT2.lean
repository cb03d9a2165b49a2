/-
  DERIVED. THE PLAIN LAW OF LAYER book, 2: the saved text.
-/
import Derived.Test.Qxb6500326aGreatT1
import Derived.Test.Qxb6500326aGreatW2
namespace Go.Proofs.Qxb6500326aGreat
set_option linter.unusedVariables false
set_option linter.unusedSimpArgs false

theorem bs_len (L : List Int) : (bs L).size = L.length := by
  show (L.map _).toArray.size = _
  simp
def isDg (c : Int) : Bool := decide (48 ≤ c) && decide (c ≤ 57)
/-- The number that two digits spell; -1: one is no digit. -/
def numP (a b : Int) : Int := if isDg a = true ∧ isDg b = true then (a - 48) * 10 + (b - 48) else -1
def d2 (n : Nat) : List Int := [48 + (n / 10 : Nat), 48 + (n % 10 : Nat)]
theorem num_d2 {n : Nat} (h : n < 100) : numP (48 + ((n / 10 : Nat) : Int)) (48 + ((n % 10 : Nat) : Int)) = n := by
  unfold numP isDg
  rw [if_pos (by simp; omega)]
  omega
theorem numP_bd (a b : Int) : -1 ≤ numP a b ∧ numP a b ≤ 99 := by
  unfold numP isDg
  split
  · rename_i h; simp at h; omega
  · omega
theorem numP_d2 {a b : Int} {n : Nat} (h : numP a b = n) : [a, b] = d2 n := by
  unfold numP isDg at h
  split at h
  · rename_i hd; simp at hd
    unfold d2
    have h1 : a = 48 + ((n / 10 : Nat) : Int) := by omega
    have h2 : b = 48 + ((n % 10 : Nat) : Int) := by omega
    rw [h1, h2]
  · omega
/-- One cell's piece of the saved text. -/
def pieceP (T : Tx) (c : Nat) : List Int := if (T c).size = 0 then [] else d2 c ++ (d2 (T c).size ++ lst (T c))
def savF (T : Tx) : Nat → Nat → List Int
  | 0, _ => []
  | k + 1, c => pieceP T c ++ savF T k (c + 1)
/-- The saved text from cell c on. -/
def savFrom (T : Tx) (c : Nat) : List Int := savF T (24 - c) c
theorem savFrom_step {T : Tx} {c : Nat} (h : c < 24) : savFrom T c = pieceP T c ++ savFrom T (c + 1) := by
  unfold savFrom
  rw [show 24 - c = (24 - (c + 1)) + 1 from by omega]
  rfl
theorem savFrom_end {T : Tx} {c : Nat} (h : 24 ≤ c) : savFrom T c = [] := by
  unfold savFrom
  rw [show 24 - c = 0 from by omega]
  rfl
theorem savF_congr {S T : Tx} : ∀ (k c : Nat), (∀ d, c ≤ d → S d = T d) → savF S k c = savF T k c
  | 0, c, h => rfl
  | k + 1, c, h => by
    unfold savF pieceP
    rw [h c (Nat.le_refl _), savF_congr k (c + 1) (fun d hd => h d (by omega))]
theorem savFrom_congr {S T : Tx} {c : Nat} (h : ∀ d, c ≤ d → S d = T d) : savFrom S c = savFrom T c := savF_congr _ _ h
/-- Cells with nothing are passed over. -/
theorem savFrom_skip {T : Tx} : ∀ (n c : Nat), (∀ d, c ≤ d → d < c + n → (T d).size = 0) → savFrom T c = savFrom T (c + n)
  | 0, c, h => rfl
  | n + 1, c, h => by
    rcases Nat.lt_or_ge c 24 with hc | hc
    · rw [savFrom_step hc]
      have : pieceP T c = [] := by unfold pieceP; rw [if_pos (h c (Nat.le_refl _) (by omega))]
      rw [this, List.nil_append, savFrom_skip n (c + 1) (fun d h1 h2 => h d (by omega) (by omega))]
      rw [show c + 1 + n = c + (n + 1) from by omega]
    · rw [savFrom_end hc, savFrom_end (by omega)]
/-! ### a saved text, read -/
inductive Sv : List Int → Int → Tx → Prop
  | nil (last : Int) : Sv [] last (fun _ => es)
  | piece (a b c d : Int) (P R : List Int) (last : Int) (i m : Nat) (S : Tx) (h1 : numP a b = i) (h2 : numP c d = m) (h3 : last < i) (h4 : i < 24) (h5 : 1 ≤ m) (h6 : m ≤ 40) (h7 : P.length = m) (h : Sv R i S) : Sv (a :: b :: c :: d :: (P ++ R)) last (upd S i (bs P))
theorem Sv.low {L : List Int} {last : Int} {S : Tx} (h : Sv L last S) : ∀ d : Nat, (d : Int) ≤ last ∨ 24 ≤ d → S d = es := by
  induction h with
  | nil last => intro d _; rfl
  | piece a b c d P R last i m S h1 h2 h3 h4 h5 h6 h7 h ih =>
    intro e he
    rw [upd_other _ _ (by omega)]
    exact ih e (by omega)
theorem Sv.ok {L : List Int} {last : Int} {S : Tx} (h : Sv L last S) : ∀ d : Nat, (S d).size ≤ 40 := by
  induction h with
  | nil last => intro d; show es.size ≤ 40; decide
  | piece a b c d P R last i m S h1 h2 h3 h4 h5 h6 h7 h ih =>
    intro e
    unfold upd
    split
    · rw [bs_len]; omega
    · exact ih e
/-- Behind a Load the saved text is that text. -/
theorem Sv.save {L : List Int} {last : Int} {S : Tx} (h : Sv L last S) (hb : ∀ x ∈ L, 0 ≤ x ∧ x ≤ 255) (hl : -1 ≤ last) : savFrom S (last + 1).toNat = L := by
  induction h with
  | nil last =>
    have : ∀ (k c : Nat), savF (fun _ => es) k c = [] := by
      intro k
      induction k with
      | zero => intro c; rfl
      | succ k ih => intro c; unfold savF pieceP; rw [if_pos (by show es.size = 0; decide), ih]; rfl
    exact this _ _
  | piece a b c d P R last i m S h1 h2 h3 h4 h5 h6 h7 h ih =>
    have hP : ∀ x ∈ P, 0 ≤ x ∧ x ≤ 255 := fun x hx => hb x (by simp [hx])
    have hR : ∀ x ∈ R, 0 ≤ x ∧ x ≤ 255 := fun x hx => hb x (by simp [hx])
    have ih := ih hR (by omega)
    have e1 : ((i : Int) + 1).toNat = i + 1 := by omega
    rw [e1] at ih
    have e2 : (last + 1).toNat + (i - (last + 1).toNat) = i := by omega
    rw [savFrom_skip (i - (last + 1).toNat) (last + 1).toNat (fun e g1 g2 => by
      rw [upd_other _ _ (by omega), h.low e (.inl (by omega))]; decide), e2]
    rw [savFrom_step h4, savFrom_congr (T := S) (fun e he => upd_other _ _ (by omega)), ih]
    have e3 : pieceP (upd S i (bs P)) i = a :: b :: c :: d :: P := by
      unfold pieceP
      rw [upd_same, bs_len, if_neg (by omega), lst_bs hP, h7, ← numP_d2 h1, ← numP_d2 h2]
      rfl
    rw [e3]; rfl
/-- The texts from cell k on. -/
def fromT (T : Tx) (k c : Nat) : ByteArray := if k ≤ c then T c else es
theorem lst_len' (s : ByteArray) : (lst s).length = s.size := by unfold lst; simp
theorem size_zero {s : ByteArray} (h : s.size = 0) : s = es := by
  obtain ⟨⟨l⟩⟩ := s
  have : l = [] := List.eq_nil_of_length_eq_zero h
  subst this
  rfl
/-- A saved text reads back. -/
theorem save_sv {T : Tx} (hT : ∀ c, (T c).size ≤ 40) (hout : ∀ c, 24 ≤ c → T c = es) : ∀ (n k : Nat), k + n = 24 → ∀ last : Int, last < k → -1 ≤ last → Sv (savFrom T k) last (fromT T k)
  | 0, k, hk, last, hl, h1 => by
    rw [savFrom_end (by omega)]
    have : fromT T k = fun _ => es := funext fun c => by
      unfold fromT; split
      · exact hout c (by omega)
      · rfl
    rw [this]
    exact .nil last
  | n + 1, k, hk, last, hl, h1 => by
    rw [savFrom_step (by omega)]
    unfold pieceP
    by_cases h0 : (T k).size = 0
    · rw [if_pos h0, List.nil_append]
      have := save_sv hT hout n (k + 1) (by omega) last (by omega) h1
      have e : fromT T (k + 1) = fromT T k := funext fun c => by
        unfold fromT
        by_cases e : c = k
        · subst e; rw [if_neg (by omega), if_pos (Nat.le_refl _), size_zero h0]
        · by_cases e2 : k ≤ c
          · rw [if_pos (by omega), if_pos e2]
          · rw [if_neg (by omega), if_neg e2]
      rw [← e]; exact this
    · rw [if_neg h0]
      have ih := save_sv hT hout n (k + 1) (by omega) (k : Int) (by omega) (by omega)
      have e : fromT T k = upd (fromT T (k + 1)) k (bs (lst (T k))) := funext fun c => by
        rw [bs_lst]
        unfold fromT upd
        by_cases e : c = k
        · subst e; rw [if_pos (Nat.le_refl _), if_pos rfl]
        · rw [if_neg e]
          simp only []
          by_cases e2 : k ≤ c
          · rw [if_pos e2, if_pos (by omega)]
          · rw [if_neg e2, if_neg (by omega)]
      rw [e]
      have hk40 := hT k
      have := Sv.piece (48 + ((k / 10 : Nat) : Int)) (48 + ((k % 10 : Nat) : Int)) (48 + (((T k).size / 10 : Nat) : Int)) (48 + (((T k).size % 10 : Nat) : Int)) (lst (T k)) (savFrom T (k + 1)) last k (T k).size _ (num_d2 (by omega)) (num_d2 (by omega)) hl (by omega) (by omega) hk40 (lst_len' _) ih
      unfold d2
      simpa using this
theorem save_all {T : Tx} (hT : ∀ c, (T c).size ≤ 40) (hout : ∀ c, 24 ≤ c → T c = es) : Sv (savFrom T 0) (-1) T := by
  have := save_sv hT hout 24 0 (by omega) (-1) (by omega) (by omega)
  have e : fromT T 0 = T := funext fun c => by unfold fromT; rw [if_pos (Nat.zero_le _)]
  rw [e] at this; exact this
/-- A text reads in one way. -/
theorem Sv.uniq {L : List Int} {last : Int} {S : Tx} (h : Sv L last S) : ∀ {S' : Tx}, Sv L last S' → S = S' := by
  induction h with
  | nil last => intro S' h'; cases h'; rfl
  | piece a b c d P R last i m S h1 h2 h3 h4 h5 h6 h7 h ih =>
    intro S' h'
    generalize hL : a :: b :: c :: d :: (P ++ R) = L at h'
    cases h' with
    | nil => cases hL
    | piece a' b' c' d' P' R' last' i' m' S2 g1 g2 g3 g4 g5 g6 g7 g =>
      simp only [List.cons.injEq] at hL
      obtain ⟨rfl, rfl, rfl, rfl, hPR⟩ := hL
      have ei : i = i' := by omega
      have em : m = m' := by omega
      subst ei; subst em
      obtain ⟨rfl, rfl⟩ := List.append_inj hPR (by omega)
      rw [ih g]
end Go.Proofs.Qxb6500326aGreat
