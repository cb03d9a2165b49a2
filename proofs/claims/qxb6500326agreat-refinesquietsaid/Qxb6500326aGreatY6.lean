import Derived.Test.Qxb6500326aGreatY3
import Derived.Test.Qxb6500326aGreatY5
import Derived.Test.Qxb6500326aGreatX8
namespace Go.Proofs.Qxb6500326aGreat
set_option maxRecDepth 100000
set_option linter.unusedVariables false
set_option linter.unusedSimpArgs false
open Go.RowKit Go.PlainAid
def lastF (T : Nat → Tok) : Nat → Nat
  | 0 => 0
  | m + 1 => (T m).fin
/-- m tokens have been found up to i. -/
structure Sc (b : Nat → Int) (n : Nat) (T : Nat → Tok) (m i : Nat) : Prop where
  first : 0 < m → T 0 = lex b n 0
  chain : ∀ j, j + 1 < m → T (j + 1) = lex b n (T j).fin
  kind : ∀ j, j < m → (T j).kind ≠ 0
  here : lex b n i = lex b n (lastF T m)
  mi : m ≤ i
  le : i ≤ n
section
variable {b : Nat → Int} {n : Nat} {T : Nat → Tok} {m i : Nat}
theorem Sc.blank (h : Sc b n T m i) (hi : i < n) (h2 : b i = 32) : Sc b n T m (i + 1) :=
  ⟨h.first, h.chain, h.kind, by rw [← h.here]; unfold lex; rw [skip_step hi h2], Nat.le_succ_of_le h.mi, hi⟩
theorem skip_here (hi : ¬ (i < n ∧ b i = 32)) : skip b n i = i := by
  unfold skip
  cases n - i <;> simp [skipF, hi]
theorem Sc.put0 (h : Sc b n T m i) {t : Tok} (ht : t = lex b n i) : (T' : Nat → Tok) → T' = upd T m t → (0 < m + 1 → T' 0 = lex b n 0) ∧ (∀ j, j + 1 < m + 1 → T' (j + 1) = lex b n (T' j).fin) := by
  intro T' e
  subst e
  constructor
  · intro _
    cases m with
    | zero => rw [upd_same, ht, h.here]; rfl
    | succ m => rw [upd_other _ _ (by omega)]; exact h.first (by omega)
  · intro j hj
    rw [upd_other T t (show j ≠ m by omega)]
    by_cases e : j + 1 = m
    · subst e; rw [upd_same, ht, h.here]; rfl
    · rw [upd_other _ _ e]; exact h.chain j (by omega)
theorem Sc.put (h : Sc b n T m i) (hi : i < n) (h2 : ¬ b i = 32) {t : Tok} (ht : t = lexAt b n i) : Sc b n (upd T m t) (m + 1) t.fin := by
  have hs : skip b n i = i := skip_here (fun c => h2 c.2)
  have hl : t = lex b n i := by unfold lex; rw [hs, ht]
  obtain ⟨p1, p2⟩ := h.put0 hl _ rfl
  obtain ⟨f1, f2, f3⟩ := lexAt_fin (b := b) hi
  have hm := h.mi
  refine ⟨p1, p2, ?_, ?_, ?_, ?_⟩
  · intro j hj
    by_cases e : j = m
    · subst e; rw [upd_same, ht]; exact f3
    · rw [upd_other _ _ e]; exact h.kind j (by omega)
  · show lex b n t.fin = lex b n (upd T m t m).fin; rw [upd_same]
  · rw [ht]; omega
  · rw [ht]; exact f2
end
/-- The tokens of the text. -/
structure Toks (b : Nat → Int) (n : Nat) (T : Nat → Tok) (nt : Nat) : Prop where
  pos : 0 < nt
  le : nt ≤ n + 1
  first : T 0 = lex b n 0
  chain : ∀ i, i + 1 < nt → T (i + 1) = lex b n (T i).fin
  ends : ∀ i, i < nt → ((T i).kind = 0 ↔ i + 1 = nt)
theorem Sc.done {b : Nat → Int} {n : Nat} {T : Nat → Tok} {m i : Nat} (h : Sc b n T m i) (hi : ¬ i < n) : Toks b n (upd T m ⟨0, n, n, 0, 0, rz⟩) (m + 1) := by
  have hl : (⟨0, n, n, 0, 0, rz⟩ : Tok) = lex b n i := by
    have hle := h.le
    unfold lex
    rw [skip_here (fun c => hi c.1), lexAt_end (by omega)]
  obtain ⟨p1, p2⟩ := h.put0 hl _ rfl
  have hm := h.mi
  have hle := h.le
  refine ⟨by omega, by omega, p1 (by omega), p2, ?_⟩
  intro j hj
  by_cases e : j = m
  · subst e; rw [upd_same]; simp
  · rw [upd_other _ _ e]
    constructor
    · intro c; exact absurd c (h.kind j (by omega))
    · intro c; omega
set_option maxRecDepth 100000 in
set_option maxHeartbeats 8000000 in
theorem scanX (B : FB) (F : Fmr) (s : ByteArray) (w : World) (hs : s.size ≤ 40) (hF : FM w B F) :
    Calls Tryz.prog 159 #[pt B.f, .string s] w fun e w' => e = .returned (.tuple #[]) ∧ (∃ T nt, FM w' B { F with toks := T, nt := nt } ∧ Toks (bt s) s.size T nt) ∧ Fr (FmS B) w w' := by
  have hb := get_bt s
  have hF0 := Bx.mk (hF.set (F' := { F with nt := 0 }) 1 (I 0) (by intro i hi; rcases i with _ | _ | _ | _ | _ | _ | _ | _ | _ | _ | _ | _ | _ | _ | _ | _ | _ | i <;> first | rfl | omega) rfl rfl rfl rfl rfl rfl rfl)
  have c1 := hF.row.cell 1 (by omega)
  have z1 := hF.row.frozen 1
  simp only [fmC] at c1
  have hok := Bx.mk hF.ok
  clear hF
  go_enter Tryz.func159, Tryz.ntmps159
  go_wp2_with fail
  go_loopw [4] (fun ii wr => ∃ (i m : Nat) (T : Nat → Tok), ii = I i ∧ FM wr B { F with toks := T, nt := m } ∧ Sc (bt s) s.size T m i ∧ Fr (FmS B) w wr) (fun ii _ => s.size - (intOf ii).toNat)
  case atStart => exact ⟨0, 0, F.toks, rfl, hF0.out, ⟨fun e => absurd e (by omega), fun j e => absurd e (by omega), fun j e => absurd e (by omega), rfl, Nat.le_refl _, Nat.zero_le _⟩, (Fr.refl _ _).fm 1 _⟩
  case round =>
    clear c1 z1 hF0
    obtain ⟨i, m, T, rfl, hF, hSc, hfr⟩ := hrel
    have c0 := hF.row.cell 0 (by omega)
    have c1 := hF.row.cell 1 (by omega)
    have z1 := hF.row.frozen 1
    simp only [fmC] at c0 c1
    obtain ⟨l1, l2, l3, l4, l5, l6, l7⟩ := hF.lts
    have hmi := hSc.mi
    have hin := hSc.le
    by_cases hlt : i < s.size
    · have hd : decide ((i : Int) < (s.size : Int)) = true := decide_eq_true (by omega)
      have hcb1 := bt_nonneg s i
      have hcb2 := bt_le s i
      by_cases h32 : bt s i = 32
      · have d32 : (bt s i == 32) = true := by simpa using h32
        have hS2 := Bx.mk (hSc.blank hlt h32)
        have hFB := Bx.mk hF
        clear hF hSc h32
        go_wp2_with fail
        go_roundw
        case rel => exact ⟨i + 1, m, T, by go_num, hFB.out, hS2.out, hfr⟩
        case measure => simp [intOf]; omega
      · have d32 : (bt s i == 32) = false := by simpa using h32
        have hne := lexAt_fin (b := bt s) hlt
        obtain ⟨t, ht⟩ : ∃ t, t = lexAt (bt s) s.size i := ⟨_, rfl⟩
        have hS2 := hSc.put hlt h32 ht
        rw [← ht] at hne
        obtain ⟨hne1, hne2, -⟩ := hne
        have hmz : (m : Int) < 41 := by omega
        have hdig : ∀ wx, Calls Tryz.prog 185 #[Y (bt s i)] wx fun e w' => e = .returned (.bool (isDig (bt s i))) ∧ wx = w' := fun wx => digit_any (bt s i) wx hcb1 hcb2
        have hwor : ∀ wx, Calls Tryz.prog 187 #[Y (bt s i)] wx fun e w' => e = .returned (.bool (wordy (bt s i))) ∧ wx = w' := fun wx => wordy_any (bt s i) wx hcb1 hcb2
        have hFA := Bx.mk (hF.alloc (.cells (tkA tok0) 213))
        have hZ0 := Bx.mk (tk_new wr tok0 rfl)
        have hSB := Bx.mk hS2
        have hRow : Row (wr.alloc (.cells (tkA tok0) 213)) wr.heap.size 9 (tkC tok0) := hZ0.out
        have y0 := hRow.frozen 0
        clear hF hSc h32 hS2 hRow
        unfold lexAt at ht
        rw [if_neg (by omega)] at ht
        by_cases hdg : isDig (bt s i) = true
        · rw [if_pos hdg] at ht
          rw [hdg] at hdig
          have hTk : ∀ wx, Calls Tryz.prog 186 #[.string s, I i] wx fun e w' => e = .returned (tkV t) ∧ Fr S0 wx w' := fun wx => by rw [ht]; exact scanNumber_any s i wx hs hin
          have hTB := Bx.mk hTk
          have hdB := Bx.mk hdig
          have hwB := Bx.mk hwor
          clear ht hTk hdig hwor hdg
          go_wp2_with (first | (go_at_call 185; refine (hdB.out _).mono ?_; clear hdB; rintro e w' ⟨rfl, rfl⟩) | (go_at_call 186; refine (hTB.out _).mono ?_; clear hTB; rintro e w1 ⟨rfl, hf1⟩; have hZ1 := Bx.mk (hf1.row0 hZ0.out); have hF1 := Bx.mk (hFA.out.fr0 hf1); have hs1 : wr.heap.size + 1 ≤ w1.heap.size := (by have := hf1.size; simpa using this); obtain ⟨i0', i1', i2', i3', i4', i5', i6', i7', i8'⟩ := hZ1.out.tk; have y0 := hZ1.out.frozen 0; have y1 := hZ1.out.frozen 1; have y2 := hZ1.out.frozen 2; have y3 := hZ1.out.frozen 3; have y4 := hZ1.out.frozen 4; have y5 := hZ1.out.frozen 5; have y6 := hZ1.out.frozen 6; have y7 := hZ1.out.frozen 7; have y8 := hZ1.out.frozen 8))
          have hone := oneBlock w1 wr.heap.size 0 (tkA t).toList
          refine world_cut (fun wz => FM wz B { F with toks := T, nt := m } ∧ Row wz wr.heap.size 9 (tkC t) ∧ Fr (FmS B) w wz) ⟨hF1.out.fr hone (by rintro k (e | e | e | e | e | e | e) (h : k = wr.heap.size) <;> omega), tk_sets hZ1.out t, sets_fr (S := FmS B) (a := w) (b := wr.heap.size) (.inr hfr.size) (tkA t).toList w1 0 ((hfr.alloc _).trans hf1.up)⟩ ?_
          clear i0' i1' i2' i3' i4' i5' i6' i7' i8' y0 y1 y2 y3 y4 y5 y6 y7 y8 c0 c1 z1 hone hZ1 hF1 hf1 hs1
          rintro wz ⟨hF, hTz, hfz⟩
          have c0 := hF.row.cell 0 (by omega)
          have c1 := hF.row.cell 1 (by omega)
          have z1 := hF.row.frozen 1
          simp only [fmC] at c0 c1
          obtain ⟨j0, j1, j2, j3, j4, j5, j6, j7, j8⟩ := hTz.tk
          have h1 := hF.putTok m t
          have h2 := Bx.mk (h1.set (F' := { F with toks := upd T m t, nt := m + 1 }) 1 (I ((m : Int) + 1)) (by intro i hi; rcases i with _ | _ | _ | _ | _ | _ | _ | _ | _ | _ | _ | _ | _ | _ | _ | _ | _ | i <;> first | rfl | omega | (show I ((m : Int) + 1) = I ((m + 1 : Nat) : Int); congr 1)) rfl rfl rfl rfl rfl rfl rfl)
          have k0 := hF.toks.cell0 m (by omega) (by omega)
          have k1 := hF.toks.cell m 1 (by omega) (by omega)
          have k2 := hF.toks.cell m 2 (by omega) (by omega)
          have k3 := hF.toks.cell m 3 (by omega) (by omega)
          have k4 := hF.toks.cell m 4 (by omega) (by omega)
          have k5 := hF.toks.cell m 5 (by omega) (by omega)
          have k6 := hF.toks.cell m 6 (by omega) (by omega)
          have k7 := hF.toks.cell m 7 (by omega) (by omega)
          have k8 := hF.toks.cell m 8 (by omega) (by omega)
          have x0 := hF.toks.frozen (m * 9)
          have xx := fun j => hF.toks.frozen (m * 9 + j)
          have fo := hok.out.ft
          have n1 : wr.heap.size ≠ B.f := by omega
          have n2 : wr.heap.size ≠ B.t := by omega
          clear hF h1 hTz l3 l4 l5 l6 l7
          go_region
          go_wp2_with fail
          go_roundw
          case rel => exact ⟨t.fin, m + 1, _, rfl, h2.out.drew, hSB.out, ((hfz.fmT (m * 9) (tkA t).toList).fm 1 (I ((m : Int) + 1))).drew⟩
          case measure => simp [intOf]; omega
        · rw [if_neg hdg] at ht
          rw [Bool.eq_false_iff.2 hdg] at hdig
          by_cases hwd : wordy (bt s i) = true
          · rw [if_pos hwd] at ht
            rw [hwd] at hwor
            have hTk : ∀ wx, Calls Tryz.prog 188 #[.string s, I i] wx fun e w' => e = .returned (tkV t) ∧ Fr S0 wx w' := fun wx => by rw [ht]; exact word_tok s i wx hs hin
            have hTB := Bx.mk hTk
            have hdB := Bx.mk hdig
            have hwB := Bx.mk hwor
            clear ht hTk hdig hwor hdg hwd
            go_wp2_with (first | (go_at_call 185; refine (hdB.out _).mono ?_; clear hdB; rintro e w' ⟨rfl, rfl⟩) | (go_at_call 187; refine (hwB.out _).mono ?_; clear hwB; rintro e w' ⟨rfl, rfl⟩) | (go_at_call 188; refine (hTB.out _).mono ?_; clear hTB; rintro e w1 ⟨rfl, hf1⟩; have hZ1 := Bx.mk (hf1.row0 hZ0.out); have hF1 := Bx.mk (hFA.out.fr0 hf1); have hs1 : wr.heap.size + 1 ≤ w1.heap.size := (by have := hf1.size; simpa using this); obtain ⟨i0', i1', i2', i3', i4', i5', i6', i7', i8'⟩ := hZ1.out.tk; have y0 := hZ1.out.frozen 0; have y1 := hZ1.out.frozen 1; have y2 := hZ1.out.frozen 2; have y3 := hZ1.out.frozen 3; have y4 := hZ1.out.frozen 4; have y5 := hZ1.out.frozen 5; have y6 := hZ1.out.frozen 6; have y7 := hZ1.out.frozen 7; have y8 := hZ1.out.frozen 8))
            have hone := oneBlock w1 wr.heap.size 0 (tkA t).toList
            refine world_cut (fun wz => FM wz B { F with toks := T, nt := m } ∧ Row wz wr.heap.size 9 (tkC t) ∧ Fr (FmS B) w wz) ⟨hF1.out.fr hone (by rintro k (e | e | e | e | e | e | e) (h : k = wr.heap.size) <;> omega), tk_sets hZ1.out t, sets_fr (S := FmS B) (a := w) (b := wr.heap.size) (.inr hfr.size) (tkA t).toList w1 0 ((hfr.alloc _).trans hf1.up)⟩ ?_
            clear i0' i1' i2' i3' i4' i5' i6' i7' i8' y0 y1 y2 y3 y4 y5 y6 y7 y8 c0 c1 z1 hone hZ1 hF1 hf1 hs1
            rintro wz ⟨hF, hTz, hfz⟩
            have c0 := hF.row.cell 0 (by omega)
            have c1 := hF.row.cell 1 (by omega)
            have z1 := hF.row.frozen 1
            simp only [fmC] at c0 c1
            obtain ⟨j0, j1, j2, j3, j4, j5, j6, j7, j8⟩ := hTz.tk
            have h1 := hF.putTok m t
            have h2 := Bx.mk (h1.set (F' := { F with toks := upd T m t, nt := m + 1 }) 1 (I ((m : Int) + 1)) (by intro i hi; rcases i with _ | _ | _ | _ | _ | _ | _ | _ | _ | _ | _ | _ | _ | _ | _ | _ | _ | i <;> first | rfl | omega | (show I ((m : Int) + 1) = I ((m + 1 : Nat) : Int); congr 1)) rfl rfl rfl rfl rfl rfl rfl)
            have k0 := hF.toks.cell0 m (by omega) (by omega)
            have k1 := hF.toks.cell m 1 (by omega) (by omega)
            have k2 := hF.toks.cell m 2 (by omega) (by omega)
            have k3 := hF.toks.cell m 3 (by omega) (by omega)
            have k4 := hF.toks.cell m 4 (by omega) (by omega)
            have k5 := hF.toks.cell m 5 (by omega) (by omega)
            have k6 := hF.toks.cell m 6 (by omega) (by omega)
            have k7 := hF.toks.cell m 7 (by omega) (by omega)
            have k8 := hF.toks.cell m 8 (by omega) (by omega)
            have x0 := hF.toks.frozen (m * 9)
            have xx := fun j => hF.toks.frozen (m * 9 + j)
            have fo := hok.out.ft
            have n1 : wr.heap.size ≠ B.f := by omega
            have n2 : wr.heap.size ≠ B.t := by omega
            clear hF h1 hTz l3 l4 l5 l6 l7
            go_region
            go_wp2_with fail
            go_roundw
            case rel => exact ⟨t.fin, m + 1, _, rfl, h2.out.drew, hSB.out, ((hfz.fmT (m * 9) (tkA t).toList).fm 1 (I ((m : Int) + 1))).drew⟩
            case measure => simp [intOf]; omega
          · rw [if_neg hwd] at ht
            rw [Bool.eq_false_iff.2 hwd] at hwor
            have hTk : ∀ wx, Calls Tryz.prog 189 #[.string s, I i] wx fun e w' => e = .returned (tkV t) ∧ Fr S0 wx w' := fun wx => by rw [ht]; exact sign_any s i wx hs hlt
            have hTB := Bx.mk hTk
            have hdB := Bx.mk hdig
            have hwB := Bx.mk hwor
            clear ht hTk hdig hwor hdg hwd
            go_wp2_with (first | (go_at_call 185; refine (hdB.out _).mono ?_; clear hdB; rintro e w' ⟨rfl, rfl⟩) | (go_at_call 187; refine (hwB.out _).mono ?_; clear hwB; rintro e w' ⟨rfl, rfl⟩) | (go_at_call 189; refine (hTB.out _).mono ?_; clear hTB; rintro e w1 ⟨rfl, hf1⟩; have hZ1 := Bx.mk (hf1.row0 hZ0.out); have hF1 := Bx.mk (hFA.out.fr0 hf1); have hs1 : wr.heap.size + 1 ≤ w1.heap.size := (by have := hf1.size; simpa using this); obtain ⟨i0', i1', i2', i3', i4', i5', i6', i7', i8'⟩ := hZ1.out.tk; have y0 := hZ1.out.frozen 0; have y1 := hZ1.out.frozen 1; have y2 := hZ1.out.frozen 2; have y3 := hZ1.out.frozen 3; have y4 := hZ1.out.frozen 4; have y5 := hZ1.out.frozen 5; have y6 := hZ1.out.frozen 6; have y7 := hZ1.out.frozen 7; have y8 := hZ1.out.frozen 8))
            have hone := oneBlock w1 wr.heap.size 0 (tkA t).toList
            refine world_cut (fun wz => FM wz B { F with toks := T, nt := m } ∧ Row wz wr.heap.size 9 (tkC t) ∧ Fr (FmS B) w wz) ⟨hF1.out.fr hone (by rintro k (e | e | e | e | e | e | e) (h : k = wr.heap.size) <;> omega), tk_sets hZ1.out t, sets_fr (S := FmS B) (a := w) (b := wr.heap.size) (.inr hfr.size) (tkA t).toList w1 0 ((hfr.alloc _).trans hf1.up)⟩ ?_
            clear i0' i1' i2' i3' i4' i5' i6' i7' i8' y0 y1 y2 y3 y4 y5 y6 y7 y8 c0 c1 z1 hone hZ1 hF1 hf1 hs1
            rintro wz ⟨hF, hTz, hfz⟩
            have c0 := hF.row.cell 0 (by omega)
            have c1 := hF.row.cell 1 (by omega)
            have z1 := hF.row.frozen 1
            simp only [fmC] at c0 c1
            obtain ⟨j0, j1, j2, j3, j4, j5, j6, j7, j8⟩ := hTz.tk
            have h1 := hF.putTok m t
            have h2 := Bx.mk (h1.set (F' := { F with toks := upd T m t, nt := m + 1 }) 1 (I ((m : Int) + 1)) (by intro i hi; rcases i with _ | _ | _ | _ | _ | _ | _ | _ | _ | _ | _ | _ | _ | _ | _ | _ | _ | i <;> first | rfl | omega | (show I ((m : Int) + 1) = I ((m + 1 : Nat) : Int); congr 1)) rfl rfl rfl rfl rfl rfl rfl)
            have k0 := hF.toks.cell0 m (by omega) (by omega)
            have k1 := hF.toks.cell m 1 (by omega) (by omega)
            have k2 := hF.toks.cell m 2 (by omega) (by omega)
            have k3 := hF.toks.cell m 3 (by omega) (by omega)
            have k4 := hF.toks.cell m 4 (by omega) (by omega)
            have k5 := hF.toks.cell m 5 (by omega) (by omega)
            have k6 := hF.toks.cell m 6 (by omega) (by omega)
            have k7 := hF.toks.cell m 7 (by omega) (by omega)
            have k8 := hF.toks.cell m 8 (by omega) (by omega)
            have x0 := hF.toks.frozen (m * 9)
            have xx := fun j => hF.toks.frozen (m * 9 + j)
            have fo := hok.out.ft
            have n1 : wr.heap.size ≠ B.f := by omega
            have n2 : wr.heap.size ≠ B.t := by omega
            clear hF h1 hTz l3 l4 l5 l6 l7
            go_region
            go_wp2_with fail
            go_roundw
            case rel => exact ⟨t.fin, m + 1, _, rfl, h2.out.drew, hSB.out, ((hfz.fmT (m * 9) (tkA t).toList).fm 1 (I ((m : Int) + 1))).drew⟩
            case measure => simp [intOf]; omega
    · have hd : decide ((i : Int) < (s.size : Int)) = false := decide_eq_false (by omega)
      have hend := Bx.mk (hSc.done hlt)
      have hmz : (m : Int) < 41 := by omega
      have h1 := hF.putTok m (Tok.mk 0 s.size s.size 0 0 rz)
      have h2 := Bx.mk (h1.set (F' := { F with toks := upd T m (Tok.mk 0 s.size s.size 0 0 rz), nt := m + 1 }) 1 (I ((m : Int) + 1)) (by intro i hi; rcases i with _ | _ | _ | _ | _ | _ | _ | _ | _ | _ | _ | _ | _ | _ | _ | _ | _ | i <;> first | rfl | omega | (show I ((m : Int) + 1) = I ((m + 1 : Nat) : Int); congr 1)) rfl rfl rfl rfl rfl rfl rfl)
      have k0 := hF.toks.cell0 m (by omega) (by omega)
      have k1 := hF.toks.cell m 1 (by omega) (by omega)
      have k2 := hF.toks.cell m 2 (by omega) (by omega)
      have k3 := hF.toks.cell m 3 (by omega) (by omega)
      have k4 := hF.toks.cell m 4 (by omega) (by omega)
      have k5 := hF.toks.cell m 5 (by omega) (by omega)
      have k6 := hF.toks.cell m 6 (by omega) (by omega)
      have k7 := hF.toks.cell m 7 (by omega) (by omega)
      have k8 := hF.toks.cell m 8 (by omega) (by omega)
      have y0 := hF.toks.frozen (m * 9)
      have yy := fun j => hF.toks.frozen (m * 9 + j)
      have fo := hok.out.ft
      clear hF hSc h1
      have hd2 : s.size ≤ i := by omega
      go_wp2_with fail
      go_region
      go_wp2_with fail
      go_end0
      exact ⟨rfl, ⟨_, _, h2.out.drew, hend.out⟩, ((hfr.fmT (m * 9) (tkA (Tok.mk 0 s.size s.size 0 0 rz)).toList).fm 1 (I ((m : Int) + 1))).drew⟩
end Go.Proofs.Qxb6500326aGreat
