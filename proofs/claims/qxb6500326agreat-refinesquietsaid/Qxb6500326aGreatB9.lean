import Derived.Test.Qxb6500326aGreatB1
namespace Go.Proofs.Qxb6500326aGreat
set_option maxRecDepth 100000
set_option linter.unusedVariables false
set_option linter.unusedSimpArgs false
open Go.RowKit Go.PlainAid

theorem rect_step {a b r R : Int} {S : BitVec 32} (h : r ≤ R) : rectSet a b r (R + 1 - r).toNat S = rectSet a b (r + 1) (R + 1 - (r + 1)).toNat (rowSet r a (b + 1 - a).toNat S) := by
  rw [show (R + 1 - r).toNat = (R + 1 - (r + 1)).toNat + 1 from by omega]; rfl
theorem row_step {c C r : Int} {S : BitVec 32} (h : c ≤ C) : rowSet r c (C + 1 - c).toNat S = rowSet r (c + 1) (C + 1 - (c + 1)).toNat (S ||| bit (r * 4 + c).toNat) := by
  rw [show (C + 1 - c).toNat = (C + 1 - (c + 1)).toNat + 1 from by omega]; rfl
abbrev rfA (r : Ref) : Array Value := #[I r.col, I r.row, .bool r.absC, .bool r.absR]
def rfC (r : Ref) : Nat → Value
  | 0 => I r.col
  | 1 => I r.row
  | 2 => .bool r.absC
  | _ => .bool r.absR
theorem rf_new (w : World) (x : Ref) (T : TypeId) {H : Nat} (e : w.heap.size = H) : Row (w.alloc (.cells (rfA x) T)) H 4 (rfC x) := by
  subst e
  exact Row.new _ _ _ _ _ rfl (by
    intro i hi
    have : i = 0 ∨ i = 1 ∨ i = 2 ∨ i = 3 := by omega
    rcases this with e | e | e | e <;> subst e <;> rfl)
theorem Row.rf4 {w : World} {B : Nat} {x : Ref} (h : Row w B 4 (rfC x)) :
    w.cell? ⟨B, 0, none⟩ = some (I x.col) ∧ w.cell? ⟨B, 1, none⟩ = some (I x.row) ∧ w.cell? ⟨B, 2, none⟩ = some (.bool x.absC) ∧ w.cell? ⟨B, 3, none⟩ = some (.bool x.absR) :=
  ⟨h.cell 0 (by omega), h.cell 1 (by omega), h.cell 2 (by omega), h.cell 3 (by omega)⟩

attribute [local go_sem] bv_and bv_or
set_option maxHeartbeats 4000000 in
theorem block_in (p q : Ref) (w : World) (hp : inGrid p = true) (hq : inGrid q = true) : Calls Tryz.prog 147 #[refV p, refV q] w fun e w' => e = .returned (.tuple #[U (blockS p q), .bool true]) ∧ Fr S0 w w' := by
  have hp' : 0 ≤ p.col ∧ p.col < 4 ∧ 0 ≤ p.row ∧ p.row < 6 := by simp [inGrid] at hp; omega
  have hq' : 0 ≤ q.col ∧ q.col < 4 ∧ 0 ≤ q.row ∧ q.row < 6 := by simp [inGrid] at hq; omega
  obtain ⟨p1, p2, p3, p4⟩ := hp'
  obtain ⟨q1, q2, q3, q4⟩ := hq'
  have hG : Bx (∀ w, Calls Tryz.prog 131 #[refV p] w fun e w' => e = .returned (.bool true) ∧ Fr S0 w w') := ⟨fun w => hp ▸ inGrid_any p w⟩
  have hH : Bx (∀ w, Calls Tryz.prog 131 #[refV q] w fun e w' => e = .returned (.bool true) ∧ Fr S0 w w') := ⟨fun w => hq ▸ inGrid_any q w⟩
  have hP := Bx.mk ((rf_new w p 147 rfl).alloc (.cells (rfA q) 147))
  have hQ := Bx.mk (rf_new (w.alloc (.cells (rfA p) 147)) q 147 (H := w.heap.size + 1) (by simp))
  have hfr := Bx.mk (((Fr.refl S0 w).alloc (.cells (rfA p) 147)).alloc (.cells (rfA q) 147))
  have hS : Bx (blockS p q = rectSet (lesser p.col q.col) (greater p.col q.col) (lesser p.row q.row) (greater p.row q.row + 1 - lesser p.row q.row).toNat 0#32) := ⟨by simp [blockS, blockOK, hp, hq]⟩
  clear hp hq
  go_enter Tryz.func147, Tryz.ntmps147
  go_wp2_with (first
    | (go_at_call 131; refine (hG.out _).mono ?_; clear hG; rintro e w1 ⟨rfl, hf⟩; have hP := Bx.mk (hf.row0 hP.out); have hQ := Bx.mk (hf.row0 hQ.out); have hfr := Bx.mk (hfr.out.trans hf); obtain ⟨a0, a1, a2, a3⟩ := hP.out.rf4; obtain ⟨b0, b1, b2, b3⟩ := hQ.out.rf4; clear hf)
    | (go_at_call 131; refine (hH.out _).mono ?_; clear hH; rintro e w1 ⟨rfl, hf⟩; have hP := Bx.mk (hf.row0 hP.out); have hQ := Bx.mk (hf.row0 hQ.out); have hfr := Bx.mk (hfr.out.trans hf); obtain ⟨a0, a1, a2, a3⟩ := hP.out.rf4; obtain ⟨b0, b1, b2, b3⟩ := hQ.out.rf4; clear hf))
  go_quiet (fail)
  cases hcc : decide (q.col < p.col) <;> cases hrr : decide (q.row < p.row)
  · have hcl : p.col ≤ q.col := by simp at hcc; omega
    have hrl : p.row ≤ q.row := by simp at hrr; omega
    have hfin : Bx (rectSet p.col q.col p.row (q.row + 1 - p.row).toNat 0#32 = blockS p q) := ⟨by rw [hS.out]; simp only [lesser, greater, hcc, hrr]; rfl⟩
    clear hS
    go_wp2
    go_loopw [10, 11] (fun s r wr => ∃ (S : BitVec 32) (r1 : Int), s = U S ∧ r = I r1 ∧ p.row ≤ r1 ∧ r1 ≤ q.row + 1 ∧ Bx (rectSet p.col q.col r1 (q.row + 1 - r1).toNat S = blockS p q) ∧ w1.drewN nq = wr) (fun _ r _ => (q.row + 1 - intOf r).toNat)
    case atStart => exact ⟨0#32, p.row, rfl, rfl, by omega, by omega, hfin, rfl⟩
    case round =>
      obtain ⟨S, r, rfl, rfl, h1, h2, h3, rfl⟩ := hrel
      cases hr : decide (r ≤ q.row)
      · have hr' : r = q.row + 1 := by simp at hr; omega
        go_wp2
        go_ret2
        exact ⟨by rw [← h3.out, hr']; simp [rectSet], (hfr.out.drewN nq)⟩
      · have hr' : r ≤ q.row := by simpa using hr
        go_wp2
        go_loopw [10, 12] (fun s c wr => ∃ (S' : BitVec 32) (c1 : Int), s = U S' ∧ c = I c1 ∧ p.col ≤ c1 ∧ c1 ≤ q.col + 1 ∧ Bx (rowSet r c1 (q.col + 1 - c1).toNat S' = rowSet r p.col (q.col + 1 - p.col).toNat S) ∧ w1.drewN nq = wr) (fun _ c _ => (q.col + 1 - intOf c).toNat)
        case atStart => exact ⟨S, p.col, rfl, rfl, by omega, by omega, ⟨rfl⟩, rfl⟩
        case round =>
          obtain ⟨S', c, rfl, rfl, g1, g2, g3, rfl⟩ := hrel
          cases hc : decide (c ≤ q.col)
          · have hc' : c = q.col + 1 := by simp at hc; omega
            go_wp2
            go_roundw
            case rel => exact ⟨S', r + 1, rfl, rfl, by omega, by omega, ⟨by rw [← h3.out, rect_step hr', ← g3.out, hc']; simp [rowSet]⟩, trivial⟩
            case measure => simp [intOf]; omega
          · have hc' : c ≤ q.col := by simpa using hc
            have hcell : 0 ≤ r * 4 + c ∧ r * 4 + c < 24 := by omega
            obtain ⟨n, hn⟩ : ∃ n : Nat, Bx (r * 4 + c = (n : Int)) := ⟨(r * 4 + c).toNat, ⟨by omega⟩⟩
            obtain ⟨hcl1, hcl2⟩ := hcell
            go_wp2
            go_roundw
            case rel => exact ⟨S' ||| bit (r * 4 + c).toNat, c + 1, by rw [← bit_toNat, bv_or], rfl, by omega, by omega, ⟨by rw [← g3.out, row_step hc']⟩, trivial⟩
            case measure => simp [intOf]; omega
  · have hcl : p.col ≤ q.col := by simp at hcc; omega
    have hrl : q.row ≤ p.row := by simp at hrr; omega
    have hfin : Bx (rectSet p.col q.col q.row (p.row + 1 - q.row).toNat 0#32 = blockS p q) := ⟨by rw [hS.out]; simp only [lesser, greater, hcc, hrr]; rfl⟩
    clear hS
    go_wp2
    go_loopw [10, 11] (fun s r wr => ∃ (S : BitVec 32) (r1 : Int), s = U S ∧ r = I r1 ∧ q.row ≤ r1 ∧ r1 ≤ p.row + 1 ∧ Bx (rectSet p.col q.col r1 (p.row + 1 - r1).toNat S = blockS p q) ∧ w1.drewN nq = wr) (fun _ r _ => (p.row + 1 - intOf r).toNat)
    case atStart => exact ⟨0#32, q.row, rfl, rfl, by omega, by omega, hfin, rfl⟩
    case round =>
      obtain ⟨S, r, rfl, rfl, h1, h2, h3, rfl⟩ := hrel
      cases hr : decide (r ≤ p.row)
      · have hr' : r = p.row + 1 := by simp at hr; omega
        go_wp2
        go_ret2
        exact ⟨by rw [← h3.out, hr']; simp [rectSet], (hfr.out.drewN nq)⟩
      · have hr' : r ≤ p.row := by simpa using hr
        go_wp2
        go_loopw [10, 12] (fun s c wr => ∃ (S' : BitVec 32) (c1 : Int), s = U S' ∧ c = I c1 ∧ p.col ≤ c1 ∧ c1 ≤ q.col + 1 ∧ Bx (rowSet r c1 (q.col + 1 - c1).toNat S' = rowSet r p.col (q.col + 1 - p.col).toNat S) ∧ w1.drewN nq = wr) (fun _ c _ => (q.col + 1 - intOf c).toNat)
        case atStart => exact ⟨S, p.col, rfl, rfl, by omega, by omega, ⟨rfl⟩, rfl⟩
        case round =>
          obtain ⟨S', c, rfl, rfl, g1, g2, g3, rfl⟩ := hrel
          cases hc : decide (c ≤ q.col)
          · have hc' : c = q.col + 1 := by simp at hc; omega
            go_wp2
            go_roundw
            case rel => exact ⟨S', r + 1, rfl, rfl, by omega, by omega, ⟨by rw [← h3.out, rect_step hr', ← g3.out, hc']; simp [rowSet]⟩, trivial⟩
            case measure => simp [intOf]; omega
          · have hc' : c ≤ q.col := by simpa using hc
            have hcell : 0 ≤ r * 4 + c ∧ r * 4 + c < 24 := by omega
            obtain ⟨n, hn⟩ : ∃ n : Nat, Bx (r * 4 + c = (n : Int)) := ⟨(r * 4 + c).toNat, ⟨by omega⟩⟩
            obtain ⟨hcl1, hcl2⟩ := hcell
            go_wp2
            go_roundw
            case rel => exact ⟨S' ||| bit (r * 4 + c).toNat, c + 1, by rw [← bit_toNat, bv_or], rfl, by omega, by omega, ⟨by rw [← g3.out, row_step hc']⟩, trivial⟩
            case measure => simp [intOf]; omega
  · have hcl : q.col ≤ p.col := by simp at hcc; omega
    have hrl : p.row ≤ q.row := by simp at hrr; omega
    have hfin : Bx (rectSet q.col p.col p.row (q.row + 1 - p.row).toNat 0#32 = blockS p q) := ⟨by rw [hS.out]; simp only [lesser, greater, hcc, hrr]; rfl⟩
    clear hS
    go_wp2
    go_loopw [10, 11] (fun s r wr => ∃ (S : BitVec 32) (r1 : Int), s = U S ∧ r = I r1 ∧ p.row ≤ r1 ∧ r1 ≤ q.row + 1 ∧ Bx (rectSet q.col p.col r1 (q.row + 1 - r1).toNat S = blockS p q) ∧ w1.drewN nq = wr) (fun _ r _ => (q.row + 1 - intOf r).toNat)
    case atStart => exact ⟨0#32, p.row, rfl, rfl, by omega, by omega, hfin, rfl⟩
    case round =>
      obtain ⟨S, r, rfl, rfl, h1, h2, h3, rfl⟩ := hrel
      cases hr : decide (r ≤ q.row)
      · have hr' : r = q.row + 1 := by simp at hr; omega
        go_wp2
        go_ret2
        exact ⟨by rw [← h3.out, hr']; simp [rectSet], (hfr.out.drewN nq)⟩
      · have hr' : r ≤ q.row := by simpa using hr
        go_wp2
        go_loopw [10, 12] (fun s c wr => ∃ (S' : BitVec 32) (c1 : Int), s = U S' ∧ c = I c1 ∧ q.col ≤ c1 ∧ c1 ≤ p.col + 1 ∧ Bx (rowSet r c1 (p.col + 1 - c1).toNat S' = rowSet r q.col (p.col + 1 - q.col).toNat S) ∧ w1.drewN nq = wr) (fun _ c _ => (p.col + 1 - intOf c).toNat)
        case atStart => exact ⟨S, q.col, rfl, rfl, by omega, by omega, ⟨rfl⟩, rfl⟩
        case round =>
          obtain ⟨S', c, rfl, rfl, g1, g2, g3, rfl⟩ := hrel
          cases hc : decide (c ≤ p.col)
          · have hc' : c = p.col + 1 := by simp at hc; omega
            go_wp2
            go_roundw
            case rel => exact ⟨S', r + 1, rfl, rfl, by omega, by omega, ⟨by rw [← h3.out, rect_step hr', ← g3.out, hc']; simp [rowSet]⟩, trivial⟩
            case measure => simp [intOf]; omega
          · have hc' : c ≤ p.col := by simpa using hc
            have hcell : 0 ≤ r * 4 + c ∧ r * 4 + c < 24 := by omega
            obtain ⟨n, hn⟩ : ∃ n : Nat, Bx (r * 4 + c = (n : Int)) := ⟨(r * 4 + c).toNat, ⟨by omega⟩⟩
            obtain ⟨hcl1, hcl2⟩ := hcell
            go_wp2
            go_roundw
            case rel => exact ⟨S' ||| bit (r * 4 + c).toNat, c + 1, by rw [← bit_toNat, bv_or], rfl, by omega, by omega, ⟨by rw [← g3.out, row_step hc']⟩, trivial⟩
            case measure => simp [intOf]; omega
  · have hcl : q.col ≤ p.col := by simp at hcc; omega
    have hrl : q.row ≤ p.row := by simp at hrr; omega
    have hfin : Bx (rectSet q.col p.col q.row (p.row + 1 - q.row).toNat 0#32 = blockS p q) := ⟨by rw [hS.out]; simp only [lesser, greater, hcc, hrr]; rfl⟩
    clear hS
    go_wp2
    go_loopw [10, 11] (fun s r wr => ∃ (S : BitVec 32) (r1 : Int), s = U S ∧ r = I r1 ∧ q.row ≤ r1 ∧ r1 ≤ p.row + 1 ∧ Bx (rectSet q.col p.col r1 (p.row + 1 - r1).toNat S = blockS p q) ∧ w1.drewN nq = wr) (fun _ r _ => (p.row + 1 - intOf r).toNat)
    case atStart => exact ⟨0#32, q.row, rfl, rfl, by omega, by omega, hfin, rfl⟩
    case round =>
      obtain ⟨S, r, rfl, rfl, h1, h2, h3, rfl⟩ := hrel
      cases hr : decide (r ≤ p.row)
      · have hr' : r = p.row + 1 := by simp at hr; omega
        go_wp2
        go_ret2
        exact ⟨by rw [← h3.out, hr']; simp [rectSet], (hfr.out.drewN nq)⟩
      · have hr' : r ≤ p.row := by simpa using hr
        go_wp2
        go_loopw [10, 12] (fun s c wr => ∃ (S' : BitVec 32) (c1 : Int), s = U S' ∧ c = I c1 ∧ q.col ≤ c1 ∧ c1 ≤ p.col + 1 ∧ Bx (rowSet r c1 (p.col + 1 - c1).toNat S' = rowSet r q.col (p.col + 1 - q.col).toNat S) ∧ w1.drewN nq = wr) (fun _ c _ => (p.col + 1 - intOf c).toNat)
        case atStart => exact ⟨S, q.col, rfl, rfl, by omega, by omega, ⟨rfl⟩, rfl⟩
        case round =>
          obtain ⟨S', c, rfl, rfl, g1, g2, g3, rfl⟩ := hrel
          cases hc : decide (c ≤ p.col)
          · have hc' : c = p.col + 1 := by simp at hc; omega
            go_wp2
            go_roundw
            case rel => exact ⟨S', r + 1, rfl, rfl, by omega, by omega, ⟨by rw [← h3.out, rect_step hr', ← g3.out, hc']; simp [rowSet]⟩, trivial⟩
            case measure => simp [intOf]; omega
          · have hc' : c ≤ p.col := by simpa using hc
            have hcell : 0 ≤ r * 4 + c ∧ r * 4 + c < 24 := by omega
            obtain ⟨n, hn⟩ : ∃ n : Nat, Bx (r * 4 + c = (n : Int)) := ⟨(r * 4 + c).toNat, ⟨by omega⟩⟩
            obtain ⟨hcl1, hcl2⟩ := hcell
            go_wp2
            go_roundw
            case rel => exact ⟨S' ||| bit (r * 4 + c).toNat, c + 1, by rw [← bit_toNat, bv_or], rfl, by omega, by omega, ⟨by rw [← g3.out, row_step hc']⟩, trivial⟩
            case measure => simp [intOf]; omega

set_option maxHeartbeats 4000000 in
theorem block_any (p q : Ref) (w : World) : Calls Tryz.prog 147 #[refV p, refV q] w fun e w' => e = .returned (.tuple #[U (blockS p q), .bool (blockOK p q)]) ∧ Fr S0 w w' := by
  cases hp : inGrid p
  · have hG : Bx (∀ w, Calls Tryz.prog 131 #[refV p] w fun e w' => e = .returned (.bool false) ∧ Fr S0 w w') := ⟨fun w => hp ▸ inGrid_any p w⟩
    have hfr := Bx.mk (((Fr.refl S0 w).alloc (.cells (rfA p) 147)).alloc (.cells (rfA q) 147))
    go_enter Tryz.func147, Tryz.ntmps147
    go_wp2_with (first
      | (go_at_call 131; refine (hG.out _).mono ?_; clear hG; rintro e w1 ⟨rfl, hf⟩; have hfr := Bx.mk (hfr.out.trans hf); clear hf))
    go_ret2
    exact ⟨by simp [blockS, blockOK, hp, uN], hfr.out⟩
  · cases hq : inGrid q
    · have hG : Bx (∀ w, Calls Tryz.prog 131 #[refV p] w fun e w' => e = .returned (.bool true) ∧ Fr S0 w w') := ⟨fun w => hp ▸ inGrid_any p w⟩
      have hH : Bx (∀ w, Calls Tryz.prog 131 #[refV q] w fun e w' => e = .returned (.bool false) ∧ Fr S0 w w') := ⟨fun w => hq ▸ inGrid_any q w⟩
      have hQ := Bx.mk (rf_new (w.alloc (.cells (rfA p) 147)) q 147 (H := w.heap.size + 1) (by simp))
      have hfr := Bx.mk (((Fr.refl S0 w).alloc (.cells (rfA p) 147)).alloc (.cells (rfA q) 147))
      go_enter Tryz.func147, Tryz.ntmps147
      go_wp2_with (first
        | (go_at_call 131; refine (hG.out _).mono ?_; clear hG; rintro e w1 ⟨rfl, hf⟩; have hQ := Bx.mk (hf.row0 hQ.out); have hfr := Bx.mk (hfr.out.trans hf); obtain ⟨b0, b1, b2, b3⟩ := hQ.out.rf4; clear hf)
        | (go_at_call 131; refine (hH.out _).mono ?_; clear hH; rintro e w1 ⟨rfl, hf⟩; have hfr := Bx.mk (hfr.out.trans hf); clear hf))
      go_ret2
      exact ⟨by simp [blockS, blockOK, hp, hq, uN], hfr.out⟩
    · have h := block_in p q w hp hq
      have e : blockOK p q = true := by simp [blockOK, hp, hq]
      rw [e]; exact h
end Go.Proofs.Qxb6500326aGreat
