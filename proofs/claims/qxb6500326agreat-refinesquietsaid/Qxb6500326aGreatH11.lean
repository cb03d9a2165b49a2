import Derived.Test.Qxb6500326aGreatH10
import Derived.Test.Qxb6500326aGreatK3
namespace Go.Proofs.Qxb6500326aGreat
set_option maxRecDepth 100000
set_option linter.unusedVariables false
set_option linter.unusedSimpArgs false
open Go.RowKit Go.PlainAid
section
variable {w w' : World} {R : RA} {A : XA} {base u r : Nat} {tu : Nat → BitVec 32} {po wt : Nat → ByteArray} {T : Tx} {H : Nat → Tx}
theorem fit_1 {s : Nat} {A B : Tx} (h : SlotR tu po s A B) : ∀ c, c < 24 → (tu s).getLsbD c = true → B c = po (placeP s c 1) := fun c hc hb => by
  rw [h.po c hc 1 (by omega)]; rw [h.tu, mem_recS hc] at hb; unfold recT; rw [if_pos hb, if_neg (by omega)]
theorem fit_0 {s : Nat} {A B : Tx} (h : SlotR tu po s A B) : ∀ c, c < 24 → (tu s).getLsbD c = true → A c = po (placeP s c 0) := fun c hc hb => by
  rw [h.po c hc 0 (by omega)]; rw [h.tu, mem_recS hc] at hb; unfold recT; rw [if_pos hb, if_pos rfl]
theorem over_1 {s : Nat} {A B : Tx} (h : SlotR tu po s A B) (hA : ∀ c, 24 ≤ c → A c = B c) (c : Nat) (hc : c < 24) : layTo (tu s) (fun c => po (placeP s c 0)) B 24 c = A c := by
  rw [← rec_over hA c]
  unfold layTo
  rw [h.tu]
  by_cases e : (recS A B).getLsbD c = true
  · rw [if_pos ⟨hc, e⟩, if_pos e]; exact h.po c hc 0 (by omega)
  · rw [if_neg (fun g => e g.2), if_neg e]
theorem over_0 {s : Nat} {A B : Tx} (h : SlotR tu po s A B) (hA : ∀ c, 24 ≤ c → A c = B c) (c : Nat) (hc : c < 24) : layTo (tu s) (fun c => po (placeP s c 1)) A 24 c = B c := by
  rw [← rec_back hA c]
  unfold layTo
  rw [h.tu]
  by_cases e : (recS A B).getLsbD c = true
  · rw [if_pos ⟨hc, e⟩, if_pos e]; exact h.po c hc 1 (by omega)
  · rw [if_neg (fun g => e g.2), if_neg e]
set_option maxHeartbeats 16000000 in
theorem bkCheck_any (w : World) (h : BK w R A T H u r) : Calls Tryz.prog 58 #[pt R.bk] w fun e w' => e = .returned (.bool true) ∧ Fr S0 w w' := by
  obtain ⟨base, tu, po, wt, hg, hr⟩ := h.rg
  have hlt0 := Bx.mk h.lt
  have hb6 := hr.b
  have hn6 := hr.n
  have kk1 := mk38
  generalize hA : MS = A1 at kk1
  replace hA := Bx.mk hA
  have hout : Bx (∀ k, k ≤ u + r → ∀ c, 24 ≤ c → H k c = es) := ⟨fun k hk c hc => (h.sm k hk).out c hc⟩
  have hcur := Bx.mk h.cur
  have hxe := Bx.mk h.xe
  have hX0 := Bx.mk h.ed
  have hG0 := Bx.mk hg
  have hR0 := Bx.mk hr
  have q0 : decide ((base : Int) < 0) = false := decide_eq_false (by omega)
  have q1 : decide ((6 : Int) ≤ (base : Int)) = false := decide_eq_false (by omega)
  have q2 : decide ((u : Int) < 0) = false := decide_eq_false (by omega)
  have q3 : decide ((r : Int) < 0) = false := decide_eq_false (by omega)
  have q4 : decide ((6 : Int) < (u : Int) + (r : Int)) = false := decide_eq_false (by omega)
  have huI : (u : Int) ≤ 6 := by omega
  have hrI : (r : Int) ≤ 6 := by omega
  have hur : IntKind.i64.wrap ((u : Int) + (r : Int)) = (u : Int) + (r : Int) := by simp [IntKind.wrap, IntKind.bits, IntKind.signed]; omega
  obtain ⟨c0, c1, c2, c3, c4, c5, c6, c7, hl, -⟩ := hg.c8
  clear h hg hr
  go_enter Tryz.func58, Tryz.ntmps58
  go_wp2_with fail
  go_quiet (fail)
  go_wp2_with fail
  clear c0 c1 c2 c3 c4 c5 c6 c7 hl
  go_loopw [3] (fun c wr => ∃ k : Nat, k ≤ 6 ∧ c = I (k : Int) ∧ Bx (Fr S0 w wr)) (fun c _ => 6 - (intOf c).toNat)
  case atStart => exact ⟨0, by omega, rfl, ⟨(Fr.refl S0 w).drewN _⟩⟩
  case round =>
    obtain ⟨k, hk, rfl, hf⟩ := hrel
    have hG : Bx (RG wr R base u r tu po wt) := ⟨hG0.out.fr0 hf.out⟩
    obtain ⟨c0, c1, c2, c3, c4, c5, c6, c7, hl, -⟩ := hG.out.c8
    cases hlt : decide ((k : Int) < 6)
    · have hN1 : Bx (Row (wr.alloc (.cells A1 9)) wr.heap.size 24 (fun _ => .string es)) := ⟨ms_row hA.out wr rfl⟩
      have hf1 : Bx (Fr S0 w (wr.alloc (.cells A1 9))) := ⟨hf.out.alloc _⟩
      have hlk : Bx (∀ k, SBk R A k → k ≠ wr.heap.size) := ⟨fun k hk e => by have := hlt0.out k hk; have := hf.out.size; omega⟩
      have hws : Bx (w.heap.size ≤ wr.heap.size) := ⟨hf.out.size⟩
      have hkey : Bx (∀ wx, Fr (fun k => k = wr.heap.size) (wr.alloc (.cells A1 9)) wx → Fr S0 w wx ∧ RG wx R base u r tu po wt ∧ XB wx A T) := ⟨fun wx hx => by
        have h1 : Fr S0 w wx := hf1.out.step hx (fun x hx => .inr (by rw [hx]; exact hws.out))
        exact ⟨h1, hG0.out.fr0 h1, hX0.out.fr h1 (fun _ _ e => e)⟩⟩
      have ht : Bx (∀ wx (C : Tx), Fr (fun k => k = wr.heap.size) (wr.alloc (.cells A1 9)) wx → Row wx wr.heap.size 24 (fun j => .string (C j)) → Calls Tryz.prog 88 #[pt R.bk, sl wr.heap.size 24 24] wx fun e w' => e = .returned (.tuple #[]) ∧ Row w' wr.heap.size 24 (fun j => .string (T j)) ∧ Fr (fun k => k = wr.heap.size) (wr.alloc (.cells A1 9)) w') := ⟨fun wx C hx hC => by
        obtain ⟨g1, g2, g3⟩ := hkey.out wx hx
        refine (texts_any wx g2 g3 hxe.out hC (fun e => hlk.out _ (.inl e) rfl) (fun e => hlk.out _ (.inr e) rfl)).mono ?_
        rintro e w' ⟨rfl, h2, h3⟩
        exact ⟨rfl, h2, hx.trans h3⟩⟩
      have t1 := Bx.mk (ht.out _ _ (Fr.refl _ _) hN1.out)
      have hF1 : Bx (∀ wx (k : Nat), k < u → Fr (fun k => k = wr.heap.size) (wr.alloc (.cells A1 9)) wx → Row wx wr.heap.size 24 (fun j => .string (H (k + 1) j)) → Calls Tryz.prog 89 #[pt R.bk, sl wr.heap.size 24 24, I (slotP base k : Nat), I 1] wx fun e w' => e = .returned (.bool true) ∧ Row w' wr.heap.size 24 (fun j => .string (H k j)) ∧ Fr (fun k => k = wr.heap.size) (wr.alloc (.cells A1 9)) w') := ⟨fun wx k hk hx hC => by
        obtain ⟨g1, g2, g3⟩ := hkey.out wx hx
        have hsr := hR0.out.live k (by omega)
        refine (fits_1 (slotP base k) wx g2 (slot_lt _ _) hC (fun e => hlk.out _ (.inl e) rfl) (fit_1 hsr)).mono ?_
        rintro e w' ⟨rfl, h2, h3⟩
        exact ⟨rfl, h2.congr (fun i hi => by rw [over_1 hsr (fun c hc => by rw [hout.out k (by omega) c hc, hout.out (k + 1) (by omega) c hc]) i hi]), hx.trans h3⟩⟩
      have hF0 : Bx (∀ wx (k : Nat), k < u + r → Fr (fun k => k = wr.heap.size) (wr.alloc (.cells A1 9)) wx → Row wx wr.heap.size 24 (fun j => .string (H k j)) → Calls Tryz.prog 89 #[pt R.bk, sl wr.heap.size 24 24, I (slotP base k : Nat), I 0] wx fun e w' => e = .returned (.bool true) ∧ Row w' wr.heap.size 24 (fun j => .string (H (k + 1) j)) ∧ Fr (fun k => k = wr.heap.size) (wr.alloc (.cells A1 9)) w') := ⟨fun wx k hk hx hC => by
        obtain ⟨g1, g2, g3⟩ := hkey.out wx hx
        have hsr := hR0.out.live k (by omega)
        refine (fits_0 (slotP base k) wx g2 (slot_lt _ _) hC (fun e => hlk.out _ (.inl e) rfl) (fit_0 hsr)).mono ?_
        rintro e w' ⟨rfl, h2, h3⟩
        exact ⟨rfl, h2.congr (fun i hi => by rw [over_0 hsr (fun c hc => by rw [hout.out k (by omega) c hc, hout.out (k + 1) (by omega) c hc]) i hi]), hx.trans h3⟩⟩
      have hSl : Bx (∀ wx (k : Nat), k ≤ 6 → Fr (fun k => k = wr.heap.size) (wr.alloc (.cells A1 9)) wx → Calls Tryz.prog 86 #[pt R.bk, I k] wx fun e w' => e = .returned (I (slotP base k : Nat)) ∧ wx = w') := ⟨fun wx k hk hx => slot_any k wx (hkey.out wx hx).2.1 hb6 hk⟩
      have hC8 : Bx (∀ wx, Fr (fun k => k = wr.heap.size) (wr.alloc (.cells A1 9)) wx → wx.cell? ⟨R.bk, 4, none⟩ = some (I u) ∧ wx.cell? ⟨R.bk, 5, none⟩ = some (I r) ∧ R.bk < wx.heap.size) := ⟨fun wx hx => by
        obtain ⟨c0, c1, c2, c3, c4, c5, c6, c7, hl, -⟩ := (hkey.out wx hx).2.1.c8
        exact ⟨c4, c5, hl⟩⟩
      have hend : Bx (∀ wx, Fr (fun k => k = wr.heap.size) (wr.alloc (.cells A1 9)) wx → Fr S0 w wx) := ⟨fun wx hx => (hkey.out wx hx).1⟩
      clear hkey hN1 hf1 hlk hws hG0 hX0 hR0 hlt0 hG hf c0 c1 c2 c3 c4 c5 c6 c7 hl
      go_wp2_with (first
        | (go_at_call 88; refine t1.out.mono ?_; clear t1; rintro e w1 ⟨rfl, hr1, hf1⟩; obtain ⟨c4, c5, hl⟩ := hC8.out w1 hf1; replace hr1 := Bx.mk hr1; replace hf1 := Bx.mk hf1))
      generalize hHH : wr.heap.size = kc at *
      generalize hwa : wr.alloc (.cells A1 9) = wa at *
      clear hwa hHH c4 c5 hl
      go_loopw [6] (fun c wr => ∃ j : Nat, j ≤ u ∧ c = I ((j : Int) - 1) ∧ Bx (Row wr kc 24 (fun i => .string (H j i))) ∧ Bx (Fr (fun k => k = kc) wa wr)) (fun c _ => (intOf c + 1).toNat)
      case atStart => exact ⟨u, by omega, by go_num, ⟨by rw [hcur.out]; exact hr1.out⟩, hf1⟩
      case round =>
        clear hr1 hf1
        obtain ⟨j, hj, rfl, hr1, hf1⟩ := hrel
        obtain ⟨c4, c5, hl⟩ := hC8.out wr hf1.out
        rcases Nat.eq_zero_or_pos j with h0 | h0
        · have hj0 : decide (0 ≤ (j : Int) - 1) = false := decide_eq_false (by omega)
          have t2 := Bx.mk (ht.out _ _ hf1.out hr1.out)
          clear hr1 hf1 ht c4 c5 hl
          go_wp2_with (first
            | (go_at_call 88; refine t2.out.mono ?_; clear t2; rintro e w2 ⟨rfl, hr1, hf1⟩; obtain ⟨c4, c5, hl⟩ := hC8.out w2 hf1; replace hr1 := Bx.mk hr1; replace hf1 := Bx.mk hf1))
          clear c4 c5 hl
          go_loopw [8] (fun c wr => ∃ k : Nat, u ≤ k ∧ k ≤ u + r ∧ c = I (k : Int) ∧ Bx (Row wr kc 24 (fun i => .string (H k i))) ∧ Bx (Fr (fun k => k = kc) wa wr)) (fun c _ => u + r - (intOf c).toNat)
          case atStart => exact ⟨u, by omega, by omega, rfl, ⟨by rw [hcur.out]; exact hr1.out⟩, hf1⟩
          case round =>
            clear hr1 hf1 hj0 h0
            obtain ⟨k, hk0, hk1, rfl, hr1, hf1⟩ := hrel
            obtain ⟨c4, c5, hl⟩ := hC8.out wr hf1.out
            have fd : Bx (∀ n, Fr (fun k => k = kc) wa (wr.drewN n)) := ⟨fun n => hf1.out.drewN n⟩
            have fr' : Bx (∀ n, Row (wr.drewN n) kc 24 (fun i => .string (H k i))) := ⟨fun n => hr1.out.of_heap rfl⟩
            cases hkd : decide ((k : Int) < (u : Int) + (r : Int))
            · go_wp2_with fail
              go_quiet (fail)
              go_wp2_with fail
              go_ret
              exact ⟨rfl, hend.out _ (fd.out _)⟩
            · have hk2 : k < u + r := by simp at hkd; omega
              have hS1 := Bx.mk (fun n => hSl.out _ k (by omega) (fd.out n))
              have hF := Bx.mk (fun n => hF0.out _ k hk2 (fd.out n) (fr'.out n))
              have hs6 := slot_lt base k
              have hkI : (k : Int) ≤ 6 := by omega
              generalize slotP base k = s at *
              go_wp2_with fail
              go_quiet (fail)
              go_wp2_with (first
                | (go_at_call 86; refine (hS1.out _).mono ?_; clear hS1; rintro e _ ⟨rfl, rfl⟩)
                | (go_at_call 89; refine (hF.out _).mono ?_; clear hF; rintro e w3 ⟨rfl, hr3, hf3⟩; replace hr3 := Bx.mk hr3; replace hf3 := Bx.mk hf3))
              go_roundw
              case rel => exact ⟨k + 1, by omega, by omega, by go_num, hr3, hf3⟩
              case measure => simp [intOf]; omega
        · obtain ⟨i, rfl⟩ : ∃ i, j = i + 1 := ⟨j - 1, by omega⟩
          have hj0 : decide (0 ≤ ((i + 1 : Nat) : Int) - 1) = true := decide_eq_true (by omega)
          have hS1 := Bx.mk (hSl.out wr i (by omega) hf1.out)
          have hF := Bx.mk (hF1.out wr i (by omega) hf1.out hr1.out)
          have hs6 := slot_lt base i
          have hiI : (i : Int) ≤ 6 := by omega
          have hie : ((i + 1 : Nat) : Int) - 1 = (i : Int) := by omega
          rw [hie] at *
          clear hie
          generalize slotP base i = s at *
          go_wp2_with (first
            | (go_at_call 86; refine hS1.out.mono ?_; clear hS1; rintro e _ ⟨rfl, rfl⟩)
            | (go_at_call 89; refine hF.out.mono ?_; clear hF; rintro e w3 ⟨rfl, hr3, hf3⟩; replace hr3 := Bx.mk hr3; replace hf3 := Bx.mk hf3))
          go_roundw
          case rel => exact ⟨i, by omega, by go_num, hr3, hf3⟩
          case measure => simp [intOf]
    · have hk6 : k < 6 := by simp at hlt; omega
      have hkI : (k : Int) < 6 := by omega
      have hS1 := Bx.mk (slot_any k wr hG.out hb6 (by omega))
      have hs6 := slot_lt base k
      have hlv : decide ((k : Int) < (u : Int) + (r : Int)) = decide (k < u + r) := decide_eq_decide.2 (by omega)
      have hCk : Bx (∀ wx, Fr S0 wr wx → Calls Tryz.prog 87 #[pt R.bk, I (slotP base k : Nat), .bool (decide (k < u + r))] wx fun e w' => e = .returned (.bool true) ∧ ∃ n, w' = wx.drewN n) := ⟨fun wx hx => checkSlot_any (slotP base k) _ wx (hG.out.fr0 hx) hs6 (hR0.out.slot hk6)⟩
      have fd : Bx (∀ n, Fr S0 wr (wr.drewN n)) := ⟨fun n => (Fr.refl S0 wr).drewN n⟩
      generalize slotP base k = s at *
      have hsI : (s : Int) < 6 := by omega
      cases hlb : decide (k < u + r)
      all_goals
        rw [hlb] at hlv hCk
        clear hlb
        go_wp2_with (first | (go_at_call 86; refine hS1.out.mono ?_; clear hS1; rintro e _ ⟨rfl, rfl⟩))
        go_quiet (first | (go_at_call 87; exact (hCk.out _ (fd.out _)).mono (fun e w' h => ⟨h.1, h.2.elim (fun m hm => ⟨_, hm.trans (World.drewN_drewN _ _ _)⟩)⟩)))
        go_wp2_with fail
        go_roundw
        case rel => exact ⟨k + 1, by omega, by go_num, ⟨hf.out.drewN _⟩⟩
        case measure => simp [intOf]; omega
end
end Go.Proofs.Qxb6500326aGreat
