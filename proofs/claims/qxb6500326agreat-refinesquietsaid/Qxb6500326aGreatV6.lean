import Derived.Test.Qxb6500326aGreatV5
namespace Go.Proofs.Qxb6500326aGreat
set_option linter.unusedVariables false
set_option linter.unusedSimpArgs false
open Go.RowKit Go.PlainAid
set_option maxRecDepth 100000 in
set_option maxHeartbeats 8000000 in
theorem tok_loop (g n cap : Nat) (L : List Nd) (root err pos : Int) (w : World) (hn : L.length = n) (h : NL w (.slice (some ⟨g, 0, none⟩) n cap) L) (hN : NumOK L)
    (h1 : err = 0) (h2 : pos = 0) (h3 : 1 ≤ n) (h4 : n ≤ 24) (h5 : root = (n : Int) - 1) :
    Calls Tryz.prog 149 #[treeV (.slice (some ⟨g, 0, none⟩) n cap) ⟨L, root, err, pos⟩] w fun e w' => e = .returned (.bool (tokB ⟨L, root, err, pos⟩)) ∧ Fr S0 w w' := by
  have d1 : (err != 0) = false := by simpa using h1
  have d2 : (pos != 0) = false := by simpa using h2
  have d3 : decide ((n : Int) < 1) = false := decide_eq_false (by omega)
  have d3' : decide (n < 1) = false := decide_eq_false (by omega)
  have d3c : ¬ n = 0 := by omega
  have d4 : decide ((24 : Int) < (n : Int)) = false := decide_eq_false (by omega)
  have d4' : decide (24 < n) = false := decide_eq_false (by omega)
  have d5 : (root != (n : Int) - 1) = false := by simpa using h5
  have hB := Bx.mk h
  have hT0 := Bx.mk (tr_new w (.slice (some ⟨g, 0, none⟩) n cap) root err pos rfl)
  have hNB := Bx.mk hN
  have h1B := Bx.mk h1
  have h2B := Bx.mk h2
  have h5B := Bx.mk h5
  clear h hN h1 h2 h5
  go_enter Tryz.func149, Tryz.ntmps149
  go_wp2_with fail
  go_loopw [3] (fun ii wr => ∃ k : Nat, k ≤ n ∧ ii = I k ∧ (∀ q, q < k → refIn (nd L q).r1 ∧ refIn (nd L q).r2) ∧ Row wr w.heap.size 4 (trC (.slice (some ⟨g, 0, none⟩) n cap) root err pos) ∧ Fr S0 w wr) (fun ii _ => n - (intOf ii).toNat)
  case atStart => exact ⟨0, by omega, rfl, fun q hq => by omega, hT0.out, (Fr.refl _ _).alloc _⟩
  case round =>
    clear hT0
    obtain ⟨k, hkn, rfl, hall, hT, hfr⟩ := hrel
    have c0 := hT.cell 0 (by omega)
    have c1 := hT.cell 1 (by omega)
    simp only [trC] at c0 c1
    have hT := Bx.mk hT
    have hall := Bx.mk hall
    have hNw := Bx.mk (hB.out.fr0 hfr)
    by_cases hk' : k < n
    · have hk : k < L.length := by omega
      have hkd : decide ((k : Int) < (n : Int)) = true := decide_eq_true (by omega)
      have hkd' : decide (k < n) = true := decide_eq_true hk'
      have hkI : (k : Int) < (n : Int) := by omega
      obtain ⟨x, hx⟩ : ∃ x, nd L k = x := ⟨_, rfl⟩
      obtain ⟨k0, k1, k2, k3, k4, k5, k6, k7, k8, k9, k10, k11, k12⟩ := hNw.out.cells hk hx
      have hxB := Bx.mk hx
      clear hx
      by_cases e0a : x.r1.col < 0
      · have g0a : decide (x.r1.col < 0) = true := decide_eq_true e0a
        have hno := Bx.mk (tok_no (t := ⟨L, root, err, pos⟩) (fun K => by have := (K.refs x (hxB.out ▸ nd_mem hk)).1; have : refIn x.r1 := this; obtain ⟨q1, q2, q3, q4⟩ := this; omega))
        go_wp2
        go_ret
        rw [hno.out]
        exact ⟨rfl, (hfr.alloc _)⟩
      · have g0a : decide (x.r1.col < 0) = false := decide_eq_false e0a
        by_cases e0b : 25 < x.r1.col
        · have g0b : decide ((25 : Int) < x.r1.col) = true := decide_eq_true e0b
          have hno := Bx.mk (tok_no (t := ⟨L, root, err, pos⟩) (fun K => by have := (K.refs x (hxB.out ▸ nd_mem hk)).1; have : refIn x.r1 := this; obtain ⟨q1, q2, q3, q4⟩ := this; omega))
          go_wp2
          go_ret
          rw [hno.out]
          exact ⟨rfl, (hfr.alloc _)⟩
        · have g0b : decide ((25 : Int) < x.r1.col) = false := decide_eq_false e0b
          by_cases e1a : x.r1.row < 0
          · have g1a : decide (x.r1.row < 0) = true := decide_eq_true e1a
            have hno := Bx.mk (tok_no (t := ⟨L, root, err, pos⟩) (fun K => by have := (K.refs x (hxB.out ▸ nd_mem hk)).1; have : refIn x.r1 := this; obtain ⟨q1, q2, q3, q4⟩ := this; omega))
            go_wp2
            go_ret
            rw [hno.out]
            exact ⟨rfl, (hfr.alloc _)⟩
          · have g1a : decide (x.r1.row < 0) = false := decide_eq_false e1a
            by_cases e1b : 98 < x.r1.row
            · have g1b : decide ((98 : Int) < x.r1.row) = true := decide_eq_true e1b
              have hno := Bx.mk (tok_no (t := ⟨L, root, err, pos⟩) (fun K => by have := (K.refs x (hxB.out ▸ nd_mem hk)).1; have : refIn x.r1 := this; obtain ⟨q1, q2, q3, q4⟩ := this; omega))
              go_wp2
              go_ret
              rw [hno.out]
              exact ⟨rfl, (hfr.alloc _)⟩
            · have g1b : decide ((98 : Int) < x.r1.row) = false := decide_eq_false e1b
              by_cases e2a : x.r2.col < 0
              · have g2a : decide (x.r2.col < 0) = true := decide_eq_true e2a
                have hno := Bx.mk (tok_no (t := ⟨L, root, err, pos⟩) (fun K => by have := (K.refs x (hxB.out ▸ nd_mem hk)).2; have : refIn x.r2 := this; obtain ⟨q1, q2, q3, q4⟩ := this; omega))
                go_wp2
                go_ret
                rw [hno.out]
                exact ⟨rfl, (hfr.alloc _)⟩
              · have g2a : decide (x.r2.col < 0) = false := decide_eq_false e2a
                by_cases e2b : 25 < x.r2.col
                · have g2b : decide ((25 : Int) < x.r2.col) = true := decide_eq_true e2b
                  have hno := Bx.mk (tok_no (t := ⟨L, root, err, pos⟩) (fun K => by have := (K.refs x (hxB.out ▸ nd_mem hk)).2; have : refIn x.r2 := this; obtain ⟨q1, q2, q3, q4⟩ := this; omega))
                  go_wp2
                  go_ret
                  rw [hno.out]
                  exact ⟨rfl, (hfr.alloc _)⟩
                · have g2b : decide ((25 : Int) < x.r2.col) = false := decide_eq_false e2b
                  by_cases e3a : x.r2.row < 0
                  · have g3a : decide (x.r2.row < 0) = true := decide_eq_true e3a
                    have hno := Bx.mk (tok_no (t := ⟨L, root, err, pos⟩) (fun K => by have := (K.refs x (hxB.out ▸ nd_mem hk)).2; have : refIn x.r2 := this; obtain ⟨q1, q2, q3, q4⟩ := this; omega))
                    go_wp2
                    go_ret
                    rw [hno.out]
                    exact ⟨rfl, (hfr.alloc _)⟩
                  · have g3a : decide (x.r2.row < 0) = false := decide_eq_false e3a
                    by_cases e3b : 98 < x.r2.row
                    · have g3b : decide ((98 : Int) < x.r2.row) = true := decide_eq_true e3b
                      have hno := Bx.mk (tok_no (t := ⟨L, root, err, pos⟩) (fun K => by have := (K.refs x (hxB.out ▸ nd_mem hk)).2; have : refIn x.r2 := this; obtain ⟨q1, q2, q3, q4⟩ := this; omega))
                      go_wp2
                      go_ret
                      rw [hno.out]
                      exact ⟨rfl, (hfr.alloc _)⟩
                    · have g3b : decide ((98 : Int) < x.r2.row) = false := decide_eq_false e3b
                      have hgood : refIn x.r1 ∧ refIn x.r2 := ⟨⟨by omega, by omega, by omega, by omega⟩, ⟨by omega, by omega, by omega, by omega⟩⟩
                      have hnx := Bx.mk (show ∀ q, q < k + 1 → refIn (nd L q).r1 ∧ refIn (nd L q).r2 from fun q hq => by
                        rcases Nat.lt_or_ge q k with h | h
                        · exact hall.out q h
                        · rw [show q = k from by omega, hxB.out]; exact hgood)
                      clear hgood
                      go_wp2
                      go_roundw
                      case rel => exact ⟨k + 1, by omega, by go_num, hnx.out, hT.out.alloc _, hfr.alloc _⟩
                      case measure => simp [intOf]; omega

    · have hke : k = n := by omega
      have hkd : decide ((k : Int) < (n : Int)) = false := decide_eq_false (by omega)
      have hkd' : decide (k < n) = false := decide_eq_false hk'
      have hrefs : refsOK L := by
        intro x hx
        obtain ⟨q, hq, e⟩ := List.getElem_of_mem hx
        have := hall.out q (by omega)
        rw [← nd_get hq, e] at this
        exact this
      have hsp := Bx.mk (span_all g n cap hn (by omega) hrefs hNB.out n root false wr hNw.out (by have := h5B.out; omega))
      have hans : Bx (tokB ⟨L, root, err, pos⟩ = (spanP L n root false == 0)) := Bx.mk (by
        unfold tokB
        simp only [h1B.out, h2B.out, hn, (refs_iff L).2 hrefs, h5B.out]
        simp [h3, h4])
      clear hrefs hk'
      go_wp2_with (first
        | (go_at_call 175; refine hsp.out.mono ?_; clear hsp; rintro e w2 ⟨rfl, hf2⟩))
      go_ret
      rw [hans.out]
      exact ⟨rfl, hfr.trans hf2⟩
theorem treeOK_any (v : Value) (t : Tr) (w : World) (h : NL w v t.nodes) (hN : NumOK t.nodes) :
    Calls Tryz.prog 149 #[treeV v t] w fun e w' => e = .returned (.bool (tokB t)) ∧ Fr S0 w w' := by
  obtain ⟨a, c, rfl⟩ := h.slice
  by_cases h1 : t.err = 0
  · by_cases h2 : t.pos = 0
    · by_cases h3 : 1 ≤ t.nodes.length
      · by_cases h4 : t.nodes.length ≤ 24
        · by_cases h5 : t.root = (t.nodes.length : Int) - 1
          · obtain ⟨g, cap, e, -, -⟩ := h.pos (fun e => by rw [e] at h3; simp at h3)
            rw [e] at h ⊢
            obtain ⟨L, root, err, pos⟩ := t
            exact tok_loop g L.length cap L root err pos w rfl h hN h1 h2 h3 h4 h5
          · exact tok_root a c t w h1 h2 h3 h4 h5
        · exact tok_max a c t w h1 h2 h3 (by omega)
      · exact tok_one a c t w h1 h2 (by omega)
    · exact tok_pos a c t w h1 h2
  · exact tok_err a c t w h1
end Go.Proofs.Qxb6500326aGreat
