import Derived.Test.Qxb6500329aM2
namespace Go.Proofs.Qxb6500329a
set_option linter.unusedVariables false
set_option linter.unusedSimpArgs false
open Go.RowKit Go.PlainAid
theorem NL.frozen {w : World} {g n cap : Nat} {L : List Nd} (h : NL w (.slice (some ⟨g, 0, none⟩) n cap) L) : (∀ j, w.frozen? ⟨g, j, none⟩ = false) ∧ g < w.heap.size := by
  rcases h.2 with ⟨e1, e2⟩ | ⟨g', cap', cur, e1, e2, e3, _⟩
  · cases e1
  · injection e1 with e1 e8 e9
    injection e1 with e1
    injection e1 with e1
    subst e1
    have hr : Row w g cur.size (fun j => (cur[j]?).getD undef) := ⟨cur, 44, e3, rfl, fun i hi => by show _ = some ((cur[i]?).getD undef); rw [Array.getElem?_eq_getElem hi]; rfl⟩
    exact ⟨hr.frozen, hr.lt⟩
set_option maxRecDepth 100000 in
set_option maxHeartbeats 4000000 in
theorem turn_kids (B : FB) (fb d K S : Nat) (s : ByteArray) (g i vc : Nat) (t : Tr) (ct : Nat) (a b c : Int) (s1 s2 : ByteArray) (w : World) (h : DS w B fb d K S (fun k => k < w.heap.size) s (.slice (some ⟨g, 0, none⟩) (i + 1) vc) t ct) (hlow : Low B fb d K S w.heap.size) (hn : t.nodes.length = i + 1) (ht : t.nodes.length ≤ 25) :
    Calls Try.prog 39 #[pt d, opV 4 a b c s1 s2] w (TurnP w B fb d K S s (.slice (some ⟨g, 0, none⟩) (i + 1) vc) ct) := by
  have hrow := h.row
  have d1 := hrow.cell 1 (by omega)
  simp only [dkC] at d1
  have hN := h.reg
  obtain ⟨hfz, hgl⟩ := hN.frozen
  have hdl : d < w.heap.size := hrow.lt
  have hgd : g ≠ d := fun e => (h.own g rfl).1 (.inr (.inr (.inl e)))
  have hiI : (i : Int) < ((i + 1 : Nat) : Int) := by omega
  have hi0 : decide ((0 : Int) ≤ (i : Int)) = true := decide_eq_true (by omega)
  have hN2 : NL w (.slice (some ⟨g, 0, none⟩) t.nodes.length vc) t.nodes := by rw [hn]; exact hN
  obtain ⟨k0, k1, k2, k3, k4, k5, k6, k7, k8, k9, k10, k11, k12⟩ := hN2.node i (by omega) rfl
  have z2 := hfz (i * 13 + 2)
  have z3 := hfz (i * 13 + 3)
  have hf : Fr (fun k => k = d ∨ Value.ownBlock (.slice (some ⟨g, 0, none⟩) (i + 1) vc) = some k) w ((((w.setCell ⟨g, i * 13 + 2, none⟩ (I a)).setCell ⟨g, i * 13 + 3, none⟩ (I b)).alloc (opB 4 a b c s1 s2)).drew) := (((((Fr.refl (fun k => k = d ∨ Value.ownBlock (.slice (some ⟨g, 0, none⟩) (i + 1) vc) = some k) w).setCell (p := ⟨g, i * 13 + 2, none⟩) (.inl (.inr rfl)) (I a)).setCell (p := ⟨g, i * 13 + 3, none⟩) (.inl (.inr rfl)) (I b)).alloc _).drew)
  have hfg : Fr (fun k => k = g) w ((((w.setCell ⟨g, i * 13 + 2, none⟩ (I a)).setCell ⟨g, i * 13 + 3, none⟩ (I b)).alloc (opB 4 a b c s1 s2)).drew) := (((((Fr.refl (fun k => k = g) w).setCell (p := ⟨g, i * 13 + 2, none⟩) (.inl rfl) (I a)).setCell (p := ⟨g, i * 13 + 3, none⟩) (.inl rfl) (I b)).alloc _).drew)
  have hf0 : Fr S0 ((w.setCell ⟨g, i * 13 + 2, none⟩ (I a)).setCell ⟨g, i * 13 + 3, none⟩ (I b)) ((((w.setCell ⟨g, i * 13 + 2, none⟩ (I a)).setCell ⟨g, i * 13 + 3, none⟩ (I b)).alloc (opB 4 a b c s1 s2)).drew) := (((Fr.refl S0 _).alloc _).drew)
  have hD := Bx.mk (h.turned (t' := ⟨t.nodes.set i ⟨(nd t.nodes i).kind, (nd t.nodes i).op, a, b, (nd t.nodes i).n, (nd t.nodes i).r1, (nd t.nodes i).r2⟩, t.root, t.err, t.pos⟩) (v' := .slice (some ⟨g, 0, none⟩) (i + 1) vc) hlow hf (fun k hk => hk) ((hfg.row hrow hgd.symm).congr (us := dkC s (.slice (some ⟨g, 0, none⟩) (i + 1) vc) ⟨t.nodes.set i ⟨(nd t.nodes i).kind, (nd t.nodes i).op, a, b, (nd t.nodes i).n, (nd t.nodes i).r1, (nd t.nodes i).r2⟩, t.root, t.err, t.pos⟩ K S ct) (by intro j hj; rcases j with _ | _ | _ | _ | _ | _ | _ | _ | j <;> first | rfl | omega)) ((nd_set_kids hN i (by omega) a b).fr0 hf0) (fun k hk => ⟨.inl hk, Nat.lt_of_lt_of_le (h.own k hk).2 hf.size⟩) (num_set h.num (by omega) rfl))
  have hfB := Bx.mk hf
  have hl2 : Bx ((t.nodes.set i ⟨(nd t.nodes i).kind, (nd t.nodes i).op, a, b, (nd t.nodes i).n, (nd t.nodes i).r1, (nd t.nodes i).r2⟩).length ≤ 25) := Bx.mk (by rw [List.length_set]; exact ht)
  have hi24 : i ≤ 24 := by omega
  clear h hrow hf hfg hf0 hlow hN hN2 hfz hn ht
  go_enter Try.func39, Try.ntmps39
  go_wp2_with fail
  go_region
  go_wp2_with fail
  go_end0
  exact ⟨rfl, ⟨_, _, hD.out, hl2.out, fun k hk => .inl hk⟩, hfB.out⟩
set_option maxRecDepth 100000 in
set_option maxHeartbeats 4000000 in
theorem turn_r1 (B : FB) (fb d K S : Nat) (s : ByteArray) (g i vc : Nat) (t : Tr) (ct : Nat) (a b c : Int) (s1 s2 : ByteArray) (w : World) (h : DS w B fb d K S (fun k => k < w.heap.size) s (.slice (some ⟨g, 0, none⟩) (i + 1) vc) t ct) (hlow : Low B fb d K S w.heap.size) (hn : t.nodes.length = i + 1) (ht : t.nodes.length ≤ 25) (h4 : (bits .and .i64 c 4 == 0) = true) :
    Calls Try.prog 39 #[pt d, opV 5 a b c s1 s2] w (TurnP w B fb d K S s (.slice (some ⟨g, 0, none⟩) (i + 1) vc) ct) := by
  have hrow := h.row
  have d1 := hrow.cell 1 (by omega)
  simp only [dkC] at d1
  have hN := h.reg
  obtain ⟨hfz, hgl⟩ := hN.frozen
  have hdl : d < w.heap.size := hrow.lt
  have hgd : g ≠ d := fun e => (h.own g rfl).1 (.inr (.inr (.inl e)))
  have hiI : (i : Int) < ((i + 1 : Nat) : Int) := by omega
  have hi0 : decide ((0 : Int) ≤ (i : Int)) = true := decide_eq_true (by omega)
  have hN2 : NL w (.slice (some ⟨g, 0, none⟩) t.nodes.length vc) t.nodes := by rw [hn]; exact hN
  obtain ⟨k0, k1, k2, k3, k4, k5, k6, k7, k8, k9, k10, k11, k12⟩ := hN2.node i (by omega) rfl
  have z5 := hfz (i * 13 + 5)
  have z6 := hfz (i * 13 + 6)
  have z7 := hfz (i * 13 + 7)
  have z8 := hfz (i * 13 + 8)
  have hf : Fr (fun k => k = d ∨ Value.ownBlock (.slice (some ⟨g, 0, none⟩) (i + 1) vc) = some k) w (((((((w.setCell ⟨g, i * 13 + 5, none⟩ (I a)).setCell ⟨g, i * 13 + 6, none⟩ (I b)).setCell ⟨g, i * 13 + 7, none⟩ (.bool (bits .and .i64 c 1 != 0))).setCell ⟨g, i * 13 + 8, none⟩ (.bool (bits .and .i64 c 2 != 0))).alloc (opB 5 a b c s1 s2)).alloc (.cells #[I a, I b, .bool (bits .and .i64 c 1 != 0), .bool (bits .and .i64 c 2 != 0)] 42)).drew) := ((((((((Fr.refl (fun k => k = d ∨ Value.ownBlock (.slice (some ⟨g, 0, none⟩) (i + 1) vc) = some k) w).setCell (p := ⟨g, i * 13 + 5, none⟩) (.inl (.inr rfl)) (I a)).setCell (p := ⟨g, i * 13 + 6, none⟩) (.inl (.inr rfl)) (I b)).setCell (p := ⟨g, i * 13 + 7, none⟩) (.inl (.inr rfl)) (.bool (bits .and .i64 c 1 != 0))).setCell (p := ⟨g, i * 13 + 8, none⟩) (.inl (.inr rfl)) (.bool (bits .and .i64 c 2 != 0))).alloc _).alloc _).drew)
  have hfg : Fr (fun k => k = g) w (((((((w.setCell ⟨g, i * 13 + 5, none⟩ (I a)).setCell ⟨g, i * 13 + 6, none⟩ (I b)).setCell ⟨g, i * 13 + 7, none⟩ (.bool (bits .and .i64 c 1 != 0))).setCell ⟨g, i * 13 + 8, none⟩ (.bool (bits .and .i64 c 2 != 0))).alloc (opB 5 a b c s1 s2)).alloc (.cells #[I a, I b, .bool (bits .and .i64 c 1 != 0), .bool (bits .and .i64 c 2 != 0)] 42)).drew) := ((((((((Fr.refl (fun k => k = g) w).setCell (p := ⟨g, i * 13 + 5, none⟩) (.inl rfl) (I a)).setCell (p := ⟨g, i * 13 + 6, none⟩) (.inl rfl) (I b)).setCell (p := ⟨g, i * 13 + 7, none⟩) (.inl rfl) (.bool (bits .and .i64 c 1 != 0))).setCell (p := ⟨g, i * 13 + 8, none⟩) (.inl rfl) (.bool (bits .and .i64 c 2 != 0))).alloc _).alloc _).drew)
  have hf0 : Fr S0 ((((w.setCell ⟨g, i * 13 + 5, none⟩ (I a)).setCell ⟨g, i * 13 + 6, none⟩ (I b)).setCell ⟨g, i * 13 + 7, none⟩ (.bool (bits .and .i64 c 1 != 0))).setCell ⟨g, i * 13 + 8, none⟩ (.bool (bits .and .i64 c 2 != 0))) (((((((w.setCell ⟨g, i * 13 + 5, none⟩ (I a)).setCell ⟨g, i * 13 + 6, none⟩ (I b)).setCell ⟨g, i * 13 + 7, none⟩ (.bool (bits .and .i64 c 1 != 0))).setCell ⟨g, i * 13 + 8, none⟩ (.bool (bits .and .i64 c 2 != 0))).alloc (opB 5 a b c s1 s2)).alloc (.cells #[I a, I b, .bool (bits .and .i64 c 1 != 0), .bool (bits .and .i64 c 2 != 0)] 42)).drew) := ((((Fr.refl S0 _).alloc _).alloc _).drew)
  have hD := Bx.mk (h.turned (t' := ⟨t.nodes.set i ⟨(nd t.nodes i).kind, (nd t.nodes i).op, (nd t.nodes i).a, (nd t.nodes i).b, (nd t.nodes i).n, ⟨a, b, bits .and .i64 c 1 != 0, bits .and .i64 c 2 != 0⟩, (nd t.nodes i).r2⟩, t.root, t.err, t.pos⟩) (v' := .slice (some ⟨g, 0, none⟩) (i + 1) vc) hlow hf (fun k hk => hk) ((hfg.row hrow hgd.symm).congr (us := dkC s (.slice (some ⟨g, 0, none⟩) (i + 1) vc) ⟨t.nodes.set i ⟨(nd t.nodes i).kind, (nd t.nodes i).op, (nd t.nodes i).a, (nd t.nodes i).b, (nd t.nodes i).n, ⟨a, b, bits .and .i64 c 1 != 0, bits .and .i64 c 2 != 0⟩, (nd t.nodes i).r2⟩, t.root, t.err, t.pos⟩ K S ct) (by intro j hj; rcases j with _ | _ | _ | _ | _ | _ | _ | _ | j <;> first | rfl | omega)) ((nd_set_r1 hN i (by omega) ⟨a, b, bits .and .i64 c 1 != 0, bits .and .i64 c 2 != 0⟩).fr0 hf0) (fun k hk => ⟨.inl hk, Nat.lt_of_lt_of_le (h.own k hk).2 hf.size⟩) (num_set h.num (by omega) rfl))
  have hfB := Bx.mk hf
  have h4b : (bits .and .i64 c 4 != 0) = false := by rw [bne, h4]; rfl
  have hl2 : Bx ((t.nodes.set i ⟨(nd t.nodes i).kind, (nd t.nodes i).op, (nd t.nodes i).a, (nd t.nodes i).b, (nd t.nodes i).n, ⟨a, b, bits .and .i64 c 1 != 0, bits .and .i64 c 2 != 0⟩, (nd t.nodes i).r2⟩).length ≤ 25) := Bx.mk (by rw [List.length_set]; exact ht)
  have hi24 : i ≤ 24 := by omega
  clear h hrow hf hfg hf0 hlow hN hN2 hfz hn ht
  go_enter Try.func39, Try.ntmps39
  go_wp2_with fail
  go_region
  go_wp2_with fail
  go_end0
  exact ⟨rfl, ⟨_, _, hD.out, hl2.out, fun k hk => .inl hk⟩, hfB.out⟩
set_option maxRecDepth 100000 in
set_option maxHeartbeats 4000000 in
theorem turn_r2 (B : FB) (fb d K S : Nat) (s : ByteArray) (g i vc : Nat) (t : Tr) (ct : Nat) (a b c : Int) (s1 s2 : ByteArray) (w : World) (h : DS w B fb d K S (fun k => k < w.heap.size) s (.slice (some ⟨g, 0, none⟩) (i + 1) vc) t ct) (hlow : Low B fb d K S w.heap.size) (hn : t.nodes.length = i + 1) (ht : t.nodes.length ≤ 25) (h4 : (bits .and .i64 c 4 == 0) = false) :
    Calls Try.prog 39 #[pt d, opV 5 a b c s1 s2] w (TurnP w B fb d K S s (.slice (some ⟨g, 0, none⟩) (i + 1) vc) ct) := by
  have hrow := h.row
  have d1 := hrow.cell 1 (by omega)
  simp only [dkC] at d1
  have hN := h.reg
  obtain ⟨hfz, hgl⟩ := hN.frozen
  have hdl : d < w.heap.size := hrow.lt
  have hgd : g ≠ d := fun e => (h.own g rfl).1 (.inr (.inr (.inl e)))
  have hiI : (i : Int) < ((i + 1 : Nat) : Int) := by omega
  have hi0 : decide ((0 : Int) ≤ (i : Int)) = true := decide_eq_true (by omega)
  have hN2 : NL w (.slice (some ⟨g, 0, none⟩) t.nodes.length vc) t.nodes := by rw [hn]; exact hN
  obtain ⟨k0, k1, k2, k3, k4, k5, k6, k7, k8, k9, k10, k11, k12⟩ := hN2.node i (by omega) rfl
  have z9 := hfz (i * 13 + 9)
  have z10 := hfz (i * 13 + 10)
  have z11 := hfz (i * 13 + 11)
  have z12 := hfz (i * 13 + 12)
  have hf : Fr (fun k => k = d ∨ Value.ownBlock (.slice (some ⟨g, 0, none⟩) (i + 1) vc) = some k) w (((((((w.setCell ⟨g, i * 13 + 9, none⟩ (I a)).setCell ⟨g, i * 13 + 10, none⟩ (I b)).setCell ⟨g, i * 13 + 11, none⟩ (.bool (bits .and .i64 c 1 != 0))).setCell ⟨g, i * 13 + 12, none⟩ (.bool (bits .and .i64 c 2 != 0))).alloc (opB 5 a b c s1 s2)).alloc (.cells #[I a, I b, .bool (bits .and .i64 c 1 != 0), .bool (bits .and .i64 c 2 != 0)] 42)).drew) := ((((((((Fr.refl (fun k => k = d ∨ Value.ownBlock (.slice (some ⟨g, 0, none⟩) (i + 1) vc) = some k) w).setCell (p := ⟨g, i * 13 + 9, none⟩) (.inl (.inr rfl)) (I a)).setCell (p := ⟨g, i * 13 + 10, none⟩) (.inl (.inr rfl)) (I b)).setCell (p := ⟨g, i * 13 + 11, none⟩) (.inl (.inr rfl)) (.bool (bits .and .i64 c 1 != 0))).setCell (p := ⟨g, i * 13 + 12, none⟩) (.inl (.inr rfl)) (.bool (bits .and .i64 c 2 != 0))).alloc _).alloc _).drew)
  have hfg : Fr (fun k => k = g) w (((((((w.setCell ⟨g, i * 13 + 9, none⟩ (I a)).setCell ⟨g, i * 13 + 10, none⟩ (I b)).setCell ⟨g, i * 13 + 11, none⟩ (.bool (bits .and .i64 c 1 != 0))).setCell ⟨g, i * 13 + 12, none⟩ (.bool (bits .and .i64 c 2 != 0))).alloc (opB 5 a b c s1 s2)).alloc (.cells #[I a, I b, .bool (bits .and .i64 c 1 != 0), .bool (bits .and .i64 c 2 != 0)] 42)).drew) := ((((((((Fr.refl (fun k => k = g) w).setCell (p := ⟨g, i * 13 + 9, none⟩) (.inl rfl) (I a)).setCell (p := ⟨g, i * 13 + 10, none⟩) (.inl rfl) (I b)).setCell (p := ⟨g, i * 13 + 11, none⟩) (.inl rfl) (.bool (bits .and .i64 c 1 != 0))).setCell (p := ⟨g, i * 13 + 12, none⟩) (.inl rfl) (.bool (bits .and .i64 c 2 != 0))).alloc _).alloc _).drew)
  have hf0 : Fr S0 ((((w.setCell ⟨g, i * 13 + 9, none⟩ (I a)).setCell ⟨g, i * 13 + 10, none⟩ (I b)).setCell ⟨g, i * 13 + 11, none⟩ (.bool (bits .and .i64 c 1 != 0))).setCell ⟨g, i * 13 + 12, none⟩ (.bool (bits .and .i64 c 2 != 0))) (((((((w.setCell ⟨g, i * 13 + 9, none⟩ (I a)).setCell ⟨g, i * 13 + 10, none⟩ (I b)).setCell ⟨g, i * 13 + 11, none⟩ (.bool (bits .and .i64 c 1 != 0))).setCell ⟨g, i * 13 + 12, none⟩ (.bool (bits .and .i64 c 2 != 0))).alloc (opB 5 a b c s1 s2)).alloc (.cells #[I a, I b, .bool (bits .and .i64 c 1 != 0), .bool (bits .and .i64 c 2 != 0)] 42)).drew) := ((((Fr.refl S0 _).alloc _).alloc _).drew)
  have hD := Bx.mk (h.turned (t' := ⟨t.nodes.set i ⟨(nd t.nodes i).kind, (nd t.nodes i).op, (nd t.nodes i).a, (nd t.nodes i).b, (nd t.nodes i).n, (nd t.nodes i).r1, ⟨a, b, bits .and .i64 c 1 != 0, bits .and .i64 c 2 != 0⟩⟩, t.root, t.err, t.pos⟩) (v' := .slice (some ⟨g, 0, none⟩) (i + 1) vc) hlow hf (fun k hk => hk) ((hfg.row hrow hgd.symm).congr (us := dkC s (.slice (some ⟨g, 0, none⟩) (i + 1) vc) ⟨t.nodes.set i ⟨(nd t.nodes i).kind, (nd t.nodes i).op, (nd t.nodes i).a, (nd t.nodes i).b, (nd t.nodes i).n, (nd t.nodes i).r1, ⟨a, b, bits .and .i64 c 1 != 0, bits .and .i64 c 2 != 0⟩⟩, t.root, t.err, t.pos⟩ K S ct) (by intro j hj; rcases j with _ | _ | _ | _ | _ | _ | _ | _ | j <;> first | rfl | omega)) ((nd_set_r2 hN i (by omega) ⟨a, b, bits .and .i64 c 1 != 0, bits .and .i64 c 2 != 0⟩).fr0 hf0) (fun k hk => ⟨.inl hk, Nat.lt_of_lt_of_le (h.own k hk).2 hf.size⟩) (num_set h.num (by omega) rfl))
  have hfB := Bx.mk hf
  have h4b : (bits .and .i64 c 4 != 0) = true := by rw [bne, h4]; rfl
  have hl2 : Bx ((t.nodes.set i ⟨(nd t.nodes i).kind, (nd t.nodes i).op, (nd t.nodes i).a, (nd t.nodes i).b, (nd t.nodes i).n, (nd t.nodes i).r1, ⟨a, b, bits .and .i64 c 1 != 0, bits .and .i64 c 2 != 0⟩⟩).length ≤ 25) := Bx.mk (by rw [List.length_set]; exact ht)
  have hi24 : i ≤ 24 := by omega
  clear h hrow hf hfg hf0 hlow hN hN2 hfz hn ht
  go_enter Try.func39, Try.ntmps39
  go_wp2_with fail
  go_region
  go_wp2_with fail
  go_end0
  exact ⟨rfl, ⟨_, _, hD.out, hl2.out, fun k hk => .inl hk⟩, hfB.out⟩
set_option maxRecDepth 100000 in
set_option maxHeartbeats 4000000 in
theorem turn_kids0 (B : FB) (fb d K S : Nat) (s : ByteArray) (va : Option Addr) (vc : Nat) (t : Tr) (ct : Nat) (a b c : Int) (s1 s2 : ByteArray) (w : World) (h : DS w B fb d K S (fun k => k < w.heap.size) s (.slice va 0 vc) t ct) (ht : t.nodes.length ≤ 25) :
    Calls Try.prog 39 #[pt d, opV 4 a b c s1 s2] w (TurnP w B fb d K S s (.slice va 0 vc) ct) := by
  have d1 := h.row.cell 1 (by omega)
  have hdl : d < w.heap.size := h.row.lt
  simp only [dkC] at d1
  have hf : Fr S0 w (w.alloc (opB 4 a b c s1 s2)) := (Fr.refl S0 w).alloc _
  have hB := Bx.mk ((h.fr0 hf).mono (Z' := fun k => k < (w.alloc (opB 4 a b c s1 s2)).heap.size) (fun k hk => Nat.lt_of_lt_of_le hk hf.size))
  have htB := Bx.mk ht
  have hfB := Bx.mk (hf.up (S := fun k => k = d ∨ Value.ownBlock (.slice va 0 vc) = some k))
  clear h hf
  go_enter Try.func39, Try.ntmps39
  go_wp2_with fail
  go_end0
  exact ⟨rfl, ⟨_, _, hB.out, htB.out, fun k hk => .inl hk⟩, hfB.out⟩
set_option maxRecDepth 100000 in
set_option maxHeartbeats 4000000 in
theorem turn_ref0 (B : FB) (fb d K S : Nat) (s : ByteArray) (va : Option Addr) (vc : Nat) (t : Tr) (ct : Nat) (a b c : Int) (s1 s2 : ByteArray) (w : World) (h : DS w B fb d K S (fun k => k < w.heap.size) s (.slice va 0 vc) t ct) (ht : t.nodes.length ≤ 25) :
    Calls Try.prog 39 #[pt d, opV 5 a b c s1 s2] w (TurnP w B fb d K S s (.slice va 0 vc) ct) := by
  have d1 := h.row.cell 1 (by omega)
  have hdl : d < w.heap.size := h.row.lt
  simp only [dkC] at d1
  have hf : Fr S0 w ((w.alloc (opB 5 a b c s1 s2)).alloc (.cells #[I a, I b, .bool (bits .and .i64 c 1 != 0), .bool (bits .and .i64 c 2 != 0)] 42)) := ((Fr.refl S0 w).alloc _).alloc _
  have hB := Bx.mk ((h.fr0 hf).mono (Z' := fun k => k < ((w.alloc (opB 5 a b c s1 s2)).alloc (.cells #[I a, I b, .bool (bits .and .i64 c 1 != 0), .bool (bits .and .i64 c 2 != 0)] 42)).heap.size) (fun k hk => Nat.lt_of_lt_of_le hk hf.size))
  have htB := Bx.mk ht
  have hfB := Bx.mk (hf.up (S := fun k => k = d ∨ Value.ownBlock (.slice va 0 vc) = some k))
  clear h hf
  go_enter Try.func39, Try.ntmps39
  go_wp2_with fail
  go_end0
  exact ⟨rfl, ⟨_, _, hB.out, htB.out, fun k hk => .inl hk⟩, hfB.out⟩
end Go.Proofs.Qxb6500329a
