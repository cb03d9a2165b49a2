import Derived.Test.Qxb6500329aM1
import Derived.BigRegion
import Derived.Deep.RegionLaw
namespace Go.Proofs.Qxb6500329a
set_option linter.unusedVariables false
set_option linter.unusedSimpArgs false
open Go.RowKit Go.PlainAid
theorem DS.turned {w w' : World} {B : FB} {fb d K S : Nat} {s : ByteArray} {v v' : Value} {t t' : Tr} {ct : Nat} (h : DS w B fb d K S (fun k => k < w.heap.size) s v t ct) (hlow : Low B fb d K S w.heap.size) {T : Nat → Prop} (f : Fr T w w') (hT : ∀ k, T k → k = d ∨ v.ownBlock = some k)
    (hd : Row w' d 8 (dkC s v' t' K S ct)) (hN : NL w' v' t'.nodes) (hv : ∀ k, v'.ownBlock = some k → (v.ownBlock = some k ∨ w.heap.size ≤ k) ∧ k < w'.heap.size) (hn : NumOK t'.nodes) : DS w' B fb d K S (fun k => k < w'.heap.size) s v' t' ct := by
  obtain ⟨kv, sv, hr⟩ := h.ring
  have hno : ∀ k, Used B fb d K S k → k ≠ d → ¬ T k := fun k hk hkd c => by
    rcases hT k c with e | e
    · exact hkd e
    · exact (h.own k e).1 hk
  refine ⟨h.ids, hd, hN, fun k hk => ⟨?_, (hv k hk).2⟩, ⟨kv, sv, f.row hr.kr (hno K (.inr (.inr (.inr (.inl rfl)))) (fun e => h.ids.dK e.symm)), f.row hr.sr (hno S (.inr (.inr (.inr (.inr rfl)))) (fun e => h.ids.dS e.symm)), ?_⟩, hn⟩
  · rcases (hv k hk).1 with e | e
    · exact (h.own k e).1
    · exact hlow.not e
  · intro j g n hj e
    obtain ⟨h1, h2, h3, h4⟩ := hr.kp j g n hj e
    have hs := f.size
    refine ⟨h1, h2.of f (fun c => ?_), ?_, Nat.lt_of_lt_of_le h4 hs⟩
    · rcases hT g c with e | e
      · exact h3 (.inl (.inr (.inr (.inl e))))
      · exact h3 (.inr e)
    · rintro (c | c)
      · exact h3 (.inl c)
      · rcases (hv g c).1 with e | e
        · exact h3 (.inr e)
        · omega
abbrev opV (kd a b c : Int) (s1 s2 : ByteArray) : Value := .agg #[I kd, I a, I b, I c, .string s1, .string s2]
abbrev opB (kd a b c : Int) (s1 s2 : ByteArray) : Obj := .cells #[I kd, I a, I b, I c, .string s1, .string s2] 29
abbrev TurnP (w : World) (B : FB) (fb d K S : Nat) (s : ByteArray) (v : Value) (ct : Nat) : Ending → World → Prop := fun e w' => e = .returned (.tuple #[]) ∧ (∃ v' t', DS w' B fb d K S (fun k => k < w'.heap.size) s v' t' ct ∧ t'.nodes.length ≤ 25 ∧ (∀ k, v'.ownBlock = some k → v.ownBlock = some k ∨ w.heap.size ≤ k)) ∧ Fr (fun k => k = d ∨ v.ownBlock = some k) w w'
set_option maxRecDepth 100000 in
set_option maxHeartbeats 4000000 in
theorem turn_root (B : FB) (fb d K S : Nat) (s : ByteArray) (v : Value) (t : Tr) (ct : Nat) (a b c : Int) (s1 s2 : ByteArray) (w : World) (h : DS w B fb d K S (fun k => k < w.heap.size) s v t ct) (hlow : Low B fb d K S w.heap.size) (ht : t.nodes.length ≤ 25) :
    Calls Try.prog 39 #[pt d, opV 6 a b c s1 s2] w (TurnP w B fb d K S s v ct) := by
  have hrow := h.row
  have d1 := hrow.cell 1 (by omega)
  have d2 := hrow.cell 2 (by omega)
  have d3 := hrow.cell 3 (by omega)
  have d4 := hrow.cell 4 (by omega)
  have z2 := hrow.frozen 2
  have z3 := hrow.frozen 3
  have z4 := hrow.frozen 4
  simp only [dkC] at d1 d2 d3 d4
  obtain ⟨va, vc, rfl⟩ := h.reg.slice
  have hdl := hlow.d
  have hf : Fr (fun k => k = d ∨ Value.ownBlock (.slice va t.nodes.length vc) = some k) w (((((w.setCell ⟨d, 2, none⟩ (I a)).setCell ⟨d, 3, none⟩ (I b)).setCell ⟨d, 4, none⟩ (I c)).alloc (opB 6 a b c s1 s2)).drew) := ((((((Fr.refl (fun k => k = d ∨ Value.ownBlock (.slice va t.nodes.length vc) = some k) w).setCell (p := ⟨d, 2, none⟩) (.inl (.inl rfl)) _).setCell (p := ⟨d, 3, none⟩) (.inl (.inl rfl)) _).setCell (p := ⟨d, 4, none⟩) (.inl (.inl rfl)) _).alloc _).drew)
  have hdv : ∀ k, Value.ownBlock (.slice va t.nodes.length vc) = some k → k ≠ d := fun k hk e => (h.own k hk).1 (.inr (.inr (.inl e)))
  have hfd : Fr (fun k => k = d) w (((((w.setCell ⟨d, 2, none⟩ (I a)).setCell ⟨d, 3, none⟩ (I b)).setCell ⟨d, 4, none⟩ (I c)).alloc (opB 6 a b c s1 s2)).drew) := ((((((Fr.refl (fun k => k = d) w).setCell (p := ⟨d, 2, none⟩) (.inl rfl) _).setCell (p := ⟨d, 3, none⟩) (.inl rfl) _).setCell (p := ⟨d, 4, none⟩) (.inl rfl) _).alloc _).drew)
  have hD := Bx.mk (h.turned (t' := ⟨t.nodes, a, b, c⟩) (v' := .slice va t.nodes.length vc) hlow hf (fun k hk => hk) ((((((hrow.set 2 (I a)).set 3 (I b)).set 4 (I c)).congr (us := dkC s (.slice va t.nodes.length vc) ⟨t.nodes, a, b, c⟩ K S ct) (by intro i hi; rcases i with _ | _ | _ | _ | _ | _ | _ | _ | i <;> first | rfl | omega)).alloc _).drew) (h.reg.fr hfd (fun k hk e => hdv k hk e)) (fun k hk => ⟨.inl hk, Nat.lt_of_lt_of_le (h.own k hk).2 hf.size⟩) h.num)
  have hfB := Bx.mk hf
  have htB := Bx.mk ht
  clear h hrow hf hfd hdv hlow
  go_enter Try.func39, Try.ntmps39
  go_wp2_with fail
  go_region
  go_wp2_with fail
  go_end0
  exact ⟨rfl, ⟨_, _, hD.out, htB.out, fun k hk => .inl hk⟩, hfB.out⟩
set_option maxRecDepth 100000 in
set_option maxHeartbeats 4000000 in
theorem turn_none (B : FB) (fb d K S : Nat) (s : ByteArray) (v : Value) (t : Tr) (ct : Nat) (kd a b c : Int) (s1 s2 : ByteArray) (w : World) (h : DS w B fb d K S (fun k => k < w.heap.size) s v t ct) (ht : t.nodes.length ≤ 25) (h3 : kd ≠ 3) (h4 : kd ≠ 4) (h5 : kd ≠ 5) (h6 : kd ≠ 6) :
    Calls Try.prog 39 #[pt d, opV kd a b c s1 s2] w (TurnP w B fb d K S s v ct) := by
  have d1 := h.row.cell 1 (by omega)
  have hdl : d < w.heap.size := h.row.lt
  simp only [dkC] at d1
  obtain ⟨va, vc, rfl⟩ := h.reg.slice
  have e3 : (kd == 3) = false := by simpa using h3
  have e4 : (kd == 4) = false := by simpa using h4
  have e5 : (kd == 5) = false := by simpa using h5
  have e6 : (kd == 6) = false := by simpa using h6
  have hB := Bx.mk ((h.fr0 ((Fr.refl _ _).alloc (opB kd a b c s1 s2))).mono (Z' := fun k => k < (w.alloc (opB kd a b c s1 s2)).heap.size) (fun k hk => by simp; omega))
  have htB := Bx.mk ht
  clear h h3 h4 h5 h6
  go_enter Try.func39, Try.ntmps39
  go_wp2_with fail
  go_end0
  exact ⟨rfl, ⟨_, _, hB.out, htB.out, fun k hk => .inl hk⟩, (Fr.refl _ _).alloc _⟩
theorem nd_set_kids {L : List Nd} {w : World} {g n cap : Nat} (h : NL w (.slice (some ⟨g, 0, none⟩) n cap) L) (i : Nat) (hi : i < L.length) (a b : Int) :
    NL ((w.setCell ⟨g, i * 13 + 2, none⟩ (I a)).setCell ⟨g, i * 13 + 3, none⟩ (I b)) (.slice (some ⟨g, 0, none⟩) n cap) (L.set i ⟨(nd L i).kind, (nd L i).op, a, b, (nd L i).n, (nd L i).r1, (nd L i).r2⟩) := by
  have h1 := nl_set h i 2 hi (by omega) (I a) ⟨(nd L i).kind, (nd L i).op, a, (nd L i).b, (nd L i).n, (nd L i).r1, (nd L i).r2⟩ rfl
  have h2 := nl_set h1 i 3 (by rw [List.length_set]; exact hi) (by omega) (I b) ⟨(nd L i).kind, (nd L i).op, a, b, (nd L i).n, (nd L i).r1, (nd L i).r2⟩ (by rw [nd_set_same hi]; rfl)
  rw [List.set_set] at h2
  exact h2
theorem nd_set_r1 {L : List Nd} {w : World} {g n cap : Nat} (h : NL w (.slice (some ⟨g, 0, none⟩) n cap) L) (i : Nat) (hi : i < L.length) (r : Ref) :
    NL ((((w.setCell ⟨g, i * 13 + 5, none⟩ (I r.col)).setCell ⟨g, i * 13 + 6, none⟩ (I r.row)).setCell ⟨g, i * 13 + 7, none⟩ (.bool r.absC)).setCell ⟨g, i * 13 + 8, none⟩ (.bool r.absR)) (.slice (some ⟨g, 0, none⟩) n cap) (L.set i ⟨(nd L i).kind, (nd L i).op, (nd L i).a, (nd L i).b, (nd L i).n, r, (nd L i).r2⟩) := by
  have h1 := nl_set h i 5 hi (by omega) (I r.col) ⟨(nd L i).kind, (nd L i).op, (nd L i).a, (nd L i).b, (nd L i).n, ⟨r.col, (nd L i).r1.row, (nd L i).r1.absC, (nd L i).r1.absR⟩, (nd L i).r2⟩ rfl
  have h2 := nl_set h1 i 6 (by rw [List.length_set]; exact hi) (by omega) (I r.row) ⟨(nd L i).kind, (nd L i).op, (nd L i).a, (nd L i).b, (nd L i).n, ⟨r.col, r.row, (nd L i).r1.absC, (nd L i).r1.absR⟩, (nd L i).r2⟩ (by rw [nd_set_same hi]; rfl)
  rw [List.set_set] at h2
  have h3 := nl_set h2 i 7 (by rw [List.length_set]; exact hi) (by omega) (.bool r.absC) ⟨(nd L i).kind, (nd L i).op, (nd L i).a, (nd L i).b, (nd L i).n, ⟨r.col, r.row, r.absC, (nd L i).r1.absR⟩, (nd L i).r2⟩ (by rw [nd_set_same hi]; rfl)
  rw [List.set_set] at h3
  have h4 := nl_set h3 i 8 (by rw [List.length_set]; exact hi) (by omega) (.bool r.absR) ⟨(nd L i).kind, (nd L i).op, (nd L i).a, (nd L i).b, (nd L i).n, r, (nd L i).r2⟩ (by rw [nd_set_same hi]; rfl)
  rw [List.set_set] at h4
  exact h4
theorem nd_set_r2 {L : List Nd} {w : World} {g n cap : Nat} (h : NL w (.slice (some ⟨g, 0, none⟩) n cap) L) (i : Nat) (hi : i < L.length) (r : Ref) :
    NL ((((w.setCell ⟨g, i * 13 + 9, none⟩ (I r.col)).setCell ⟨g, i * 13 + 10, none⟩ (I r.row)).setCell ⟨g, i * 13 + 11, none⟩ (.bool r.absC)).setCell ⟨g, i * 13 + 12, none⟩ (.bool r.absR)) (.slice (some ⟨g, 0, none⟩) n cap) (L.set i ⟨(nd L i).kind, (nd L i).op, (nd L i).a, (nd L i).b, (nd L i).n, (nd L i).r1, r⟩) := by
  have h1 := nl_set h i 9 hi (by omega) (I r.col) ⟨(nd L i).kind, (nd L i).op, (nd L i).a, (nd L i).b, (nd L i).n, (nd L i).r1, ⟨r.col, (nd L i).r2.row, (nd L i).r2.absC, (nd L i).r2.absR⟩⟩ rfl
  have h2 := nl_set h1 i 10 (by rw [List.length_set]; exact hi) (by omega) (I r.row) ⟨(nd L i).kind, (nd L i).op, (nd L i).a, (nd L i).b, (nd L i).n, (nd L i).r1, ⟨r.col, r.row, (nd L i).r2.absC, (nd L i).r2.absR⟩⟩ (by rw [nd_set_same hi]; rfl)
  rw [List.set_set] at h2
  have h3 := nl_set h2 i 11 (by rw [List.length_set]; exact hi) (by omega) (.bool r.absC) ⟨(nd L i).kind, (nd L i).op, (nd L i).a, (nd L i).b, (nd L i).n, (nd L i).r1, ⟨r.col, r.row, r.absC, (nd L i).r2.absR⟩⟩ (by rw [nd_set_same hi]; rfl)
  rw [List.set_set] at h3
  have h4 := nl_set h3 i 12 (by rw [List.length_set]; exact hi) (by omega) (.bool r.absR) ⟨(nd L i).kind, (nd L i).op, (nd L i).a, (nd L i).b, (nd L i).n, (nd L i).r1, r⟩ (by rw [nd_set_same hi]; rfl)
  rw [List.set_set] at h4
  exact h4
theorem num_set {L : List Nd} (h : NumOK L) {i : Nat} (hi : i < L.length) {x : Nd} (e : x.n = (nd L i).n) : NumOK (L.set i x) := by
  intro y hy
  rcases List.mem_or_eq_of_mem_set hy with h1 | h1
  · exact h y h1
  · subst h1
    have := h (nd L i) (by unfold nd; rw [List.getElem?_eq_getElem hi]; exact List.getElem_mem hi)
    rw [e]; exact this
end Go.Proofs.Qxb6500329a
