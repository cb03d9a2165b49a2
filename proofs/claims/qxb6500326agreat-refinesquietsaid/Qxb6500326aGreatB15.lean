import Derived.Test.Qxb6500326aGreatB6
import Derived.Test.Qxb6500326aGreatB9
import Derived.Test.Qxb6500326aGreatB5
import Derived.Test.Qxb6500326aGreatX16
namespace Go.Proofs.Qxb6500326aGreat
set_option maxRecDepth 100000
set_option linter.unusedVariables false
set_option linter.unusedSimpArgs false
open Go.RowKit Go.PlainAid
theorem mem_bit (c i : Nat) : (bit c).getLsbD i = (decide (i < 32) && decide (i = c)) := by
  unfold bit
  rw [BitVec.getLsbD_shiftLeft]
  by_cases h : i < 32 <;> by_cases h2 : i = c <;> simp [h, h2] <;> omega
theorem mem_bit' {c i : Nat} (hc : c < 32) : (bit c).getLsbD i = decide (i = c) := by
  rw [mem_bit]
  by_cases h2 : i = c <;> simp [h2, hc]
theorem and_bit_bne {x : BitVec 32} {c : Nat} (hc : c < 32) : (x &&& bit c != 0#32) = x.getLsbD c := by
  cases h : x.getLsbD c
  · have : x &&& bit c = 0#32 := by
      apply BitVec.eq_of_getLsbD_eq
      intro i hi
      rw [BitVec.getLsbD_and, mem_bit' hc]
      by_cases e : i = c
      · subst e; simp [h]
      · simp [e]
    rw [this]; rfl
  · rw [bne_iff_ne]
    intro e
    have := congrArg (fun y : BitVec 32 => y.getLsbD c) e
    simp only [BitVec.getLsbD_and, mem_bit' hc, h] at this
    simp at this
theorem Fr.thru {S : Nat → Prop} {w wr wd w2 : World} (h : Fr S w wr) (k : Fr S wd w2) (e1 : wd.os = wr.os) (e2 : wd.tape = wr.tape) (e3 : wd.output = wr.output) (e4 : wd.heap = wr.heap) : Fr S w w2 :=
  h.trans ⟨k.os.trans e1, k.tape.trans e2, k.output.trans e3, by have := k.size; rw [e4] at this; exact this, fun i hi hs => by have := k.block i (by rw [e4]; exact hi) hs; rw [e4] at this; exact this⟩
attribute [local go_sem] bv_and bv_ne_zero
set_option maxHeartbeats 8000000 in
theorem fold_range {g eb : Nat} {L : List Nd} {env : Nat → Vl} {i : Nat} {op : Int} {j m : Nat} {b : Int} {s : Fd} {p q : Ref} (hi : i < L.length) (hj : j < L.length) (h : nd L i = ⟨9, 0, (j : Int), b, 0, rz, rz⟩) (hy : nd L j = ⟨4, 0, -1, -1, 0, p, q⟩) (ho : blockOK p q = true) (he : LwE env) (fs : FI m s) (hm : m ≤ 576) (ih : FOK g eb L env op b s) : FOK g eb L env op (i : Int) (sweepM op (blockS p q) env 0 24 s) := by
  intro w cap ecap hW
  obtain ⟨c0, c1, c2, c3, c4, c5, c6, c7, c8, c9, c10, c11, c12⟩ := hW.cells hi h
  have hgl := hW.gl
  have hz := Bx.mk (f_new w fz 244 rfl)
  have hfr := Bx.mk ((Fr.refl S0 w).alloc (.cells (fdA fz) 244))
  have hA : Bx (∀ w', Fr S0 w w' → Calls Tryz.prog 232 #[sl g L.length cap, I b, I op, sl eb 24 ecap] w' (FV w' s)) := ⟨fun w' f => ih w' cap ecap (hW.fr f)⟩
  have hW' := Bx.mk hW
  have b1 := fs.s1
  have b2 := fs.s2
  have b3 := fs.c0
  have b4 := fs.ck
  have hS1 : -1000000000000000 ≤ s.sum := by omega
  have hS2 : s.sum ≤ 1000000000000000 := by omega
  have hC1 := b3
  have hC2 : s.cnt ≤ 1000000 := by omega
  clear ih b1 b2 b3 b4
  have hB : Bx (∀ w, Calls Tryz.prog 147 #[refV p, refV q] w fun e w' => e = .returned (.tuple #[U (blockS p q), .bool true]) ∧ Fr S0 w w') := ⟨fun w => ho ▸ block_any p q w⟩
  have fs := Bx.mk fs
  have he := Bx.mk he
  clear hW ho hS1 hS2 hC1 hC2
  have hy := Bx.mk hy
  have h := Bx.mk h
  generalize hset : blockS p q = set at hB
  have hset := Bx.mk hset
  go_enter Tryz.func232, Tryz.ntmps232
  go_wp2_with (first
    | (go_at_call 232; refine (hA.out _ hfr.out).mono ?_; clear hA; rintro e w1 ⟨rfl, hf⟩; have hz := Bx.mk (hf.row0 hz.out); have hz1 := hz; have hfr := Bx.mk (((hfr.out.trans hf).alloc (.cells (fdA s) 244)).alloc (.cells (ndA ⟨4, 0, -1, -1, 0, p, q⟩) 149)); have hW1 := hW'.out.fr ((Fr.trans ((Fr.refl S0 w).alloc (.cells (fdA fz) 244)) hf)); obtain ⟨k0, k1, k2, k3, k4, k5, k6, k7, k8, k9, k10, k11, k12⟩ := hW1.cells hi h.out; obtain ⟨l0, l1, l2, l3, l4, l5, l6, l7, l8, l9, l10, l11, l12⟩ := hW1.cells hj hy.out; have hg1 := hW1.gl; have hg2 : g < w1.heap.size + 1 := (by omega); have hs := Bx.mk ((f_new w1 s 244 rfl).alloc (.cells (ndA ⟨4, 0, -1, -1, 0, p, q⟩) 149)); have hn := Bx.mk (nd_row (w1.alloc (.cells (fdA s) 244)) ⟨4, 0, -1, -1, 0, p, q⟩ (H := w1.heap.size + 1) (by simp)); have hz := Bx.mk ((hz.out.alloc (.cells (fdA s) 244)).alloc (.cells (ndA ⟨4, 0, -1, -1, 0, p, q⟩) 149)); clear hf hW1)
    | (go_at_call 147; refine (hB.out _).mono ?_; clear hB; rintro e w2 ⟨rfl, hf⟩; have hz := Bx.mk (hf.row0 hz.out); have hs := Bx.mk (hf.row0 hs.out); have hfr := Bx.mk (hfr.out.trans hf); clear hf))
  have hFw : w.heap.size < w1.heap.size := hz1.out.lt
  go_loopw [15] (fun c wr => ∃ (k : Nat) (t : Fd), k ≤ 24 ∧ c = I (k : Int) ∧ Bx (Row wr w1.heap.size 9 (fdC t)) ∧ Bx (Row wr w.heap.size 9 (fdC fz)) ∧ Bx (Fr S0 w wr) ∧ Bx (FI (m + k) t) ∧ Bx (sweepM op set env k (24 - k) t = sweepM op set env 0 24 s)) (fun c _ => 24 - (intOf c).toNat)
  case atStart => exact ⟨0, s, by omega, rfl, hs, hz, hfr, fs, ⟨rfl⟩⟩
  case round =>
    clear hs hz hfr fs hz1
    obtain ⟨k, t, hk, rfl, hs, hz, hfr, fs, hsw⟩ := hrel
    obtain ⟨s0, s1, s2, s3, s4, s5, s6, s7, s8⟩ := hs.out.f9
    obtain ⟨q0, q1, q2, q3, q4, q5, q6, q7, q8⟩ := hz.out.f9
    obtain ⟨qq0, qq1, qq2, qq3, qq4, qq5, qq6, qq7, qq8⟩ := hz.out.z9
    cases hlt : decide ((k : Int) < 24)
    · have hk24 : Bx (k = 24) := ⟨by simp at hlt; omega⟩
      go_wp2
      exact ret_fs (x := t) (p := 8) rfl rfl rfl hz.out hfr.out (Nat.le_refl _) (by rw [← hsw.out, hk24.out]; rfl)
    · have hk24 : k < 24 := by simp at hlt; omega
      have hbb := and_bit_bne (x := set) (c := k) (by omega)
      cases hbit : set.getLsbD k
      · rw [hbit] at hbb
        go_wp2_with (first | (go_at_call 124; refine (bit_any k _ hk24).mono ?_; rintro e w' ⟨rfl, rfl⟩))
        go_roundw
        case rel => exact ⟨k + 1, t, by omega, rfl, hs, hz, hfr, ⟨fs.out.up (by omega)⟩, ⟨by rw [← hsw.out, show 24 - k = (24 - (k + 1)) + 1 from by omega]; simp [sweepM, hbit]⟩⟩
        case measure => simp [intOf]; omega
      · rw [hbit] at hbb
        obtain ⟨v0, v1, v2⟩ := (hW'.out.fr hfr.out).vals hk24
        have b1 := fs.out.s1
        have b2 := fs.out.s2
        have b3 := fs.out.c0
        have b4 := fs.out.ck
        have hT : Bx (∀ w, Calls Tryz.prog 246 #[fdV t, I op, vV (env k), .bool true] w (FV w (takeM t op (env k) true))) := ⟨fun w => take_any _ _ _ _ _ (by omega) (by omega) (he.out k hk24) b3 (by omega)⟩
        clear b1 b2 b3 b4
        have fs' := Bx.mk (fs.out.take op (he.out k hk24) true)
        have hsw' : Bx (sweepM op set env (k + 1) (24 - (k + 1)) (takeM t op (env k) true) = sweepM op set env 0 24 s) := ⟨by rw [← hsw.out, show 24 - k = (24 - (k + 1)) + 1 from by omega]; simp [sweepM, hbit]⟩
        generalize takeM t op (env k) true = t' at hT fs' hsw'
        go_wp2_with (first | (go_at_call 124; refine (bit_any k _ hk24).mono ?_; rintro e w' ⟨rfl, rfl⟩))
        refine region_cut (fun w' => Bx (Row w' w1.heap.size 9 (fdC t')) ∧ Bx (Row w' w.heap.size 9 (fdC fz)) ∧ Bx (Fr S0 w w')) ?_
        apply Exists.intro
        apply And.intro
        · go_region_with (first | (go_at_call 246; refine (hT.out _).mono ?_; rintro e w2 ⟨rfl, hf2⟩; have hs2 := Bx.mk (hs.out.of_heap (hf2.block _ hs.out.lt id)); have hz2 := Bx.mk (hz.out.of_heap (hf2.block _ hz.out.lt id)); obtain ⟨p0, p1, p2, p3, p4, p5, p6, p7, p8⟩ := hs2.out.f9; obtain ⟨pp0, pp1, pp2, pp3, pp4, pp5, pp6, pp7, pp8⟩ := hs2.out.z9))
          all_goals exact ⟨rfl, ⟨f_sets hs2.out t'⟩, ⟨(sets_fr (S := fun k => k = w1.heap.size) (.inl rfl) (fdA t').toList w2 0 (Fr.refl _ _)).row hz2.out (by show ¬ w.heap.size = w1.heap.size; omega)⟩, ⟨sets_fr (S := S0) (a := w) (b := w1.heap.size) (.inr (Nat.le_of_lt hFw)) (fdA t').toList w2 0 (hfr.out.thru hf2 rfl rfl rfl rfl)⟩⟩
        rintro w0 ⟨h1, h2, h3⟩
        go_wp2_with fail
        go_roundw
        case rel => exact ⟨k + 1, t', by omega, rfl, h1, h2, h3, fs', hsw'⟩
        case measure => simp [intOf]; omega
end Go.Proofs.Qxb6500326aGreat
