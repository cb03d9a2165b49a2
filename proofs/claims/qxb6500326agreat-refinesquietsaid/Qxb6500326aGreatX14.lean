import Derived.Test.Qxb6500326aGreatX10
namespace Go.Proofs.Qxb6500326aGreat
set_option maxRecDepth 100000
set_option linter.unusedVariables false
set_option linter.unusedSimpArgs false
open Go.RowKit Go.PlainAid
theorem mk_new (w : World) (m : Mk) {H : Nat} (e : w.heap.size = H) : Row (w.alloc (.cells (mkA m) 220)) H 5 (mkC m) := by
  subst e
  exact Row.new _ _ _ _ _ rfl (by
    intro i hi
    have : i = 0 ∨ i = 1 ∨ i = 2 ∨ i = 3 ∨ i = 4 := by omega
    rcases this with e | e | e | e | e <;> subst e <;> rfl)
def RS.dn (st : RS) : RS := { st with done := true }
set_option maxRecDepth 100000 in
set_option maxHeartbeats 4000000 in
theorem close_nil (B : FB) (b : Nat → Int) (n nt k : Nat) (st : RS) (t : Tok) (w : World) (h : AF w B b n nt k st) (hts : Hts k 1 st) (hav : st.hav = true) (htk : topk st.O ≠ 1) (hO : st.O = []) :
    Calls Tryz.prog 194 #[pt B.f, tkV t] w (Turned w B b n nt k st (st.close b n t)) := by
  have hcl : st.close b n t = (if t.kind ≠ 0 then st.fail 3 t.st else st).dn := by unfold RS.close; rw [hO]; rfl
  rw [hcl]
  clear hcl
  have hnb := Bx.mk (h.lts (Nat.le_refl w.heap.size))
  have hT0 := Bx.mk (tk_new w t rfl)
  have hA0 := Bx.mk (h.alloc (.cells (tkA t) 213))
  obtain ⟨F, hF, hR, rfl, rfl⟩ := h
  have c9 := hF.row.cell 9 (by omega)
  have c11 := hF.row.cell 11 (by omega)
  have z11 := hF.row.frozen 11
  simp only [fmC] at c9 c11
  rw [hR.nol, hO] at c9
  have c9 : w.cell? ⟨B.f, 9, none⟩ = some (I 0) := c9
  clear hO
  have lf := hF.row.lt
  by_cases hk : t.kind = 0
  · have hkd : (t.kind != 0) = false := by simpa using hk
    rw [if_neg (by simpa using hk)]
    have h1 := Bx.mk (hF.set (F' := { F with done := true }) 11 (.bool true) (by intro i hi; rcases i with _ | _ | _ | _ | _ | _ | _ | _ | _ | _ | _ | _ | _ | _ | _ | _ | _ | i <;> first | rfl | omega) rfl rfl rfl rfl rfl rfl rfl)
    have hr : Bx (Rel b n { F with done := true } st.dn) := Bx.mk { hR with done := rfl }
    have hh : Bx (Hts F.k 1 st.dn) := Bx.mk ⟨hts.len, hts.vk, hts.ok, hts.vin, hts.mn, hts.so, hts.kd⟩
    have hv := Bx.mk hav
    have htB := Bx.mk htk
    clear hF hR hts hk hav htk
    go_enter Tryz.func194, Tryz.ntmps194
    go_wp2
    go_returns
    exact ⟨rfl, ⟨F.k, ⟨_, h1.out.alloc _, hr.out, rfl, rfl⟩, Nat.le_refl _, fun e => ⟨fun e2 => (by exact absurd e2 (by show ¬ true = false; decide)), by rw [if_pos (show st.dn.hav = true from hv.out)]; exact hh.out, fun _ => htB.out⟩⟩, ((Fr.refl _ _).fm 11 _).alloc _⟩
  · have hkd : (t.kind != 0) = true := by simpa using hk
    rw [if_pos hk]
    have hfl := Bx.mk (fun wx hx => failX B b n F.nt F.k st 3 t.st wx hx)
    have her := Bx.mk (fail_errR st (e := 3) (by decide) t.st)
    clear hF hR hts hk hav
    go_enter Tryz.func194, Tryz.ntmps194
    go_wp2_with (first
      | (go_at_call 195; refine (hfl.out _ hA0.out).mono ?_; clear hfl; rintro e w1 ⟨rfl, hA1, hf1⟩; obtain ⟨F1, hF1, hR1, e1, e2⟩ := hA1; have d11 := hF1.row.cell 11 (by omega); have y11 := hF1.row.frozen 11; simp only [fmC] at d11; have hF1 := Bx.mk hF1; have hR1 := Bx.mk hR1; have e1 := Bx.mk e1; have e2 := Bx.mk e2))
    go_returns
    exact ⟨rfl, ⟨F.k, ⟨_, hF1.out.set (F' := { F1 with done := true }) 11 (.bool true) (by intro i hi; rcases i with _ | _ | _ | _ | _ | _ | _ | _ | _ | _ | _ | _ | _ | _ | _ | _ | _ | i <;> first | rfl | omega) rfl rfl rfl rfl rfl rfl rfl, { hR1.out with done := rfl }, e1.out, e2.out⟩, Nat.le_refl _, fun e => absurd e her.out⟩, (((Fr.refl _ _).alloc _).trans hf1).fm 11 _⟩
end Go.Proofs.Qxb6500326aGreat
