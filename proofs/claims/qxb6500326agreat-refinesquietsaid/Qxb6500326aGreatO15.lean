import Derived.Test.Qxb6500326aGreatO14
namespace Go.Proofs.Qxb6500326aGreat
set_option maxRecDepth 100000
set_option linter.unusedVariables false
set_option linter.unusedSimpArgs false
open Go.RowKit Go.PlainAid

/-! ### the model Editor's memory -/
structure YA where
  me : Nat
  fm : Nat
  cb : Nat
  mb : Nat
  fb : Nat
  rb : Nat
def emC (M : YA) (n : Int) : Nat → Value
  | 0 => pt M.fm
  | 1 => pt M.cb
  | _ => I n
abbrev SMd (M : YA) (sb : Nat) : Nat → Prop := CmS M.cb M.mb M.fb M.rb sb
/-- The blocks that the model writes. -/
def SY (M : YA) : Nat → Prop := fun k => k = M.me ∨ k = M.fm ∨ k = M.cb ∨ MeS M.mb M.fb k ∨ k = M.rb
/-- All its blocks. -/
def SYa (M : YA) (sb : Nat) : Nat → Prop := fun k => SY M k ∨ k = sb
abbrev cmA (w : World) (M : YA) (sb : Nat) (T : Nat → ByteArray) (E : Nat → Vl) : Prop := CM w M.cb M.mb M.fb M.rb sb T E
structure EY (w : World) (M : YA) (sb : Nat) (T : Nat → ByteArray) (E : Nat → Vl) : Prop where
  obj : ∃ n, Row w M.me 3 (emC M n)
  cm : cmA w M sb T E
  mf : MF w M.fm
  n1 : ¬ SMd M sb M.me
  n2 : ¬ SMd M sb M.fm
  n3 : M.me ≠ M.fm
section
variable {w w' : World} {M : YA} {sb : Nat} {T : Nat → ByteArray} {E : Nat → Vl}
theorem SYa.of {k : Nat} : SMd M sb k → SYa M sb k := by
  rintro (e | e | e | e | e)
  · exact .inl (.inr (.inr (.inl e)))
  · exact .inl (.inr (.inr (.inr (.inl (.inl e)))))
  · exact .inl (.inr (.inr (.inr (.inl (.inr e)))))
  · exact .inl (.inr (.inr (.inr (.inr e))))
  · exact .inr e
theorem EY.fr (h : EY w M sb T E) {S : Nat → Prop} (f : Fr S w w') (hS : ∀ k, SYa M sb k → ¬ S k) : EY w' M sb T E :=
  ⟨by obtain ⟨n, ho⟩ := h.obj; exact ⟨n, f.row ho (hS _ (.inl (.inl rfl)))⟩, h.cm.fr f (fun k hk => hS k (SYa.of hk)), h.mf.fr f (hS _ (.inl (.inr (.inl rfl)))), h.n1, h.n2, h.n3⟩
theorem EY.fr0 (h : EY w M sb T E) (f : Fr S0 w w') : EY w' M sb T E := h.fr f (fun _ _ e => e)
theorem EY.lt (h : EY w M sb T E) : ∀ k, SYa M sb k → k < w.heap.size := by
  obtain ⟨n, ho⟩ := h.obj
  obtain ⟨p, q, t, hm⟩ := h.mf
  rintro k ((e | e | e | (e | e) | e) | e)
  · exact e ▸ ho.lt
  · exact e ▸ hm.lt
  · exact h.cm.lt k (.inl e)
  · exact h.cm.lt k (.inr (.inl e))
  · exact h.cm.lt k (.inr (.inr (.inl e)))
  · exact h.cm.lt k (.inr (.inr (.inr (.inl e))))
  · exact h.cm.lt k (.inr (.inr (.inr (.inr e))))
theorem Row.em3 {n : Int} (h : Row w M.me 3 (emC M n)) : w.cell? ⟨M.me, 0, none⟩ = some (pt M.fm) ∧ w.cell? ⟨M.me, 1, none⟩ = some (pt M.cb) ∧ w.cell? ⟨M.me, 2, none⟩ = some (I n) ∧ w.frozen? ⟨M.me, 2, none⟩ = false :=
  ⟨h.cell 0 (by omega), h.cell 1 (by omega), h.cell 2 (by omega), h.frozen 2⟩
theorem EY.em2 (h : EY w M sb T E) : w.cell? ⟨M.me, 0, none⟩ = some (pt M.fm) ∧ w.cell? ⟨M.me, 1, none⟩ = some (pt M.cb) ∧ M.me < w.heap.size := by
  obtain ⟨n, ho⟩ := h.obj
  exact ⟨ho.em3.1, ho.em3.2.1, ho.lt⟩
theorem EY.stepF (h : EY w M sb T E) (hz : MF w' M.fm) (f : Fr (fun k => k = M.fm) w w') : EY w' M sb T E :=
  ⟨by obtain ⟨n, ho⟩ := h.obj; exact ⟨n, f.row ho h.n3⟩, h.cm.fr f (fun k hk e => h.n2 (by have e : k = M.fm := e; exact e ▸ hk)), hz, h.n1, h.n2, h.n3⟩
/-- What calcm.Set writes. -/
def SCm (M : YA) : Nat → Prop := fun k => k = M.cb ∨ MeS M.mb M.fb k ∨ k = M.rb
theorem SCm.md {k : Nat} (sb : Nat) : SCm M k → SMd M sb k := by
  rintro (e | (e | e) | e)
  · exact .inl e
  · exact .inr (.inl e)
  · exact .inr (.inr (.inl e))
  · exact .inr (.inr (.inr (.inl e)))
theorem SCm.sy {k : Nat} : SCm M k → SY M k := by
  rintro (e | e | e)
  · exact .inr (.inr (.inl e))
  · exact .inr (.inr (.inr (.inl e)))
  · exact .inr (.inr (.inr (.inr e)))
theorem EY.stepC (h : EY w M sb T E) {sb' : Nat} {T' : Nat → ByteArray} {E' : Nat → Vl} (hc : cmA w' M sb' T' E') (f : Fr (SCm M) w w') (hs : sb' = sb ∨ w.heap.size ≤ sb') : EY w' M sb' T' E' := by
  have hlt := h.lt
  have a1 := hlt M.me (.inl (.inl rfl))
  have a2 := hlt M.fm (.inl (.inr (.inl rfl)))
  have key : ∀ k, k < w.heap.size → ¬ SMd M sb k → ¬ SMd M sb' k := by
    rintro k hk hn (e | e | e | e | e)
    · exact hn (.inl e)
    · exact hn (.inr (.inl e))
    · exact hn (.inr (.inr (.inl e)))
    · exact hn (.inr (.inr (.inr (.inl e))))
    · rcases hs with hs | hs
      · exact hn (.inr (.inr (.inr (.inr (hs ▸ e)))))
      · omega
  refine ⟨?_, hc, h.mf.fr f (fun e => h.n2 (SCm.md sb e)), key _ a1 h.n1, key _ a2 h.n2, h.n3⟩
  obtain ⟨n, ho⟩ := h.obj
  exact ⟨n, f.row ho (fun e => h.n1 (SCm.md sb e))⟩
theorem mTree_any (s : ByteArray) (w : World) (h : EY w M sb T E) : Calls Tryz.prog 76 #[pt M.me, .string s] w (TrP w (fun w => MF w M.fm) (fun k => k = M.fm) s) := by
  obtain ⟨c0, -, hl⟩ := h.em2
  cases hp : isForm s
  · exact mTree_plain (fmx_model M.fm) M.me M.fm s w c0 hl h.mf hp
  · exact mTree_form (fmx_model M.fm) M.me M.fm s w c0 hl h.mf (fun w h => parseM_any M.fm (tlS s) w h) hp
theorem mText_ok {g n : Nat} {t : Tr} (ht : TreeOK t) (hn : t.nodes.length = n) (w : World) (h : EY w M sb T E) (hX : XL w g (sl g n n) t.nodes) (hg : g ≠ M.fm) (hgl : g < w.heap.size) :
    Calls Tryz.prog 78 #[pt M.me, treeV (sl g n n) t] w fun e w' => e = .returned (.string (eqS (printOf t))) ∧ MF w' M.fm ∧ Fr (fun k => k = M.fm) w w' := by
  obtain ⟨c0, -, hl⟩ := h.em2
  exact mText_any (fmx_model M.fm) M.me M.fm g n t w c0 hl h.mf hX hg hgl (fun w hz hX => printM_ok ht hn hg w hz hX) (print_len' ht)
set_option maxHeartbeats 2000000 in
theorem yRaw_any (c : Int) (w : World) (h : EY w M sb T E) : Calls Tryz.prog 42 #[pt M.me, I c] w fun e w' => e = .returned (.string (rawP T c)) ∧ w = w' := by
  have h1 := Bx.mk (cRaw_any c w h.cm)
  obtain ⟨c0, c1, hl⟩ := h.em2
  generalize rawP T c = s at *
  clear h
  go_enter Tryz.func42, Tryz.ntmps42
  go_wp2_with (first
    | (go_at_call 75; refine h1.out.mono ?_; clear h1; rintro e w1 ⟨rfl, rfl⟩))
  go_ret
  exact ⟨rfl, rfl⟩
set_option maxHeartbeats 2000000 in
theorem yValue_any (c : Int) (w : World) (h : EY w M sb T E) : Calls Tryz.prog 98 #[pt M.me, I c] w (VR w (valP E c)) := by
  have h1 := Bx.mk (cValue_any c _ (h.fr0 (fr_zero w 92)).cm)
  have hfr := Bx.mk (fr_zero w 92)
  have hz := Bx.mk (v_zero w 92 rfl)
  obtain ⟨c0, c1, hl⟩ := h.em2
  generalize valP E c = y at *
  clear h
  go_enter Tryz.func98, Tryz.ntmps98
  go_wp2_with (first
    | (go_at_call 121; refine h1.out.mono ?_; clear h1; rintro e w1 ⟨rfl, hf⟩; have hz1 := Bx.mk (hf.row0 hz.out); obtain ⟨c0, c1, c2, y0, y1, y2⟩ := hz1.out.v3))
  exact ret_vs (x := y) (p := 4) rfl rfl rfl hz1.out (hfr.out.trans hf) (Nat.le_refl _) rfl
/-- What the model's Set leaves. -/
def YSet (w : World) (M : YA) (sb : Nat) (T : Nat → ByteArray) (E : Nat → Vl) (c : Int) (s : ByteArray) : Ending → World → Prop := fun e w' => e = .returned (I (setP c s)) ∧ Fr (SY M) w w' ∧
  ((setP c s ≠ 0 ∧ EY w' M sb T E) ∨ (setP c s = 0 ∧ ∃ sb' E', w.heap.size ≤ sb' ∧ EY w' M sb' (upd T c.toNat s) E' ∧ Sheet (upd T c.toNat s) E'))
theorem yk_set (h : EY w M sb T E) (hS : Sheet T E) (c : Int) (s : ByteArray) {a w' : World} (hf : Fr (SY M) a w) : ∀ (e : Ending), CSet w M.cb M.mb M.fb M.rb sb T E c s e w' → e = .returned (I (setP c s)) ∧ Fr (SY M) a w' ∧
    ((setP c s ≠ 0 ∧ EY w' M sb T E) ∨ (setP c s = 0 ∧ ∃ sb' E', w.heap.size ≤ sb' ∧ EY w' M sb' (upd T c.toNat s) E' ∧ Sheet (upd T c.toNat s) E')) := by
  rintro e ⟨rfl, hf2, hr⟩
  have hf3 : Fr (SCm M) w w' := hf2
  refine ⟨rfl, hf.trans (hf3.mono (fun k hk => SCm.sy hk)), ?_⟩
  rcases hr with ⟨a, hk⟩ | ⟨a, sb', E', hsb, hk, hS'⟩
  · exact .inl ⟨a, h.stepC hk hf3 (.inl rfl)⟩
  · exact .inr ⟨a, sb', E', hsb, h.stepC hk hf3 (.inr hsb), hS'⟩
theorem EY.bump (h : EY w M sb T E) (v : Int) : EY (w.setCell ⟨M.me, 2, none⟩ (I v)) M sb T E := by
  have f : Fr (fun k => k = M.me) w (w.setCell ⟨M.me, 2, none⟩ (I v)) := (Fr.refl (fun k => k = M.me) w).setCell (p := ⟨M.me, 2, none⟩) (.inl rfl) _
  refine ⟨?_, h.cm.fr f (fun k hk e => h.n1 (by have e : k = M.me := e; exact e ▸ hk)), h.mf.fr f (fun e => h.n3 e.symm), h.n1, h.n2, h.n3⟩
  obtain ⟨n, ho⟩ := h.obj
  exact ⟨v, (ho.set 2 (I v)).congr (by intro i hi; rcases i with _ | _ | _ | i <;> first | rfl | omega)⟩
set_option maxHeartbeats 2000000 in
theorem ySet_any (c : Int) (s : ByteArray) (w : World) (h : EY w M sb T E) (hS : Sheet T E) : Calls Tryz.prog 37 #[pt M.me, I c, .string s] w (YSet w M sb T E c s) := by
  obtain ⟨c0, c1, hl⟩ := h.em2
  obtain ⟨n, ho⟩ := h.obj
  obtain ⟨-, -, c2, z2⟩ := ho.em3
  have hB := Bx.mk (fun v => h.bump v)
  have hF : Bx (∀ v, Fr (SY M) w (w.setCell ⟨M.me, 2, none⟩ (I v))) := ⟨fun v => (Fr.refl (SY M) w).setCell (p := ⟨M.me, 2, none⟩) (.inl (.inl rfl)) _⟩
  by_cases h40 : 40 < s.size
  · have hd : decide (40 < (s.size : Int)) = true := by simp; omega
    have hp : Bx (setP c s = 1) := ⟨by unfold setP; rw [if_pos h40]⟩
    clear h h40 ho
    go_enter Tryz.func37, Tryz.ntmps37
    go_wp2_with fail
    go_ret
    exact ⟨by rw [hp.out] <;> rfl, hF.out _, .inl ⟨by rw [hp.out]; decide, hB.out _⟩⟩
  · have hd : decide (40 < (s.size : Int)) = false := by simp; omega
    have h2 := Bx.mk (fun v => cSet_any c s _ (h.bump v).cm hS)
    have hSB := Bx.mk hS
    clear h h40 ho
    go_enter Tryz.func37, Tryz.ntmps37
    go_wp2_with (first
      | (go_at_call 72; refine (h2.out _).mono ?_; clear h2; rintro e w2 hk0; obtain ⟨rfl, hr⟩ := yk_set (hB.out _) hSB.out c s (hF.out _) e hk0; clear hk0; have hr := Bx.mk hr))
    go_ret
    obtain ⟨hf, hr⟩ := hr.out
    refine ⟨rfl, hf, ?_⟩
    rcases hr with hr | ⟨a, sb', E', hsb, hk⟩
    · exact .inl hr
    · exact .inr ⟨a, sb', E', by simpa using hsb, hk⟩
end
end Go.Proofs.Qxb6500326aGreat
