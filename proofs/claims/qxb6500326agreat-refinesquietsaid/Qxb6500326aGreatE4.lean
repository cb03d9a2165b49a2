import Derived.Test.Qxb6500326aGreatE3
namespace Go.Proofs.Qxb6500326aGreat
set_option maxRecDepth 100000
set_option linter.unusedVariables false
set_option linter.unusedSimpArgs false
open Go.RowKit Go.PlainAid

/-- What both sides answer for a text under lawful values. -/
structure Mean (s : ByteArray) (f : (Nat → Vl) → Vl) : Prop where
  lw : ∀ env, LwE env → Lw (f env)
  agree : ∀ env env', AgrE (readsP s).1 env env' → f env = f env'
  plain : isForm s = false → ∀ env, f env = plainP s
  wo : isForm s = true → (tlT s).err = 0 → TreeOK (tlT s) ∧ ∀ env, LwE env → Wo (tlT s).nodes env ((tlT s).nodes.length - 1) (f env)
  syn : isForm s = true → (tlT s).err ≠ 0 → ∀ env, f env = vErr 1
  real : ∀ (V : VB) (B : FB) (w : World) (eb ec : Nat) (env : Nat → Vl), EZ w V B → Grid w eb 24 3 (fun c => vC (env c)) → ¬ VF V B eb → LwE env → Calls Tryz.prog 158 #[pt V.e, .string s, sl eb 24 ec] w (fun e w' => e = .returned (.tuple #[vV (f env), I 0]) ∧ EZ w' V B ∧ Fr (VF V B) w w')
  model : ∀ (mb fb : Nat) (w : World) (eb ec : Nat) (env : Nat → Vl), MEv w mb fb → Grid w eb 24 3 (fun c => vC (env c)) → eb ≠ mb → eb ≠ fb → LwE env → Calls Tryz.prog 141 #[pt mb, .string s, sl eb 24 ec] w (fun e w' => e = .returned (.tuple #[vV (f env), I 0]) ∧ MEv w' mb fb ∧ Fr (MeS mb fb) w w')
theorem mean_ex (s : ByteArray) (hs : s.size ≤ 40) : ∃ f, Mean s f := by
  cases hp : isForm s
  · exact ⟨fun _ => plainP s, fun _ _ => lw_plain hs, fun _ _ _ => rfl, fun _ _ => rfl, fun h => (by rw [hp] at h; cases h), fun h => (by rw [hp] at h; cases h), fun V B w eb ec env h hG hb hok => cellV_plain V B s w h eb ec env hs hG hb hok hp, fun mb fb w eb ec env h hG h1 h2 hok => cellM_plain mb fb eb ec env s w h hs hG h1 h2 hok hp⟩
  · rcases parse_law (bt (tlS s)) (tlS s).size with ⟨e0, hto, -⟩ | ⟨e0, -⟩
    · have e0 : (tlT s).err = 0 := e0
      have hto : TreeOK (tlT s) := hto
      obtain ⟨pre, val, hS⟩ := tree_sub hto
      have h1 := hto.one
      refine ⟨val, hS.lw, fun env env' ha => hS.agree env env' ?_, fun h => (by rw [hp] at h; cases h), fun _ _ => ⟨hto, fun env hok => hS.wo env hok⟩, fun _ h => absurd e0 h, fun V B w eb ec env h hG hb hok => cellV_form V B s w h eb ec env hs hG hb hok hp _ (.inr ⟨e0, hto, pre, val, hS, rfl⟩), fun mb fb w eb ec env h hG h1 h2 hok => cellM_form mb fb eb ec env s w h hs hG h1 h2 hok hp _ (.inr ⟨e0, hto, hS.wo env hok⟩)⟩
      have : (readsP s).1 = rdS (tlT s).nodes 0 (tlT s).nodes.length := by unfold readsP; rw [if_neg (by omega), if_pos hp]
      rw [this] at ha
      rw [show (tlT s).nodes.length - 1 + 1 - 0 = (tlT s).nodes.length from by omega]
      exact ha
    · have e0 : (tlT s).err ≠ 0 := e0
      exact ⟨fun _ => vErr 1, fun _ _ => .err _ (by decide) (by decide), fun _ _ _ => rfl, fun h => (by rw [hp] at h; cases h), fun _ h => absurd h e0, fun _ _ _ => rfl, fun V B w eb ec env h hG hb hok => cellV_form V B s w h eb ec env hs hG hb hok hp _ (.inl ⟨e0, rfl⟩), fun mb fb w eb ec env h hG h1 h2 hok => cellM_form mb fb eb ec env s w h hs hG h1 h2 hok hp _ (.inl ⟨e0, rfl⟩)⟩
open Classical in
noncomputable def mf (s : ByteArray) : (Nat → Vl) → Vl := if h : s.size ≤ 40 then Classical.choose (mean_ex s h) else fun _ => v0
theorem mf_mean {s : ByteArray} (h : s.size ≤ 40) : Mean s (mf s) := by
  unfold mf; rw [dif_pos h]; exact Classical.choose_spec (mean_ex s h)
end Go.Proofs.Qxb6500326aGreat
