import Derived.Test.Qxb6500331aGreatE3
namespace Go.Proofs.Qxb6500331aGreat
set_option maxRecDepth 100000
set_option linter.unusedVariables false
set_option linter.unusedSimpArgs false
open Go.RowKit Go.PlainAid

/-- What both sides answer for a text under lawful values. -/
structure Mean (s : ByteArray) (f : (Nat → Vl) → Vl) : Prop where
  lw : ∀ env, LwE env → Lw (f env)
  agree : ∀ env env', AgrE (readsP s).1 env env' → f env = f env'
  real : ∀ (V : VB) (B : FB) (w : World) (eb ec : Nat) (env : Nat → Vl), EZ w V B → Grid w eb 24 3 (fun c => vC (env c)) → ¬ VF V B eb → LwE env → Calls Tryz.prog 41 #[pt V.e, .string s, sl eb 24 ec] w (fun e w' => e = .returned (.tuple #[vV (f env), I 0]) ∧ EZ w' V B ∧ Fr (VF V B) w w')
  model : ∀ (mb fb : Nat) (w : World) (eb ec : Nat) (env : Nat → Vl), MEv w mb fb → Grid w eb 24 3 (fun c => vC (env c)) → eb ≠ mb → eb ≠ fb → LwE env → Calls Tryz.prog 23 #[pt mb, .string s, sl eb 24 ec] w (fun e w' => e = .returned (.tuple #[vV (f env), I 0]) ∧ MEv w' mb fb ∧ Fr (MeS mb fb) w w')
theorem mean_ex (s : ByteArray) (hs : s.size ≤ 40) : ∃ f, Mean s f := by
  cases hp : isForm s
  · exact ⟨fun _ => plainP s, fun _ _ => lw_plain hs, fun _ _ _ => rfl, fun V B w eb ec env h hG hb hok => cellV_plain V B s w h eb ec env hs hG hb hok hp, fun mb fb w eb ec env h hG h1 h2 hok => cellM_plain mb fb eb ec env s w h hs hG h1 h2 hok hp⟩
  · rcases parse_law (bt (tlS s)) (tlS s).size with ⟨e0, hto, -⟩ | ⟨e0, -⟩
    · have e0 : (tlT s).err = 0 := e0
      have hto : TreeOK (tlT s) := hto
      obtain ⟨pre, val, hS⟩ := tree_sub hto
      have h1 := hto.one
      refine ⟨val, hS.lw, fun env env' ha => hS.agree env env' ?_, fun V B w eb ec env h hG hb hok => cellV_form V B s w h eb ec env hs hG hb hok hp _ (.inr ⟨e0, hto, pre, val, hS, rfl⟩), fun mb fb w eb ec env h hG h1 h2 hok => cellM_form mb fb eb ec env s w h hs hG h1 h2 hok hp _ (.inr ⟨e0, hto, hS.wo env hok⟩)⟩
      have : (readsP s).1 = rdS (tlT s).nodes 0 (tlT s).nodes.length := by unfold readsP; rw [if_neg (by omega), if_pos hp]
      rw [this] at ha
      rw [show (tlT s).nodes.length - 1 + 1 - 0 = (tlT s).nodes.length from by omega]
      exact ha
    · have e0 : (tlT s).err ≠ 0 := e0
      exact ⟨fun _ => vErr 1, fun _ _ => .err _ (by decide) (by decide), fun _ _ _ => rfl, fun V B w eb ec env h hG hb hok => cellV_form V B s w h eb ec env hs hG hb hok hp _ (.inl ⟨e0, rfl⟩), fun mb fb w eb ec env h hG h1 h2 hok => cellM_form mb fb eb ec env s w h hs hG h1 h2 hok hp _ (.inl ⟨e0, rfl⟩)⟩
open Classical in
noncomputable def mf (s : ByteArray) : (Nat → Vl) → Vl := if h : s.size ≤ 40 then Classical.choose (mean_ex s h) else fun _ => v0
theorem mf_mean {s : ByteArray} (h : s.size ≤ 40) : Mean s (mf s) := by
  unfold mf; rw [dif_pos h]; exact Classical.choose_spec (mean_ex s h)
open Classical in
noncomputable def cellP (s : ByteArray) (n : Nat) (env : Nat → Vl) : Vl × Int := if 40 < s.size then (v0, 1) else if n = 24 ∧ LwE env then (mf s env, 0) else (v0, 10)
/-- A copy: nil, or a block of its own. -/
def cpV (n g : Nat) : Value := if n = 0 then .slice none 0 0 else sl g n n
theorem cellV_any (V : VB) (B : FB) (s : ByteArray) (n g : Nat) (env : Nat → Vl) (w : World) (h : EZ w V B) (hE : n ≠ 0 → EL w g n env ∧ ¬ VF V B g) : Calls Tryz.prog 41 #[pt V.e, .string s, cpV n g] w fun e w' => e = .returned (.tuple #[vV (cellP s n env).1, I (cellP s n env).2]) ∧ EZ w' V B ∧ Fr (VF V B) w w' := by
  unfold cellP
  by_cases h1 : 40 < s.size
  · rw [if_pos h1]; exact cellV_long V B s w h _ h1
  rw [if_neg h1]
  by_cases hn : n = 24
  · subst hn
    obtain ⟨hG, hb⟩ := hE (by omega)
    by_cases hok : LwE env
    · rw [if_pos ⟨rfl, hok⟩]; exact (mf_mean (by omega)).real V B w g 24 env h hG hb hok
    · rw [if_neg (fun e => hok e.2)]; exact cellV_env V B s w h g 24 env (by omega) hG hb hok
  · rw [if_neg (fun e => hn e.1)]
    unfold cpV
    split
    · exact cellV_len V B s w h none 0 0 (by omega) (by omega)
    · exact cellV_len V B s w h _ n n (by omega) hn
theorem cellM_any (mb fb : Nat) (s : ByteArray) (n g : Nat) (env : Nat → Vl) (w : World) (h : MEv w mb fb) (hE : n ≠ 0 → EL w g n env ∧ ¬ MeS mb fb g) : Calls Tryz.prog 23 #[pt mb, .string s, cpV n g] w fun e w' => e = .returned (.tuple #[vV (cellP s n env).1, I (cellP s n env).2]) ∧ MEv w' mb fb ∧ Fr (MeS mb fb) w w' := by
  unfold cellP
  by_cases h1 : 40 < s.size
  · rw [if_pos h1]; exact cellM_long mb fb s _ w h h1
  rw [if_neg h1]
  by_cases hn : n = 24
  · subst hn
    obtain ⟨hG, hb⟩ := hE (by omega)
    have hb1 : g ≠ mb := fun e => hb (.inl e)
    have hb2 : g ≠ fb := fun e => hb (.inr e)
    by_cases hok : LwE env
    · rw [if_pos ⟨rfl, hok⟩]; exact (mf_mean (by omega)).model mb fb w g 24 env h hG hb1 hb2 hok
    · rw [if_neg (fun e => hok e.2)]; exact cellM_env mb fb g 24 env s w h (by omega) hG hb1 hb2 hok
  · rw [if_neg (fun e => hn e.1)]
    unfold cpV
    split
    · exact cellM_len mb fb s none 0 0 w h (by omega) (by omega)
    · exact cellM_len mb fb s _ n n w h (by omega) hn
end Go.Proofs.Qxb6500331aGreat
