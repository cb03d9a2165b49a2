import Derived.Test.Qxb6500326aGreatV2a
import Derived.Test.Qxb6500326aGreatV2b
import Derived.Test.Qxb6500326aGreatV2c
import Derived.Test.Qxb6500326aGreatV2d
import Derived.Test.Qxb6500326aGreatV3
import Derived.Test.Qxb6500326aGreatV3a
import Derived.Test.Qxb6500326aGreatV3b
namespace Go.Proofs.Qxb6500326aGreat
set_option linter.unusedVariables false
set_option linter.unusedSimpArgs false
open Go.RowKit Go.PlainAid
/-- What a reading function with a number leaves. -/
abbrev Says (w : World) (r : Int) : Ending → World → Prop := fun e w' => e = .returned (I r) ∧ Fr S0 w w'
section
variable {L : List Nd}
theorem spanP_le (hR : refsOK L) (f : Nat) (i : Int) (arg : Bool) (h : 0 ≤ spanP L f i arg) : spanP L f i arg ≤ i := by
  obtain ⟨j, e, hs⟩ := sp_of_span hR f i arg h
  have := Sp.le _ _ _ _ hs
  omega
theorem linksP_succ (sp : Int → Bool → Int) (rg : Bool) (m : Nat) (i k : Int) : linksP sp L rg (m + 1) i k = if i < 0 ∨ (L.length : Int) ≤ i ∨ (nd L i.toNat).kind ≠ 9 ∨ (nd L i.toNat).a ≠ i - 1 then -1
    else if ndEq (nd L i.toNat) (named (nd L i.toNat)) = false then -1
    else if sp (nd L i.toNat).a rg < 0 then -1
      else if k = 1 then (if (nd L i.toNat).b ≠ -1 then -1 else sp (nd L i.toNat).a rg)
      else if (nd L i.toNat).b ≠ sp (nd L i.toNat).a rg - 1 then -1 else linksP sp L rg m (nd L i.toNat).b (k - 1) := rfl
theorem links_all (g n cap : Nat) (hn : L.length = n) (h24 : L.length ≤ 24) (hR : refsOK L) (f : Nat)
    (hs : ∀ (i : Int) (arg : Bool) (w : World), NL w (.slice (some ⟨g, 0, none⟩) n cap) L → i < f → Calls Tryz.prog 175 #[.slice (some ⟨g, 0, none⟩) n cap, I i, .bool arg] w (Says w (spanP L f i arg))) (rg : Bool) :
    ∀ (m : Nat) (i k : Int) (w : World), NL w (.slice (some ⟨g, 0, none⟩) n cap) L → i < m → i ≤ f → 1 ≤ k → k ≤ 9223372036854775807 → Calls Tryz.prog 214 #[.slice (some ⟨g, 0, none⟩) n cap, I i, I k, .bool rg] w (Says w (linksP (spanP L f) L rg m i k)) := by
  intro m
  induction m with
  | zero =>
    intro i k w h h1 h2 h3 h4
    exact links_out _ n cap i w rg k (.inl (by omega))
  | succ m ih =>
    intro i k w h h1 h2 h3 h4
    rw [linksP_succ]
    by_cases hi : i < 0 ∨ (L.length : Int) ≤ i
    · rw [if_pos (by rcases hi with h | h; exact .inl h; exact .inr (.inl h))]
      exact links_out _ n cap i w rg k (by omega)
    · obtain ⟨j, rfl⟩ := Int.eq_ofNat_of_zero_le (by omega : 0 ≤ i)
      have hj : j < L.length := by omega
      have e : ((j : Int)).toNat = j := by simp
      rw [e]
      generalize hx : nd L j = x
      by_cases hk : x.kind = 9
      · by_cases ha : x.a = (j : Int) - 1
        · rw [if_neg (by omega)]
          cases hq : ndEq x (named x)
          · rw [if_pos rfl]
            exact links_ne g n cap L j w rg k hn h hj (by omega) x hx hk ha hq
          · rw [if_neg (by decide)]
            have hrec : Bx (∀ u, NL u (.slice (some ⟨g, 0, none⟩) n cap) L → Calls Tryz.prog 175 #[.slice (some ⟨g, 0, none⟩) n cap, I x.a, .bool rg] u fun e w' => e = .returned (I (spanP L f x.a rg)) ∧ Fr S0 u w') :=
              Bx.mk (fun u hu => hs x.a rg u hu (by omega))
            have hle := spanP_le hR f x.a rg
            generalize spanP L f x.a rg = lo at *
            by_cases hlo : lo < 0
            · rw [if_pos hlo]
              exact links_lo g n cap L j w rg k hn h hj (by omega) x hx hk ha hq lo hrec hlo
            · rw [if_neg hlo]
              have := hle (by omega)
              by_cases hk1 : k = 1
              · rw [if_pos hk1]
                by_cases hb : x.b = -1
                · rw [if_neg (by omega)]
                  exact links_one g n cap L j w rg k hn h hj (by omega) x hx hk ha hq lo hrec (by omega) hk1 hb
                · rw [if_pos hb]
                  exact links_one_no g n cap L j w rg k hn h hj (by omega) x hx hk ha hq lo hrec (by omega) hk1 hb
              · rw [if_neg hk1]
                by_cases hb : x.b = lo - 1
                · rw [if_neg (by omega)]
                  exact links_more g n cap L j w rg k hn h hj (by omega) x hx hk ha hq lo hrec (by omega) (by omega) hk1 h3 h4 hb _ (Bx.mk (fun u hu => ih x.b (k - 1) u hu (by omega) (by omega) (by omega) (by omega)))
                · rw [if_pos hb]
                  exact links_more_no g n cap L j w rg k hn h hj (by omega) x hx hk ha hq lo hrec (by omega) (by omega) hk1 hb
        · rw [if_pos (.inr (.inr (.inr ha)))]
          exact links_a g n cap L j w rg k hn h hj (by omega) x hx hk ha
      · rw [if_pos (.inr (.inr (.inl hk)))]
        exact links_kind g n cap L j w rg k hn h hj (by omega) x hx hk
theorem spanP_succ (f : Nat) (i : Int) (arg : Bool) (x : Nd) (hx : nd L i.toNat = x) : spanP L (f + 1) i arg =
    if i < 0 ∨ (L.length : Int) ≤ i then -1
    else if ndEq x (named x) = false then -1
      else if x.kind = 1 then (if x.n < 0 ∨ 999999999 < x.n then -1 else i)
      else if x.kind = 2 then (if x.n < 0 ∨ 1 < x.n then -1 else i)
      else if x.kind = 3 ∨ x.kind = 5 then i
      else if x.kind = 4 then (if arg = true then i else -1)
      else if x.kind = 6 then (if x.a ≠ i - 1 then -1 else spanP L f x.a false)
      else if x.kind = 7 then
        (if x.op < 1 ∨ 10 < x.op ∨ x.b ≠ i - 1 then -1
        else if spanP L f x.b false < 0 ∨ x.a ≠ spanP L f x.b false - 1 then -1 else spanP L f x.a false)
      else if x.kind = 8 then
        (if arity x.op x.n = false ∨ x.a ≠ i - 1 then -1 else linksP (spanP L f) L (rangeOK x.op) f x.a x.n)
      else -1 := by subst hx; rfl
theorem span_all (g n cap : Nat) (hn : L.length = n) (h24 : L.length ≤ 24) (hR : refsOK L) (hNb : ∀ x ∈ L, x.n ≤ 9223372036854775807) :
    ∀ (f : Nat) (i : Int) (arg : Bool) (w : World), NL w (.slice (some ⟨g, 0, none⟩) n cap) L → i < f → Calls Tryz.prog 175 #[.slice (some ⟨g, 0, none⟩) n cap, I i, .bool arg] w (Says w (spanP L f i arg)) := by
  intro f
  induction f with
  | zero =>
    intro i arg w h h1
    exact span_out _ n cap i w arg (.inl (by omega))
  | succ f ih =>
    intro i arg w h h1
    rw [spanP_succ f i arg _ rfl]
    by_cases hi : i < 0 ∨ (L.length : Int) ≤ i
    · rw [if_pos hi]
      exact span_out _ n cap i w arg (by omega)
    · rw [if_neg hi]
      obtain ⟨j, rfl⟩ := Int.eq_ofNat_of_zero_le (by omega : 0 ≤ i)
      have hj : j < L.length := by omega
      have e : ((j : Int)).toNat = j := by simp
      rw [e]
      have hmem := nd_mem hj
      generalize hx : nd L j = x at *
      cases hq : ndEq x (named x)
      · rw [if_pos rfl]
        exact span_ne g n cap L j w arg hn h hj x hx hq
      · rw [if_neg (by decide)]
        by_cases c1 : x.kind = 1
        · rw [if_pos c1]
          by_cases d1 : x.n < 0
          · rw [if_pos (.inl d1)]; exact span_num_lo g n cap L j w arg hn h hj (by omega) x hx hq c1 d1
          · by_cases d2 : 999999999 < x.n
            · rw [if_pos (.inr d2)]; exact span_num_hi g n cap L j w arg hn h hj (by omega) x hx hq c1 (by omega) d2
            · rw [if_neg (by omega)]; exact span_num g n cap L j w arg hn h hj (by omega) x hx hq c1 (by omega) (by omega)
        rw [if_neg c1]
        by_cases c2 : x.kind = 2
        · rw [if_pos c2]
          by_cases d1 : x.n < 0
          · rw [if_pos (.inl d1)]; exact span_bool_lo g n cap L j w arg hn h hj (by omega) x hx hq c2 d1
          · by_cases d2 : 1 < x.n
            · rw [if_pos (.inr d2)]; exact span_bool_hi g n cap L j w arg hn h hj (by omega) x hx hq c2 (by omega) d2
            · rw [if_neg (by omega)]; exact span_bool g n cap L j w arg hn h hj (by omega) x hx hq c2 (by omega) (by omega)
        rw [if_neg c2]
        by_cases c3 : x.kind = 3
        · rw [if_pos (.inl c3)]; exact span_ref g n cap L j w arg hn h hj (by omega) x hx hq c3
        by_cases c5 : x.kind = 5
        · rw [if_pos (.inr c5)]; exact span_bad g n cap L j w arg hn h hj (by omega) x hx hq c5
        rw [if_neg (by omega)]
        by_cases c4 : x.kind = 4
        · rw [if_pos c4]
          cases arg with
          | true => rw [if_pos rfl]; exact span_range g n cap L j w true hn h hj (by omega) x hx hq c4 rfl
          | false => rw [if_neg (by decide)]; exact span_rangeno g n cap L j w false hn h hj (by omega) x hx hq c4 rfl
        rw [if_neg c4]
        by_cases c6 : x.kind = 6
        · rw [if_pos c6]
          by_cases ha : x.a = (j : Int) - 1
          · rw [if_neg (by omega)]
            exact span_neg g n cap L j w arg hn h hj (by omega) x hx hq c6 ha _ (Bx.mk (fun u hu => ih x.a false u hu (by omega)))
          · rw [if_pos ha]; exact span_neg_no g n cap L j w arg hn h hj (by omega) x hx hq c6 ha
        rw [if_neg c6]
        by_cases c7 : x.kind = 7
        · rw [if_pos c7]
          by_cases d1 : x.op < 1
          · rw [if_pos (.inl d1)]; exact span_bin_lo g n cap L j w arg hn h hj (by omega) x hx hq c7 d1
          by_cases d2 : 10 < x.op
          · rw [if_pos (.inr (.inl d2))]; exact span_bin_hi g n cap L j w arg hn h hj (by omega) x hx hq c7 (by omega) d2
          by_cases d3 : x.b = (j : Int) - 1
          · rw [if_neg (by omega)]
            have hrec : Bx (∀ u, NL u (.slice (some ⟨g, 0, none⟩) n cap) L → Calls Tryz.prog 175 #[.slice (some ⟨g, 0, none⟩) n cap, I x.b, .bool false] u fun e w' => e = .returned (I (spanP L f x.b false)) ∧ Fr S0 u w') :=
              Bx.mk (fun u hu => ih x.b false u hu (by omega))
            have hle := spanP_le hR f x.b false
            generalize spanP L f x.b false = lo at *
            by_cases hlo : lo < 0
            · rw [if_pos (.inl hlo)]; exact span_bin_neg g n cap L j w arg hn h hj (by omega) x hx hq c7 (by omega) (by omega) d3 lo hrec hlo
            · have := hle (by omega)
              by_cases ha : x.a = lo - 1
              · rw [if_neg (by omega)]
                exact span_bin g n cap L j w arg hn h hj (by omega) x hx hq c7 (by omega) (by omega) d3 lo hrec (by omega) (by omega) ha _ (Bx.mk (fun u hu => ih x.a false u hu (by omega)))
              · rw [if_pos (.inr ha)]
                exact span_bin_a g n cap L j w arg hn h hj (by omega) x hx hq c7 (by omega) (by omega) d3 lo hrec (by omega) (by omega) ha
          · rw [if_pos (.inr (.inr d3))]; exact span_bin_b g n cap L j w arg hn h hj (by omega) x hx hq c7 (by omega) (by omega) d3
        rw [if_neg c7]
        by_cases c8 : x.kind = 8
        · rw [if_pos c8]
          cases har : arity x.op x.n
          · rw [if_pos (.inl rfl)]; exact span_call_ar g n cap L j w arg hn h hj (by omega) x hx hq c8 har
          · by_cases ha : x.a = (j : Int) - 1
            · rw [if_neg (by simp [ha])]
              exact span_call g n cap L j w arg hn h hj (by omega) x hx hq c8 har ha _ (Bx.mk (fun u hu => links_all g n cap hn h24 hR f ih (rangeOK x.op) f x.a x.n u hu (by omega) (by omega) (arity_pos har) (hNb x hmem)))
            · rw [if_pos (.inr ha)]; exact span_call_a g n cap L j w arg hn h hj (by omega) x hx hq c8 har ha
        rw [if_neg c8]
        exact span_other g n cap L j w arg hn h hj (by omega) x hx hq (by omega)
end
end Go.Proofs.Qxb6500326aGreat
