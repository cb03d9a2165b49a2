import Derived.Test.Qxb6500329aL7
import Derived.Test.Qxb6500329aQ4
namespace Go.Proofs.Qxb6500329a
set_option linter.unusedVariables false
set_option linter.unusedSimpArgs false
open Go.RowKit Go.PlainAid
theorem at_of_get {b : Nat → Int} {n : Nat} : ∀ (w : List Int) (p : Nat), (∀ j x, w[j]? = some x → b (p + j) = x) → p + w.length ≤ n → At b n p w
  | [], p, h, hn => by show p ≤ n; simpa using hn
  | c :: w, p, h, hn => by
    refine ⟨by simp at hn; omega, by have := h 0 c rfl; simpa using this, at_of_get w (p + 1) (fun j x hx => ?_) (by simp at hn; omega)⟩
    have := h (j + 1) x (by simpa using hx)
    rw [show p + 1 + j = p + (j + 1) from by omega]
    exact this
theorem bt_bs {L : List Int} (hL : ∀ c ∈ L, 0 ≤ c ∧ c ≤ 255) : ∀ j x, L[j]? = some x → bt (bs L) (0 + j) = x := by
  intro j x hx
  have hj : j < L.length := by
    apply Classical.byContradiction
    intro c; rw [List.getElem?_eq_none (by omega)] at hx; cases hx
  have h1 := bt_lst (bs L) j (by rw [bs_size]; exact hj)
  rw [lst_bs hL, hx] at h1
  rw [Nat.zero_add]
  exact (Option.some.inj h1).symm
section
variable {L : List Nd}
def Byt (w : List Int) : Prop := ∀ c ∈ w, 0 ≤ c ∧ c ≤ 255
theorem Byt.app {u v : List Int} (h : Byt u) (k : Byt v) : Byt (u ++ v) := by
  intro c hc; rw [List.mem_append] at hc; exact hc.elim (h c) (k c)
theorem Byt.cons {c : Int} {v : List Int} (h : 0 ≤ c ∧ c ≤ 255) (k : Byt v) : Byt (c :: v) := by
  intro d hd; rw [List.mem_cons] at hd; rcases hd with rfl | hd; exact h; exact k d hd
theorem byt_nil : Byt [] := fun c hc => by cases hc
theorem byt_dec {v : Int} (h0 : 0 ≤ v) (h : v ≤ 999999999) : Byt (dec v) := fun c hc => by
  have := (dec_digits h0 h).2.1 c hc
  rw [isDig_iff] at this; omega
theorem byt_ref {r : Ref} (h : refIn r) : Byt (refTxt r) := by
  obtain ⟨h1, h2, h3, h4⟩ := h
  unfold refTxt
  have hd := byt_dec (v := r.row + 1) (by omega) (by omega)
  refine Byt.app ?_ (Byt.cons (by omega) (Byt.app ?_ hd))
  · split
    · exact Byt.cons (by decide) byt_nil
    · exact byt_nil
  · split
    · exact Byt.cons (by decide) byt_nil
    · exact byt_nil
theorem byt_leaf {x : Nd} {arg : Bool} (h : Leaf x arg) : Byt (leafTxt x) := by
  rcases h with ⟨v, e, h1, h2⟩ | e | e | ⟨r, e, hr⟩ | e | ⟨_, r, s, e, hr, hs⟩ <;> rw [e]
  · exact byt_dec h1 h2
  · show Byt wFalse; intro c hc; simp [wFalse] at hc; omega
  · show Byt wTrue; intro c hc; simp [wTrue] at hc; omega
  · exact byt_ref hr
  · show Byt [35, 35]; intro c hc; simp at hc; omega
  · show Byt (refTxt r ++ 58 :: refTxt s); exact (byt_ref hr).app ((byt_ref hs).cons (by decide))
theorem byt_bracket {lv need : Int} {w : List Int} (h : Byt w) : Byt (bracket lv need w) := by
  unfold bracket
  split
  · exact (h.app (byt_nil.cons (by decide))).cons (by decide)
  · exact h
theorem byt_op (op : Int) : Byt (opTxt op) := by
  unfold opTxt
  repeat' split
  all_goals (intro c hc; simp at hc; omega)
theorem lk_byt {f : Nat} {rg : Bool} (hS : ∀ i lo a need, need ≤ 5 → Sp L f i lo a → Byt (tx L i need)) :
    ∀ (k i lo : Nat), Lk (Sp L f) L rg k i lo → Byt (axt L i)
  | 0, _, _, h => h.elim
  | k + 1, i, lo, h => by
    obtain ⟨a1, a2, m, h3, h4⟩ := h
    have h5 := hS _ _ _ 1 (by decide) h3
    rcases h4 with ⟨_, e, el⟩ | ⟨_, hm, e, d⟩
    · rw [axt_one a1 e]; exact h5
    · rw [axt_more a1 hm (Sp.le _ _ _ _ h3) e d]
      exact (lk_byt hS k _ _ d).app (h5.cons (by decide))
theorem sp_byt : ∀ (f i lo : Nat) (a : Bool) (need : Int), need ≤ 5 → Sp L f i lo a → Byt (tx L i need)
  | 0, _, _, _, _, _, h => h.elim
  | f + 1, i, lo, a, need, hn, h => by
    obtain ⟨h0, h⟩ := h
    rcases h with ⟨e, hl⟩ | ⟨a1, a2, a3⟩ | ⟨op, m, a1, a2, a3, a4, a5, a6, a7⟩ | ⟨op, k, a1, a2, a3, a4⟩
    · rw [tx_leaf hl hn]; exact byt_leaf hl
    · rw [tx_neg a1 a2]; exact byt_bracket ((sp_byt f _ _ _ 4 (by decide) a3).cons (by decide))
    · have hl5 : leftNeed (level (nd L i)) ≤ 5 ∧ level (nd L i) + 1 ≤ 5 := by
        rw [a5]; exact bin_need _ _ _
      rw [tx_bin a3 a4 a5 a6 a7]
      exact byt_bracket (((sp_byt f _ _ _ _ hl5.1 a7).app (byt_op op)).app (sp_byt f _ _ _ _ hl5.2 a6))
    · rw [tx_call a1 a2 a4 hn]
      exact Byt.app (fnName_bytes op) (((lk_byt (sp_byt f) _ _ _ a4).app (byt_nil.cons (by decide))).cons (by decide))
end
/-- The printed text read again. -/
theorem round_bs {t : Tr} (h : TreeOK t) : parseM (bt (bs (printOf t))) (bs (printOf t)).size = if (printOf t).length ≤ 40 then t else ⟨[], -1, 1, 0⟩ := by
  have hb : Byt (printOf t) := sp_byt _ _ _ _ 1 (by decide) h.sp
  split
  · rename_i h40
    exact round_trip h (at_of_get _ _ (bt_bs hb) (by rw [bs_size]; omega)) (bs_size _) (by rw [bs_size]; exact h40)
  · rename_i h40
    unfold parseM
    rw [if_pos (by rw [bs_size]; omega)]
theorem prT_ok {t : Tr} (h : TreeOK t) : prT t = (printOf t, 0) := by
  unfold prT; rw [if_neg (by have := h.max; omega), if_pos ((tokB_iff t).2 h)]
theorem prT_zero {t : Tr} (h : (prT t).2 = 0) : TreeOK t ∧ prT t = (printOf t, 0) := by
  unfold prT at h
  split at h
  · cases h
  · split at h
    · rename_i h1 h2; exact ⟨(tokB_iff t).1 h2, prT_ok ((tokB_iff t).1 h2)⟩
    · cases h
theorem print_len {t : Tr} (h : TreeOK t) : (printOf t).length ≤ 264 := by
  have h1 := sp_len (L := t.nodes) _ _ _ _ 1 (by decide) h.sp
  have := h.max
  have := h.one
  unfold printOf
  omega
set_option maxRecDepth 100000 in
set_option maxHeartbeats 2000000 in
theorem roundtrip_any (B : FB) (fb d K S : Nat) (Z : Nat → Prop) (s : ByteArray) (v : Value) (t : Tr) (ct : Nat) (uv : Value) (u : Tr) (n : Nat) (w : World) (h : DS w B fb d K S Z s v t ct) (hz : FZ w B) (hlow : Low B fb d K S w.heap.size) (hZ : ∀ k, Z k → k < w.heap.size) (hct : ct < 2 ^ 59)
    (hu : NL w uv u.nodes) (huv : ∀ k, uv.ownBlock = some k → ¬ Pk B d K S k) (hT : TreeOK u) (hn : (printOf u).length ≤ n) (hn40 : n ≤ 40) :
    Calls Try.prog 51 #[pt B.f, pt d, treeV uv u, I n] w (AgainP w B fb d K S s v t (ct + 2) (ct + 2)) := by
  have hmx := hT.max
  have hT0 := tr_new w uv u.root u.err u.pos rfl
  have hpa := printed_any B fb d K S Z s v t ct uv u (w.alloc (.cells #[uv, I u.root, I u.err, I u.pos] 34)) (h.fr0 ((Fr.refl _ _).alloc _)) (hz.fr0 ((Fr.refl _ _).alloc _)) (hlow.mono (by simp)) (fun k hk => by have := hZ k hk; simp; omega) (by omega) (hu.fr0 ((Fr.refl _ _).alloc _)) (by omega) hT.numOK huv
  unfold PrintedP at hpa
  rw [prT_ok hT] at hpa
  have hrb := round_bs hT
  rw [if_pos (by omega)] at hrb
  have hag := Bx.mk (fun wx (hD : DS wx B fb d K S (fun k => k < wx.heap.size) s v t (ct + 1)) (hzx : FZ wx B) (hf : Fr (Pk B d K S) w wx) => again_any B fb d K S (fun k => k < wx.heap.size) s v t (ct + 1) (bs (printOf u)) uv u wx hD hzx (hlow.mono hf.size) (fun k hk => hk) (by omega) (hu.fr hf huv) huv hrb)
  obtain ⟨a, c, rfl⟩ := hu.slice
  have hwu : Bx (¬ Pk B d K S w.heap.size) := Bx.mk (by
    rintro (e | e | e | e)
    · have := hlow.B _ e; omega
    · have := hlow.d; omega
    · have := hlow.K; omega
    · have := hlow.S; omega)
  have hps := bs_size (printOf u)
  have hpB := Bx.mk hpa
  have hTB := Bx.mk hT0
  clear hu h hz hpa hT0 huv hZ hlow hrb hT hmx
  generalize printOf u = P at *
  obtain ⟨L, root, err, pos⟩ := u
  simp only at *
  generalize L.length = m at *
  have dn : decide ((n : Int) < ((bs P).size : Int)) = false := decide_eq_false (by omega)
  have dn2 : decide (n < (bs P).size) = false := decide_eq_false (by omega)
  clear hps
  go_enter Try.func51, Try.ntmps51
  go_wp2_with (first
    | (go_at_call 52; refine hpB.out.mono ?_; clear hpB; rintro e w1 ⟨rfl, hD1, hz1, hf1⟩; have hD1B := Bx.mk hD1; have hz1B := Bx.mk hz1; have hT1 := Bx.mk (hf1.row hTB.out hwu.out); have t0 := hT1.out.cell 0 (by omega); have t1 := hT1.out.cell 1 (by omega); have t2 := hT1.out.cell 2 (by omega); have t3 := hT1.out.cell 3 (by omega); simp only [trC] at t0 t1 t2 t3; clear hD1 hz1)
    | (go_at_call 55; refine (hag.out _ hD1B.out hz1B.out (((Fr.refl _ _).alloc _).trans hf1)).mono ?_; clear hag; rintro e w2 ⟨rfl, hD2, hz2, hf2⟩))
  go_ret
  exact ⟨rfl, hD2, hz2, (((Fr.refl _ _).alloc _).trans hf1).trans hf2⟩
end Go.Proofs.Qxb6500329a
