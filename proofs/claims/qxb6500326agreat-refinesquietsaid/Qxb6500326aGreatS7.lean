/-
  DERIVED. THE PLAIN LAW OF LAYER edit, 7: what a tree is worth, as a function.
-/
import Derived.Test.Qxb6500326aGreatS6
namespace Go.Proofs.Qxb6500326aGreat
set_option linter.unusedVariables false
set_option linter.unusedSimpArgs false

/-- The links up to b go into a fold. -/
def fdW (L : List Nd) (env : Nat → Vl) (ev : Nat → Vl) (op : Int) : Nat → Int → Fd
  | 0, _ => fd0
  | m + 1, b =>
    if b < 0 then fd0
    else if (nd L (nd L b.toNat).a.toNat).kind = 4 then
      (if blockOK (nd L (nd L b.toNat).a.toNat).r1 (nd L (nd L b.toNat).a.toNat).r2 = true then
        sweepM op (blockS (nd L (nd L b.toNat).a.toNat).r1 (nd L (nd L b.toNat).a.toNat).r2) env 0 24 (fdW L env ev op m (nd L b.toNat).b)
       else takeM (fdW L env ev op m (nd L b.toNat).b) op (vErr 2) true)
    else takeM (fdW L env ev op m (nd L b.toNat).b) op (ev (nd L b.toNat).a.toNat) false
/-- The value of node i. -/
def evV (L : List Nd) (env : Nat → Vl) : Nat → Nat → Vl
  | 0, _ => v0
  | f + 1, i =>
    if (nd L i).kind = 1 then vInt (nd L i).n
    else if (nd L i).kind = 2 then ⟨3, (nd L i).n, es⟩
    else if (nd L i).kind = 3 then (if inGrid (nd L i).r1 = true then env (cellOf (nd L i).r1).toNat else vErr 2)
    else if (nd L i).kind = 6 then unaryP 0 (evV L env f (nd L i).a.toNat)
    else if (nd L i).kind = 7 then binP (nd L i).op (evV L env f (nd L i).a.toNat) (evV L env f (nd L i).b.toNat)
    else if (nd L i).kind = 8 then
      (if (nd L i).op = 5 then
        chooseP (evV L env f (nd L (nd L (nd L (nd L i).a.toNat).b.toNat).b.toNat).a.toNat) (evV L env f (nd L (nd L (nd L i).a.toNat).b.toNat).a.toNat) (evV L env f (nd L (nd L i).a.toNat).a.toNat)
       else if (nd L i).op = 8 ∨ (nd L i).op = 9 ∨ (nd L i).op = 10 then unaryP (nd L i).op (evV L env f (nd L (nd L i).a.toNat).a.toNat)
       else foldedM (fdW L env (evV L env f) (nd L i).op i (nd L i).a) (nd L i).op)
    else vErr 2
theorem wo_ev {L : List Nd} {env : Nat → Vl} {i : Nat} {x : Vl} (h : Wo L env i x) : ∀ f, i < f → evV L env f i = x := by
  refine Wo.rec (L := L) (env := env) (motive_1 := fun i x _ => ∀ f, i < f → evV L env f i = x) (motive_2 := fun op m b s _ => ∀ (f n : Nat), b < f → b < n → fdW L env (evV L env f) op n b = s) ?_ ?_ ?_ ?_ ?_ ?_ ?_ ?_ ?_ ?_ ?_ ?_ ?_ ?_ h
  · intro i v hi h f hf
    obtain ⟨f, rfl⟩ : ∃ g, f = g + 1 := ⟨f - 1, by omega⟩
    unfold evV; rw [h, if_pos (by rfl)]; rfl
  · intro i v hi h f hf
    obtain ⟨f, rfl⟩ : ∃ g, f = g + 1 := ⟨f - 1, by omega⟩
    unfold evV; rw [h, if_neg (by show ¬ (2 : Int) = 1; decide), if_pos (by rfl)]; rfl
  · intro i hi h f hf
    obtain ⟨f, rfl⟩ : ∃ g, f = g + 1 := ⟨f - 1, by omega⟩
    unfold evV; rw [h, if_neg (by decide), if_neg (by decide), if_neg (by decide), if_neg (by decide), if_neg (by decide), if_neg (by decide)]
  · intro i r hi h hg f hf
    obtain ⟨f, rfl⟩ : ∃ g, f = g + 1 := ⟨f - 1, by omega⟩
    unfold evV; rw [h, if_neg (by show ¬ (3 : Int) = 1; decide), if_neg (by show ¬ (3 : Int) = 2; decide), if_pos (by rfl), if_neg (by rw [show (nRef r).r1 = r from rfl, hg]; simp)]
  · intro i r hi h hg f hf
    obtain ⟨f, rfl⟩ : ∃ g, f = g + 1 := ⟨f - 1, by omega⟩
    unfold evV; rw [h, if_neg (by show ¬ (3 : Int) = 1; decide), if_neg (by show ¬ (3 : Int) = 2; decide), if_pos (by rfl), if_pos (show inGrid (nRef r).r1 = true from hg)]; rfl
  · intro i v hi h hv lv ih f hf
    obtain ⟨f, rfl⟩ : ∃ g, f = g + 1 := ⟨f - 1, by omega⟩
    unfold evV
    rw [h, if_neg (by show ¬ (6 : Int) = 1; decide), if_neg (by show ¬ (6 : Int) = 2; decide), if_neg (by show ¬ (6 : Int) = 3; decide), if_pos (by rfl)]
    show unaryP 0 (evV L env f ((i : Int)).toNat) = _
    rw [show ((i : Int)).toNat = i from by omega, ih f (by omega)]
  · intro i m op x y hi ho h hm hx hy lx ly ihx ihy f hf
    obtain ⟨f, rfl⟩ : ∃ g, f = g + 1 := ⟨f - 1, by omega⟩
    unfold evV
    rw [h, if_neg (by show ¬ (7 : Int) = 1; decide), if_neg (by show ¬ (7 : Int) = 2; decide), if_neg (by show ¬ (7 : Int) = 3; decide), if_neg (by show ¬ (7 : Int) = 6; decide), if_pos (by rfl)]
    show binP op (evV L env f ((m : Int)).toNat) (evV L env f ((i : Int)).toNat) = _
    rw [show ((i : Int)).toNat = i from by omega, show ((m : Int)).toNat = m from by omega, ihx f (by omega), ihy f (by omega)]
  · intro i j1 j2 j3 k c x y hi h h3 h2 h1 l1 l2 l3 hc hx hy lc lx ly ihc ihx ihy f hf
    obtain ⟨f, rfl⟩ : ∃ g, f = g + 1 := ⟨f - 1, by omega⟩
    unfold evV
    rw [h, if_neg (by show ¬ (8 : Int) = 1; decide), if_neg (by show ¬ (8 : Int) = 2; decide), if_neg (by show ¬ (8 : Int) = 3; decide), if_neg (by show ¬ (8 : Int) = 6; decide), if_neg (by show ¬ (8 : Int) = 7; decide), if_pos (by rfl), if_pos (by rfl)]
    have e3 : ((nCall 5 ((j3 + 1 : Nat) : Int) k).a).toNat = j3 + 1 := by show (((j3 + 1 : Nat) : Int)).toNat = _; omega
    rw [e3, h3]
    have e2 : ((nArg (j3 : Int) ((j2 + 1 : Nat) : Int)).b).toNat = j2 + 1 := by show (((j2 + 1 : Nat) : Int)).toNat = _; omega
    have e3a : ((nArg (j3 : Int) ((j2 + 1 : Nat) : Int)).a).toNat = j3 := by show ((j3 : Int)).toNat = _; omega
    rw [e2, h2, e3a]
    have e1 : ((nArg (j2 : Int) ((j1 + 1 : Nat) : Int)).b).toNat = j1 + 1 := by show (((j1 + 1 : Nat) : Int)).toNat = _; omega
    have e2a : ((nArg (j2 : Int) ((j1 + 1 : Nat) : Int)).a).toNat = j2 := by show ((j2 : Int)).toNat = _; omega
    rw [e1, h1, e2a]
    have e1a : ((nArg (j1 : Int) (-1)).a).toNat = j1 := by show ((j1 : Int)).toNat = _; omega
    rw [e1a, ihc f (by omega), ihx f (by omega), ihy f (by omega)]
  · intro i j op k v hi ho h h1 l1 hv lv ih f hf
    obtain ⟨f, rfl⟩ : ∃ g, f = g + 1 := ⟨f - 1, by omega⟩
    unfold evV
    rw [h, if_neg (by show ¬ (8 : Int) = 1; decide), if_neg (by show ¬ (8 : Int) = 2; decide), if_neg (by show ¬ (8 : Int) = 3; decide), if_neg (by show ¬ (8 : Int) = 6; decide), if_neg (by show ¬ (8 : Int) = 7; decide), if_pos (by rfl), if_neg (by show ¬ op = 5; omega), if_pos (show (nCall op ((j + 1 : Nat) : Int) k).op = 8 ∨ (nCall op ((j + 1 : Nat) : Int) k).op = 9 ∨ (nCall op ((j + 1 : Nat) : Int) k).op = 10 from ho)]
    have e3 : ((nCall op ((j + 1 : Nat) : Int) k).a).toNat = j + 1 := by show (((j + 1 : Nat) : Int)).toNat = _; omega
    have e1a : ((nArg (j : Int) (-1)).a).toNat = j := by show ((j : Int)).toNat = _; omega
    rw [e3, h1, e1a, ih f (by omega)]
    rfl
  · intro i op k m s hi ho h hs hm ih f hf
    obtain ⟨f, rfl⟩ : ∃ g, f = g + 1 := ⟨f - 1, by omega⟩
    unfold evV
    rw [h, if_neg (by show ¬ (8 : Int) = 1; decide), if_neg (by show ¬ (8 : Int) = 2; decide), if_neg (by show ¬ (8 : Int) = 3; decide), if_neg (by show ¬ (8 : Int) = 6; decide), if_neg (by show ¬ (8 : Int) = 7; decide), if_pos (by rfl), if_neg (by show ¬ op = 5; omega), if_neg (by show ¬ (op = 8 ∨ op = 9 ∨ op = 10); omega)]
    show foldedM (fdW L env (evV L env f) op (i + 1) (i : Int)) op = _
    rw [ih f (i + 1) (by omega) (by omega)]
  · intro op f n hf hn
    cases n <;> simp [fdW]
  · intro op m i b s v hi h hb hs fs hk hv lv ih ihv f n hf hn
    obtain ⟨n, rfl⟩ : ∃ g, n = g + 1 := ⟨n - 1, by omega⟩
    unfold fdW
    rw [if_neg (by omega), show (((i + 1 : Nat) : Int)).toNat = i + 1 from by omega, h]
    have ea : ((nArg (i : Int) b).a).toNat = i := by show ((i : Int)).toNat = _; omega
    rw [ea, if_neg hk, ihv f (by omega)]
    show takeM (fdW L env (evV L env f) op n b) op v false = _
    rw [ih f n (by omega) (by omega)]
  · intro op m i b s p q hi h hb hs fs hk ho ih f n hf hn
    obtain ⟨n, rfl⟩ : ∃ g, n = g + 1 := ⟨n - 1, by omega⟩
    unfold fdW
    rw [if_neg (by omega), show (((i + 1 : Nat) : Int)).toNat = i + 1 from by omega, h]
    have ea : ((nArg (i : Int) b).a).toNat = i := by show ((i : Int)).toNat = _; omega
    rw [ea, hk, if_pos (by rfl), if_neg (by rw [show (nRange p q).r1 = p from rfl, show (nRange p q).r2 = q from rfl, ho]; simp)]
    show takeM (fdW L env (evV L env f) op n b) op (vErr 2) true = _
    rw [ih f n (by omega) (by omega)]
  · intro op m i b s p q hi h hb hs fs hk ho ih f n hf hn
    obtain ⟨n, rfl⟩ : ∃ g, n = g + 1 := ⟨n - 1, by omega⟩
    unfold fdW
    rw [if_neg (by omega), show (((i + 1 : Nat) : Int)).toNat = i + 1 from by omega, h]
    have ea : ((nArg (i : Int) b).a).toNat = i := by show ((i : Int)).toNat = _; omega
    rw [ea, hk, if_pos (by rfl), if_pos (show blockOK (nRange p q).r1 (nRange p q).r2 = true from ho)]
    show sweepM op (blockS p q) env 0 24 (fdW L env (evV L env f) op n b) = _
    rw [ih f n (by omega) (by omega)]
end Go.Proofs.Qxb6500326aGreat
