import Derived.Test.Qxb6500331aGreatH2
namespace Go.Proofs.Qxb6500331aGreat
set_option maxRecDepth 100000
set_option linter.unusedVariables false
set_option linter.unusedSimpArgs false
open Go.RowKit Go.PlainAid

structure OpAt (w : World) (b o : Nat) (kd A Bv C : Int) (S T : ByteArray) : Prop where
  c0 : w.cell? ⟨b, o, none⟩ = some (.int .i64 kd)
  c1 : w.cell? ⟨b, o + 1, none⟩ = some (.int .i64 A)
  c2 : w.cell? ⟨b, o + 2, none⟩ = some (.int .i64 Bv)
  c3 : w.cell? ⟨b, o + 3, none⟩ = some (.int .i64 C)
  c4 : w.cell? ⟨b, o + 4, none⟩ = some (.string S)
  c5 : w.cell? ⟨b, o + 5, none⟩ = some (.string T)
theorem OpAt.fr {Q : Nat → Prop} {w w' : World} {b o : Nat} {kd A Bv C : Int} {S T : ByteArray} (h : OpAt w b o kd A Bv C S T) (f : Fr Q w w') (hb : b < w.heap.size) (hq : ¬ Q b) : OpAt w' b o kd A Bv C S T :=
  ⟨(f.cell (a := ⟨b, o, none⟩) hb hq).trans h.c0, (f.cell (a := ⟨b, o + 1, none⟩) hb hq).trans h.c1, (f.cell (a := ⟨b, o + 2, none⟩) hb hq).trans h.c2, (f.cell (a := ⟨b, o + 3, none⟩) hb hq).trans h.c3, (f.cell (a := ⟨b, o + 4, none⟩) hb hq).trans h.c4, (f.cell (a := ⟨b, o + 5, none⟩) hb hq).trans h.c5⟩
def Script (w : World) (ad : Option Addr) (len : Nat) : Prop := ∀ i, i < len → ∃ b off kd A Bv C S T, ad = some ⟨b, off, none⟩ ∧ b < w.heap.size ∧ OpAt w b (off + i * 6) kd A Bv C S T
theorem WL.boxed {w0 w : World} {V : VB} {B : FB} {mb fb d bb rb n : Nat} {reg : ByteArray} (h : WL w0 w V B mb fb d bb rb n reg) : w.cell? ⟨bb, 0, none⟩ = some (pt B.f) ∧ bb < w.heap.size := ⟨h.bx.cell 0 (by omega), h.bx.lt⟩
theorem WL.ws {w0 w : World} {V : VB} {B : FB} {mb fb d bb rb n : Nat} {reg : ByteArray} (h : WL w0 w V B mb fb d bb rb n reg) : ∃ Z, WS w V B mb fb d Z := by
  obtain ⟨Z, env, h1, -⟩ := h.ex; exact ⟨Z, h1⟩
theorem sameCheckL {w0 w : World} {V : VB} {B : FB} {mb fb d bb rb n : Nat} {reg : ByteArray} (h : WL w0 w V B mb fb d bb rb n reg) : Calls Tryz.prog 13 #[pt V.e, blV B.f, pt d] w fun e w' => e = .returned (.bool true) ∧ WL w0 w' V B mb fb d bb rb n reg := by
  obtain ⟨Z, h1⟩ := h.ws
  exact (sameCheck_any V B mb fb d Z w h1).mono (fun e w' hh => ⟨hh.1, h.fr0 hh.2⟩)
theorem sameReadsL {w0 w : World} {V : VB} {B : FB} {mb fb d bb rb n : Nat} {reg : ByteArray} (h : WL w0 w V B mb fb d bb rb n reg) (s : ByteArray) : Calls Tryz.prog 18 #[pt V.e, pt mb, blV B.f, pt d, .string s] w fun e w' => ∃ r, e = .returned (.tuple #[U r, .bool true]) ∧ WL w0 w' V B mb fb d bb rb n reg := by
  obtain ⟨Z, env, h1, h2, h3⟩ := h.ex
  exact (sameReads_any V B mb fb d Z s w h1).mono (fun e w' hh => ⟨_, hh.1, h.step h2 h3 hh.2.1 (fun k hk => .inl hk) hh.2.2⟩)
theorem playCellL {w0 w : World} {V : VB} {B : FB} {mb fb d bb rb n : Nat} {reg : ByteArray} (h : WL w0 w V B mb fb d bb rb n reg) (s : ByteArray) (q : Bool) : Calls Tryz.prog 17 #[pt V.e, pt mb, blV B.f, pt d, .string s, sl rb n n, .bool q] w fun e w' => e = .returned (.bool true) ∧ WL w0 w' V B mb fb d bb rb n reg := by
  obtain ⟨Z, env, h1, h2, h3⟩ := h.ex
  have hn := h.n25
  exact (playCell_any V B mb fb d Z s rb n env q w h1 h2 h.rbu (by omega)).mono (fun e w' hh => by
    obtain ⟨e1, ⟨Z', hW, hZ'⟩, hf⟩ := hh
    exact ⟨e1, h.step h2 h3 hW hZ' hf⟩)
theorem resizedL {w0 w : World} {V : VB} {B : FB} {mb fb d bb rb n : Nat} {reg : ByteArray} (h : WL w0 w V B mb fb d bb rb n reg) (a : Int) : Calls Tryz.prog 15 #[sl rb n n, I a] w fun e w' => ∃ g m, e = .returned (sl g m m) ∧ WL w0 w' V B mb fb d bb g m reg := by
  obtain ⟨Z, env, h1, h2, h3⟩ := h.ex
  have hn := h.n25
  exact (resized_any rb n a env w h2 (by omega)).mono (fun e w' hh => ⟨_, _, hh.1, h.resize (Nat.le_refl _) (rsz_le a) hh.2.1 hh.2.2⟩)
end Go.Proofs.Qxb6500331aGreat
