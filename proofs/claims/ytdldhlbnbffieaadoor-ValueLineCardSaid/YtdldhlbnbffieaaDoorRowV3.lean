/-
  An argument of three values opened.
-/
import Derived.Test.YtdldhlbnbffieaaDoorRowV
namespace Go.Proofs.YtdldhlbnbffieaaDoor
set_option linter.unusedSimpArgs false
set_option linter.unusedVariables false
open Go.ChangeShapes Go.WideShapes Go.ChangeAt Go.RowKit Go.Deep

theorem cellsThree : Tryd.prog.cellsOf 36 = 9 := by kernel_rfl
set_option maxRecDepth 100000 in
theorem open_three {H : Type} {enc : TypeId × Value → H} {W : World} {base b0 : Nat} {sp : Nat → Bool} {held : Bool} {v : Value} {d : DataW H} {p : List MemPlace}
    (hv : Value.okWide Tryd.prog W .any b0 36 v) (h : DataW.Trod enc Tryd.prog W base sp held 36 v d p) :
    ∃ a b c : Val, v = .agg #[.int .i64 a.k, .int .i64 a.n, .string a.s, .int .i64 b.k, .int .i64 b.n, .string b.s, .int .i64 c.k, .int .i64 c.n, .string c.s] := by
  obtain ⟨cs, rfl, hsz⟩ : ∃ cs, v = .agg cs ∧ cs.size = Tryd.prog.cellsOf 36 := by
    simp only [Value.okWide, Tryd.underlying36] at hv
    obtain ⟨cs, h1, h2, _⟩ := hv
    exact ⟨cs, h1, h2⟩
  rw [cellsThree] at hsz
  obtain ⟨l⟩ := cs
  match l, hsz with
  | [c0, c1, c2, c3, c4, c5, c6, c7, c8], _ =>
    obtain ⟨fuel, hf⟩ := h
    obtain ⟨xs, n, _, _, _, hlen, hg⟩ := DataW.trod_array Tryd.underlying36 (show DataW.trod enc Tryd.prog W base sp held fuel 36 [c0, c1, c2, c3, c4, c5, c6, c7, c8] = _ from hf)
    rw [cellsVal] at hg
    have g0 := hg 0 (by omega)
    have g1 := hg 1 (by omega)
    have g2 := hg 2 (by omega)
    simp at g0 g1 g2
    rw [List.getElem?_eq_getElem (by omega)] at g0 g1 g2
    obtain ⟨a, ea, _⟩ := trod_val g0
    obtain ⟨b, eb, _⟩ := trod_val g1
    obtain ⟨c, ec, _⟩ := trod_val g2
    simp only [List.cons.injEq, and_true] at ea eb ec
    obtain ⟨rfl, rfl, rfl⟩ := ea
    obtain ⟨rfl, rfl, rfl⟩ := eb
    obtain ⟨rfl, rfl, rfl⟩ := ec
    exact ⟨a, b, c, rfl⟩

end Go.Proofs.YtdldhlbnbffieaaDoor
