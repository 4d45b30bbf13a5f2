/-
  What the rows of this seat give a walk: the listed variables lie as they should; an argument of the type Value is opened, and shut again in whatever world.
-/
import Derived.Test.YtdldhlbnbffieaaDoorLaid
import Derived.Test.YtdldhlbnbffieaaDoorRowG
namespace Go.Proofs.YtdldhlbnbffieaaDoor
set_option linter.unusedSimpArgs false
set_option linter.unusedVariables false
open Go.ChangeShapes Go.WideShapes Go.ChangeAt Go.RowKit

theorem cellsVal : Tryd.prog.cellsOf 24 = 3 := by kernel_rfl

theorem laid_of {W : World} (h : laidMetH Tryd.prog Rows.valueBackRow.laid W) (hs : W.ShapedOpen Tryd.prog) : Laid W := by
  rw [MakeChecks.laidMetH_plain _ _ _ (by kernel_rfl)] at h
  have h2 := h.tail.tail
  have e : (Rows.laid_internal_strconv_uint64pow10 : DataW Unit) = Lib.tabData .u64 Lib.pow10Tab := by kernel_rfl
  rw [e] at h2
  refine ⟨Lib.tabIs_of_head (t := 109) (e := 88) (n := 20) Tryd.gTab (by kernel_rfl) (by kernel_rfl) (by kernel_rfl) (by kernel_rfl) (by kernel_rfl) h2, ?_, ?_, ?_, ?_⟩
  · exact iface_of_head h2.tail.tail.tail Tryd.gSyn (by kernel_rfl) Tryd.underlying27
  · exact iface_of_head h2.tail.tail Tryd.gRng (by kernel_rfl) Tryd.underlying27
  · exact cell_of_shapedOpen_int (P := Tryd.prog) (g := 1) (t := 3) (zero := #[.int .i64 0]) hs (of_decide_eq_true (by kernel_rfl)) (by kernel_rfl) rfl (by kernel_rfl) (by kernel_rfl) Tryd.underlying3
  · obtain ⟨o, _, ho, _⟩ := hs.2 12 (by decide +kernel) (by decide +kernel)
    rcases Nat.lt_or_ge 12 W.heap.size with h' | h'
    · omega
    · simp [Array.getElem?_eq_none h'] at ho

theorem wf_i64 {n : Int} (h : (Lit.int .i64 n).wf = true) : -9223372036854775808 ≤ n ∧ n ≤ 9223372036854775807 := by
  simpa [Lit.wf, IntKind.min, IntKind.max, IntKind.signed, IntKind.bits] using h

set_option maxRecDepth 100000 in
/-- A Value argument: opened; it reads so in whatever world. -/
theorem open_val {H : Type} {enc : TypeId × Value → H} {W : World} {base b0 : Nat} {sp : Nat → Bool} {held : Bool} {v : Value} {d : DataW H} {p : List MemPlace}
    (hv : Value.okWide Tryd.prog W .any b0 24 v) (h : DataW.Trod enc Tryd.prog W base sp held 24 v d p) :
    ∃ (k n : Int) (s : ByteArray), v = .agg #[.int .i64 k, .int .i64 n, .string s] ∧ p = [] ∧ (-9223372036854775808 ≤ n ∧ n ≤ 9223372036854775807) ∧
      ∀ (W' : World) (base' : Nat) (sp' : Nat → Bool) (held' : Bool), DataW.Trod enc Tryd.prog W' base' sp' held' 24 v d [] := by
  obtain ⟨v0, v1, v2, y0, y1, y2, n, rfl, rfl, rfl, h0, h1, h2⟩ := Joins.open_agg3 Tryd.underlying24 (by kernel_rfl) cellsVal hv h
  obtain ⟨z0, e0, rfl, w0⟩ := DataW.trod_int Tryd.underlying22 h0
  obtain ⟨z1, e1, rfl, w1⟩ := DataW.trod_int Tryd.underlying2 h1
  obtain ⟨s, e2, rfl, ws⟩ := DataW.trod_string Tryd.underlying9 h2
  obtain rfl := List.singleton_inj.1 e0
  obtain rfl := List.singleton_inj.1 e1
  obtain rfl := List.singleton_inj.1 e2
  refine ⟨z0, z1, s, rfl, rfl, wf_i64 w1, fun W' base' sp' held' => ?_⟩
  exact Joins.shut_agg3 (enc := enc) (w := W') (base := base') (spare := sp') (held := held') (y0 := (.lit (.int .i64 z0), [])) (y1 := (.lit (.int .i64 z1), [])) (y2 := (.lit (.string s.data.toList), [])) Tryd.underlying24 (by kernel_rfl) cellsVal
    ⟨1, by simp [DataW.trod, Tryd.underlying22, w0]⟩ ⟨1, by simp [DataW.trod, Tryd.underlying2, w1]⟩ ⟨1, by simp [DataW.trod, Tryd.underlying9, ws]⟩

end Go.Proofs.YtdldhlbnbffieaaDoor
