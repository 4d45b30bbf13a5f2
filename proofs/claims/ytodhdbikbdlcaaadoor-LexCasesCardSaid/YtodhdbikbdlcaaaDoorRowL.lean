/-
  What the rows of this seat give a walk: the listed variables lie as they should; an argument that is a text is opened.
-/
import Derived.Test.YtodhdbikbdlcaaaDoorLaid
import Derived.Test.YtodhdbikbdlcaaaDoorRowG
namespace Go.Proofs.YtodhdbikbdlcaaaDoor
set_option linter.unusedSimpArgs false
set_option linter.unusedVariables false
open Go.ChangeShapes Go.WideShapes Go.ChangeAt Go.RowKit

theorem laid_of {W : World} (h : laidMetH Tryd.prog Rows.lexPlacesRow.laid W) (hs : W.ShapedOpen Tryd.prog) : Laid W := by
  rw [MakeChecks.laidMetH_plain _ _ _ (by kernel_rfl)] at h
  have h2 := h.tail.tail
  have e : (Rows.laid_internal_strconv_uint64pow10 : DataW Unit) = Lib.tabData .u64 Lib.pow10Tab := by kernel_rfl
  rw [e] at h2
  refine ⟨Lib.tabIs_of_head (t := 121) (e := 86) (n := 20) Tryd.gTab (by kernel_rfl) (by kernel_rfl) (by kernel_rfl) (by kernel_rfl) (by kernel_rfl) h2, ?_, ?_, ?_, ?_⟩
  · exact iface_of_head h2.tail.tail.tail Tryd.gSyn (by kernel_rfl) Tryd.underlying24
  · exact iface_of_head h2.tail.tail Tryd.gRng (by kernel_rfl) Tryd.underlying24
  · exact cell_of_shapedOpen_int (P := Tryd.prog) (g := 1) (t := 3) (zero := #[.int .i64 0]) hs (of_decide_eq_true (by kernel_rfl)) (by kernel_rfl) rfl (by kernel_rfl) (by kernel_rfl) Tryd.underlying3
  · obtain ⟨o, _, ho, _⟩ := hs.2 12 (by decide +kernel) (by decide +kernel)
    rcases Nat.lt_or_ge 12 W.heap.size with h' | h'
    · omega
    · simp [Array.getElem?_eq_none h'] at ho

theorem wf_i64 {n : Int} (h : (Lit.int .i64 n).wf = true) : -9223372036854775808 ≤ n ∧ n ≤ 9223372036854775807 := by
  simpa [Lit.wf, IntKind.min, IntKind.max, IntKind.signed, IntKind.bits] using h


end Go.Proofs.YtodhdbikbdlcaaaDoor
