/-
  What the package-level variables that the library reads hold, and that it stays so.
-/
import Derived.Test.YtodhdbikbdlcaaaDoorBase
import Derived.Test.YtodhdbikbdlcaaaDoorShelf
import Derived.Lib.LaidTab
import Derived.Lib.AppendIntMem
namespace Go.Proofs.YtodhdbikbdlcaaaDoor
set_option linter.unusedSimpArgs false
set_option linter.unusedVariables false
open Go.RowKit

/-- What the library's own variables hold. -/
structure Laid (w : World) : Prop where
  tab : Lib.TabIs Tryd.prog w "internal/strconv.uint64pow10" .u64 Lib.pow10Tab
  syn : ∃ tp p, w.var? Tryd.prog "strconv.ErrSyntax" = some #[.iface tp p]
  rng : ∃ tp p, w.var? Tryd.prog "strconv.ErrRange" = some #[.iface tp p]
  maxl : ∃ m, w.cell? ⟨1, 0, none⟩ = some (.int .i64 m)
  size : 12 ≤ w.heap.size

theorem Tryd.gTab : Tryd.prog.globalNamed "internal/strconv.uint64pow10" = some 6 := by kernel_rfl
theorem Tryd.gSyn : Tryd.prog.globalNamed "strconv.ErrSyntax" = some 4 := by kernel_rfl
theorem Tryd.gRng : Tryd.prog.globalNamed "strconv.ErrRange" = some 5 := by kernel_rfl

theorem Laid.later {w w' : World} (h : Laid w) (hb : Below w.heap.size w w') : Laid w' where
  tab := var?_below hb Tryd.gTab (Nat.lt_of_lt_of_le (by decide) h.size) h.tab
  syn := let ⟨tp, p, hp⟩ := h.syn; ⟨tp, p, var?_below hb Tryd.gSyn (Nat.lt_of_lt_of_le (by decide) h.size) hp⟩
  rng := let ⟨tp, p, hp⟩ := h.rng; ⟨tp, p, var?_below hb Tryd.gRng (Nat.lt_of_lt_of_le (by decide) h.size) hp⟩
  maxl := let ⟨m, hm⟩ := h.maxl; ⟨m, by rw [hb.cell (p := ⟨1, 0, none⟩) (Nat.lt_of_lt_of_le (by decide) h.size)]; exact hm⟩
  size := Nat.le_trans h.size hb.size

end Go.Proofs.YtodhdbikbdlcaaaDoor
