/-
  What the package-level variables that the library reads hold, and that it stays so.
-/
import Derived.Test.YtodhdbikbdlcaaaGreatDoorBase
import Derived.Test.YtodhdbikbdlcaaaGreatDoorShelf
import Derived.Lib.LaidTab
import Derived.Lib.AppendIntMem
namespace Go.Proofs.YtodhdbikbdlcaaaGreatDoor
set_option linter.unusedSimpArgs false
set_option linter.unusedVariables false
open Go.RowKit

/-- What the library's own variables hold. -/
structure Laid (w : World) : Prop where
  tab : Lib.TabIs Tryz.prog w "internal/strconv.uint64pow10" .u64 Lib.pow10Tab
  syn : ∃ tp p, w.var? Tryz.prog "strconv.ErrSyntax" = some #[.iface tp p]
  rng : ∃ tp p, w.var? Tryz.prog "strconv.ErrRange" = some #[.iface tp p]
  maxl : ∃ m, w.cell? ⟨2, 0, none⟩ = some (.int .i64 m)
  ety : w.cell? ⟨0, 0, none⟩ = some (.iface 121 (.agg #[.pointer (some ⟨10, 30, none⟩)]))
  size : 12 ≤ w.heap.size

theorem Tryz.gTab : Tryz.prog.globalNamed "internal/strconv.uint64pow10" = some 1 := by kernel_rfl
theorem Tryz.gSyn : Tryz.prog.globalNamed "strconv.ErrSyntax" = some 8 := by kernel_rfl
theorem Tryz.gRng : Tryz.prog.globalNamed "strconv.ErrRange" = some 9 := by kernel_rfl

theorem Laid.later {w w' : World} (h : Laid w) (hb : Below w.heap.size w w') : Laid w' where
  tab := var?_below hb Tryz.gTab (Nat.lt_of_lt_of_le (by decide) h.size) h.tab
  syn := let ⟨tp, p, hp⟩ := h.syn; ⟨tp, p, var?_below hb Tryz.gSyn (Nat.lt_of_lt_of_le (by decide) h.size) hp⟩
  rng := let ⟨tp, p, hp⟩ := h.rng; ⟨tp, p, var?_below hb Tryz.gRng (Nat.lt_of_lt_of_le (by decide) h.size) hp⟩
  maxl := let ⟨m, hm⟩ := h.maxl; ⟨m, by rw [hb.cell (p := ⟨2, 0, none⟩) (Nat.lt_of_lt_of_le (by decide) h.size)]; exact hm⟩
  ety := by rw [hb.cell (p := ⟨0, 0, none⟩) (Nat.lt_of_lt_of_le (by decide) h.size)]; exact h.ety
  size := Nat.le_trans h.size hb.size

end Go.Proofs.YtodhdbikbdlcaaaGreatDoor
