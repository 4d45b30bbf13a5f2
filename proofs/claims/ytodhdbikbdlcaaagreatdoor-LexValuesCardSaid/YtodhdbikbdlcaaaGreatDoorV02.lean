/-
  What the calls of layer 2's truths do: Right, And, Or, Not, and the faults that they return.
-/
import Derived.Test.YtodhdbikbdlcaaaGreatDoorPure02
namespace Go.Proofs.YtodhdbikbdlcaaaGreatDoor
set_option linter.unusedSimpArgs false
set_option linter.unusedVariables false
open Go.RowKit

theorem right_any (k n : Int) (s : ByteArray) (w : World) :
    Calls Tryz.prog 5 #[.agg #[.int .i64 k, .int .i64 n, .string s]] w fun e w' => e = .returned (.bool (rightB k n s)) ∧ Below w.heap.size w w' := by
  go_enter Tryz.func5, Tryz.ntmps5
  go_wp2
  all_goals
    go_ret
    refine ⟨ret_bool ?_, (Below.refl _ _).alloc (Nat.le_refl _) _⟩
    go_light
    simp only [beq_iff_eq, beq_eq_false_iff_ne, ne_eq] at *
    simp [rightB, *]

/-- A fault of a code other than 0. -/
theorem new_any (c a : Int) (hc : (c == 0) = false) (w : World) : Calls Tryz.prog 14 #[.int .i64 c, .int .i64 a] w (Ret w fun v w' => ErrIs w' (.fault c a .none) v) := by
  go_enter Tryz.func14, Tryz.ntmps14
  go_wp2
  go_ret
  exact ⟨_, rfl, ⟨w.heap.size, .nilIface, rfl, heap_new _ _, rfl⟩, by ((repeat with_reducible first | exact Below.refl _ _ | apply b_alloc | apply b_drewN | apply b_drew | refine b_set ?_ ?_ _ | (refine bstep ?_ (by assumption))); (all_goals (simp; try omega)))⟩

end Go.Proofs.YtodhdbikbdlcaaaGreatDoor
