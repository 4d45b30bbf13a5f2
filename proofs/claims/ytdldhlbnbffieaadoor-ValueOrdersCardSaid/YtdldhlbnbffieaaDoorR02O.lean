/-
  The document's own order of two values.
-/
import Derived.Test.YtdldhlbnbffieaaDoorCmp
namespace Go.Proofs.YtdldhlbnbffieaaDoor
set_option linter.unusedSimpArgs false
set_option linter.unusedVariables false
open Go.RowKit

theorem ref_right_o (k n : Int) (s : ByteArray) (w : World) :
    Calls Tryd.prog 17 #[.agg #[.int .i64 k, .int .i64 n, .string s]] w fun e w' => e = .returned (.bool (rightB k n s)) ∧ Below w.heap.size w w' := by
  go_enter Tryd.func17, Tryd.ntmps17
  go_wp2
  all_goals
    go_ret
    refine ⟨ret_bool ?_, (Below.refl _ _).alloc (Nat.le_refl _) _⟩
    go_light
    simp only [beq_iff_eq, beq_eq_false_iff_ne, ne_eq] at *
    simp [rightB, *]

theorem ref_order (ak an bk bn : Int) (as' bs' : ByteArray) (w : World) :
    Calls Tryd.prog 18 #[.agg #[.int .i64 ak, .int .i64 an, .string as'], .agg #[.int .i64 bk, .int .i64 bn, .string bs']] w fun e w' => e = .returned (.int .i64 (ordV ⟨ak, an, as'⟩ ⟨bk, bn, bs'⟩)) ∧ Below w.heap.size w w' := by
  go_enter Tryd.func18, Tryd.ntmps18
  go_wp2
  all_goals
    go_ret
    refine ⟨ret_int ?_, by ((repeat with_reducible first | exact Below.refl _ _ | apply b_alloc | apply b_drewN | apply b_drew | refine b_set ?_ ?_ _ | (refine bstep ?_ (by assumption))); (all_goals (simp; try omega)))⟩
    go_light
    simp_all [ordV, or3, cmpI, cmpS] <;> (try omega)

end Go.Proofs.YtdldhlbnbffieaaDoor
