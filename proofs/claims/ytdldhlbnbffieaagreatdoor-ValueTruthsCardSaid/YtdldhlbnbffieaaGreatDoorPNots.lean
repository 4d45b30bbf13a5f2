/-
  The three truths: what And, Or and Not come to, by a table; no program in sight but for the three contracts.
-/
import Derived.Test.YtdldhlbnbffieaaGreatDoorV02
namespace Go.Proofs.YtdldhlbnbffieaaGreatDoor
set_option linter.unusedSimpArgs false
set_option linter.unusedVariables false
open Go.RowKit

/-- The truths: 0 not known, 1 false, 2 true. -/
def tv : Fin 3 → Val
  | 0 => ⟨0, 0, ⟨#[]⟩⟩
  | 1 => ⟨1, 0, ⟨#[]⟩⟩
  | 2 => ⟨1, 1, ⟨#[]⟩⟩
def and3 (i j : Fin 3) : Fin 3 := if i = 1 ∨ j = 1 then 1 else if i = 0 ∨ j = 0 then 0 else 2
def or3t (i j : Fin 3) : Fin 3 := if i = 2 ∨ j = 2 then 2 else if i = 0 ∨ j = 0 then 0 else 1
def not3 : Fin 3 → Fin 3
  | 0 => 0
  | 1 => 2
  | 2 => 1

theorem andR_tv : ∀ i j : Fin 3, andR (tv i) (tv j) = (tv (and3 i j), .none) := by decide +kernel
theorem orR_tv : ∀ i j : Fin 3, orR (tv i) (tv j) = (tv (or3t i j), .none) := by decide +kernel
theorem notR_tv : ∀ i : Fin 3, notR (tv i) = (tv (not3 i), .none) := by decide +kernel
theorem and3_comm : ∀ i j : Fin 3, and3 j i = and3 i j := by decide
theorem and3_assoc : ∀ i j k : Fin 3, and3 i (and3 j k) = and3 (and3 i j) k := by decide
theorem de_morgan : ∀ i j : Fin 3, or3t (not3 i) (not3 j) = not3 (and3 i j) := by decide
theorem not3_not3 : ∀ i : Fin 3, not3 (not3 i) = i := by decide
theorem tv_kind : ∀ i : Fin 3, (tv i).k = 0 ∨ (tv i).k = 1 := by decide
theorem known3 : ∀ i j : Fin 3, (tv i).k = 1 → (tv j).k = 1 → (tv (and3 i j)).k = 1 := by decide

theorem and_tv (i j : Fin 3) (w : World) : Calls Tryz.prog 12 #[.agg #[.int .i64 (tv i).k, .int .i64 (tv i).n, .string (tv i).s], .agg #[.int .i64 (tv j).k, .int .i64 (tv j).n, .string (tv j).s]] w
    fun e w' => e = .returned (.tuple #[.agg #[.int .i64 (tv (and3 i j)).k, .int .i64 (tv (and3 i j)).n, .string (tv (and3 i j)).s], .nilIface]) ∧ Below w.heap.size w w' := by
  refine (and_any (tv i) (tv j) w).mono ?_
  rw [andR_tv]
  rintro e w' ⟨v, rfl, ⟨ev, rfl, he⟩, hb⟩
  obtain rfl : ev = .nilIface := he
  exact ⟨rfl, hb⟩
theorem or_tv (i j : Fin 3) (w : World) : Calls Tryz.prog 13 #[.agg #[.int .i64 (tv i).k, .int .i64 (tv i).n, .string (tv i).s], .agg #[.int .i64 (tv j).k, .int .i64 (tv j).n, .string (tv j).s]] w
    fun e w' => e = .returned (.tuple #[.agg #[.int .i64 (tv (or3t i j)).k, .int .i64 (tv (or3t i j)).n, .string (tv (or3t i j)).s], .nilIface]) ∧ Below w.heap.size w w' := by
  refine (or_any (tv i) (tv j) w).mono ?_
  rw [orR_tv]
  rintro e w' ⟨v, rfl, ⟨ev, rfl, he⟩, hb⟩
  obtain rfl : ev = .nilIface := he
  exact ⟨rfl, hb⟩
theorem not_tv (i : Fin 3) (w : World) : Calls Tryz.prog 14 #[.agg #[.int .i64 (tv i).k, .int .i64 (tv i).n, .string (tv i).s]] w
    fun e w' => e = .returned (.tuple #[.agg #[.int .i64 (tv (not3 i)).k, .int .i64 (tv (not3 i)).n, .string (tv (not3 i)).s], .nilIface]) ∧ Below w.heap.size w w' := by
  refine (not_any (tv i) w).mono ?_
  rw [notR_tv]
  rintro e w' ⟨v, rfl, ⟨ev, rfl, he⟩, hb⟩
  obtain rfl : ev = .nilIface := he
  exact ⟨rfl, hb⟩

end Go.Proofs.YtdldhlbnbffieaaGreatDoor
