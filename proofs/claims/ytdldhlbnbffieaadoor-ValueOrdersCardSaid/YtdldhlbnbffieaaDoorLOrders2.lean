/-
  ValueOrders answers true: where too much is asked; all together.
-/
import Derived.Test.YtdldhlbnbffieaaDoorLOrders
namespace Go.Proofs.YtdldhlbnbffieaaDoor
set_option linter.unusedSimpArgs false
set_option linter.unusedVariables false
open Go.RowKit

set_option maxRecDepth 100000 in
set_option maxHeartbeats 800000 in
theorem orders_out (a b : Val) (A B : Option Addr) (n n2 c c2 : Nat) (w : World) (hl : Laid w)
    (h : (20 : Int) < n ∨ (¬ (20 : Int) < n ∧ (20 : Int) < n2) ∨ (¬ (20 : Int) < n ∧ ¬ (20 : Int) < n2 ∧ (500 : Int) < a.s.size) ∨ (¬ (20 : Int) < n ∧ ¬ (20 : Int) < n2 ∧ ¬ (500 : Int) < a.s.size ∧ (500 : Int) < b.s.size)) :
    Calls Tryd.prog 6 #[.agg #[.int .i64 a.k, .int .i64 a.n, .string a.s], .agg #[.int .i64 b.k, .int .i64 b.n, .string b.s], .agg #[.slice A n c, .slice B n2 c2]] w fun e w' => e = .returned (.bool true) ∧ Below w.heap.size w w' := by
  have HL := Lib.hid hl; clear hl
  rcases h with h1 | ⟨h1, h2⟩ | ⟨h1, h2, h3⟩ | ⟨h1, h2, h3, h4⟩
  all_goals
    go_enter Tryd.func6, Tryd.ntmps6
    go_wp2_with fail
    refine (alive02 _ (HL.out.later (by ((repeat with_reducible first | exact Below.refl _ _ | apply b_alloc | apply b_drewN | apply b_drew | refine b_set ?_ ?_ _ | (refine bstep ?_ (by assumption))); (all_goals (simp; try omega)))))).mono ?_
    rintro e w1 ⟨rfl, hb⟩
    go_wp2
    go_ret
    exact ⟨rfl, by ((repeat with_reducible first | exact Below.refl _ _ | apply b_alloc | apply b_drewN | apply b_drew | refine b_set ?_ ?_ _ | (refine bstep ?_ (by assumption))); (all_goals (simp; try omega)))⟩

theorem orders_any (a b : Val) (A B : Option Addr) (l m : List Val) (c c2 : Nat) (w : World) (hl : Laid w) (hA : l.length ≤ 1000000 → RowIs w w.heap.size A l) (hB : m.length ≤ 1000000 → RowIs w w.heap.size B m) :
    Calls Tryd.prog 6 #[.agg #[.int .i64 a.k, .int .i64 a.n, .string a.s], .agg #[.int .i64 b.k, .int .i64 b.n, .string b.s], .agg #[.slice A l.length c, .slice B m.length c2]] w fun e w' => e = .returned (.bool true) ∧ Below w.heap.size w w' := by
  by_cases h1 : (20 : Int) < l.length
  · exact orders_out a b A B _ _ c c2 w hl (.inl h1)
  by_cases h2 : (20 : Int) < m.length
  · exact orders_out a b A B _ _ c c2 w hl (.inr (.inl ⟨h1, h2⟩))
  by_cases h3 : (500 : Int) < a.s.size
  · exact orders_out a b A B _ _ c c2 w hl (.inr (.inr (.inl ⟨h1, h2, h3⟩)))
  by_cases h4 : (500 : Int) < b.s.size
  · exact orders_out a b A B _ _ c c2 w hl (.inr (.inr (.inr ⟨h1, h2, h3, h4⟩)))
  exact orders_main a b A B l m c c2 w hl (hA (by omega)) (hB (by omega)) (by omega) (by omega) (by omega) (by omega)

end Go.Proofs.YtdldhlbnbffieaaDoor
