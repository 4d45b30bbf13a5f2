/-
  ValueTruths answers true: too long texts; all together.
-/
import Derived.Test.YtdldhlbnbffieaaGreatDoorLTruths
import Derived.Test.YtdldhlbnbffieaaGreatDoorLTruths1
import Derived.Test.YtdldhlbnbffieaaGreatDoorLTruths2
import Derived.Test.YtdldhlbnbffieaaGreatDoorLTruths3
import Derived.Test.YtdldhlbnbffieaaGreatDoorPNots
namespace Go.Proofs.YtdldhlbnbffieaaGreatDoor
set_option linter.unusedSimpArgs false
set_option linter.unusedVariables false
open Go.RowKit

theorem truth_tv (a : Val) (h : truthB a.k a.n a.s = true) : ∃ i : Fin 3, a = tv i := by
  obtain ⟨k, n, s⟩ := a
  unfold truthB at h
  rw [Bool.and_eq_true] at h
  obtain ⟨hr, hk⟩ := h
  have hk1 : k ≤ 1 := of_decide_eq_true hk
  have hkk := right_kind hr
  dsimp only at hr hk1 hkk
  have hk2 : k = 0 ∨ k = 1 := by omega
  unfold rightB at hr
  by_cases h1 : k = 1 ∧ n = 1
  · rw [if_pos h1] at hr
    obtain ⟨rfl, rfl⟩ := h1
    have : s = ⟨#[]⟩ := ba_ext.1 (by simpa using hr)
    subst this
    exact ⟨2, rfl⟩
  · rw [if_neg h1, if_pos hk2, Bool.and_eq_true] at hr
    have hn : n = 0 := by simpa using hr.1
    have : s = ⟨#[]⟩ := ba_ext.1 (by simpa using hr.2)
    subst this; subst hn
    rcases hk2 with rfl | rfl
    · exact ⟨0, rfl⟩
    · exact ⟨1, rfl⟩
theorem truthN_tv : ∀ i : Fin 3, (truthN (tv i).k (tv i).n (tv i).s == -2) = false ∧ (truthN (tv i).k (tv i).n (tv i).s != -2) = true := by decide +kernel
theorem truthB_tv : ∀ i : Fin 3, truthB (tv i).k (tv i).n (tv i).s = true := by decide +kernel
theorem of_and_tv : ∀ i j : Fin 3, ofV (andN (truthN (tv i).k (tv i).n (tv i).s) (truthN (tv j).k (tv j).n (tv j).s)) = tv (and3 i j) := by decide +kernel
theorem of_or_tv : ∀ i j : Fin 3, ofV (orN (truthN (tv i).k (tv i).n (tv i).s) (truthN (tv j).k (tv j).n (tv j).s)) = tv (or3t i j) := by decide +kernel
theorem of_not_tv : ∀ i : Fin 3, ofV (notN (truthN (tv i).k (tv i).n (tv i).s)) = tv (not3 i) := by decide +kernel
theorem and_no (p q : Int) (h : p = -2 ∨ q = -2) : ofV (andN p q) = Val.zero ∧ ofV (orN p q) = Val.zero := by
  unfold andN orN
  rw [if_pos h, if_pos h]
  exact ⟨rfl, rfl⟩

set_option maxRecDepth 100000 in
set_option maxHeartbeats 800000 in
theorem truths_out (a b : Val) (w : World) (hl : Laid w) (h : (500 : Int) < a.s.size ∨ (¬ (500 : Int) < a.s.size ∧ (500 : Int) < b.s.size)) :
    Calls Tryz.prog 4 #[.agg #[.int .i64 a.k, .int .i64 a.n, .string a.s], .agg #[.int .i64 b.k, .int .i64 b.n, .string b.s]] w fun e w' => e = .returned (.bool true) ∧ Below w.heap.size w w' := by
  have HL := Lib.hid hl; clear hl
  rcases h with h1 | ⟨h1, h2⟩
  all_goals
    go_enter Tryz.func4, Tryz.ntmps4
    go_wp2_with fail
    refine (alive02 _ (HL.out.later (by ((repeat with_reducible first | exact Below.refl _ _ | apply b_alloc | apply b_drewN | apply b_drew | refine b_set ?_ ?_ _ | (refine bstep ?_ (by assumption))); (all_goals (simp; try omega)))))).mono ?_
    rintro e w1 ⟨rfl, hb⟩
    go_wp2
    go_ret
    exact ⟨rfl, by ((repeat with_reducible first | exact Below.refl _ _ | apply b_alloc | apply b_drewN | apply b_drew | refine b_set ?_ ?_ _ | (refine bstep ?_ (by assumption))); (all_goals (simp; try omega)))⟩

theorem truths_any (a b : Val) (w : World) (hl : Laid w) :
    Calls Tryz.prog 4 #[.agg #[.int .i64 a.k, .int .i64 a.n, .string a.s], .agg #[.int .i64 b.k, .int .i64 b.n, .string b.s]] w fun e w' => e = .returned (.bool true) ∧ Below w.heap.size w w' := by
  by_cases h0 : (500 : Int) < a.s.size
  · exact truths_out a b w hl (.inl h0)
  by_cases h1 : (500 : Int) < b.s.size
  · exact truths_out a b w hl (.inr ⟨h0, h1⟩)
  have s0 : a.s.size ≤ 500 := by omega
  have s1 : b.s.size ≤ 500 := by omega
  cases ha : truthB a.k a.n a.s with
  | true =>
    obtain ⟨i, rfl⟩ := truth_tv a ha
    have np := truthN_tv i
    cases hb : truthB b.k b.n b.s with
    | true =>
      obtain ⟨j, rfl⟩ := truth_tv b hb
      have nq := truthN_tv j
      exact truths_both _ _ _ _ _ _ _ _ _ _ _ _ _ _ _ _ _ w hl s0 s1 (andR_tv i j) (orR_tv i j) (notR_tv i) rfl rfl (of_and_tv i j) (of_or_tv i j) (of_not_tv i) np.1 np.2 nq.1
    | false =>
      have hbo : bothE (tv i) b = .fault 22 1 .none := by unfold bothE; rw [if_neg (by rw [ha]; decide), if_pos hb]
      have hq : truthN b.k b.n b.s = -2 := by unfold truthN; rw [if_pos hb]
      have hn := and_no (truthN (tv i).k (tv i).n (tv i).s) (-2) (.inr rfl)
      exact truths_b _ _ _ _ 0 0 0 0 _ _ _ _ ⟨#[]⟩ ⟨#[]⟩ _ _ w hl s0 s1 (by show andR (tv i) b = _; unfold andR; rw [hbo]; rfl) (by show orR (tv i) b = _; unfold orR; rw [hbo]; rfl) (notR_tv i) rfl hq hn.1 hn.2 (of_not_tv i) np.1 np.2
  | false =>
    have hbo : ∀ x, bothE a x = .fault 22 0 .none := fun x => by unfold bothE; rw [if_pos ha]
    have hp : truthN a.k a.n a.s = -2 := by unfold truthN; rw [if_pos ha]
    have e1 : andR a b = (⟨0, 0, ⟨#[]⟩⟩, .fault 22 0 .none) := by unfold andR; rw [hbo]; rfl
    have e2 : orR a b = (⟨0, 0, ⟨#[]⟩⟩, .fault 22 0 .none) := by unfold orR; rw [hbo]; rfl
    have e3 : notR a = (⟨0, 0, ⟨#[]⟩⟩, .fault 22 0 .none) := by unfold notR; rw [hbo]; rfl
    by_cases hq : truthN b.k b.n b.s = -2
    · have hn := and_no (-2) (-2) (.inl rfl)
      exact truths_ab _ _ _ _ 0 0 0 0 0 0 _ _ ⟨#[]⟩ ⟨#[]⟩ ⟨#[]⟩ w hl s0 s1 e1 e2 e3 hp hq hn.1 hn.2 rfl
    · have hn := and_no (-2) (truthN b.k b.n b.s) (.inl rfl)
      exact truths_a _ _ _ _ 0 0 0 0 0 0 _ _ ⟨#[]⟩ ⟨#[]⟩ ⟨#[]⟩ _ w hl s0 s1 e1 e2 e3 hp rfl hn.1 hn.2 rfl (beq_eq_false_iff_ne.2 hq)

end Go.Proofs.YtdldhlbnbffieaaGreatDoor
