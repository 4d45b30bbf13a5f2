/-
  ValueLine answers true: where a text is too long; all together.
-/
import Derived.Test.YtdldhlbnbffieaaDoorLLine1
import Derived.Test.YtdldhlbnbffieaaDoorLLine2
import Derived.Test.YtdldhlbnbffieaaDoorLLine3
namespace Go.Proofs.YtdldhlbnbffieaaDoor
set_option linter.unusedSimpArgs false
set_option linter.unusedVariables false
open Go.RowKit

set_option maxRecDepth 100000 in
set_option maxHeartbeats 800000 in
theorem line_out0 (a b c : Val) (w : World) (hl : Laid w)  (h0 : (500 : Int) < a.s.size) :
    Calls Tryd.prog 7 #[.agg #[Value.int .i64 a.k, .int .i64 a.n, .string a.s, .int .i64 b.k, .int .i64 b.n, .string b.s, .int .i64 c.k, .int .i64 c.n, .string c.s]] w fun e w' => e = .returned (.bool true) ∧ Below w.heap.size w w' := by
  have HL := Lib.hid hl; clear hl
  go_enter Tryd.func7, Tryd.ntmps7
  go_wp2_with fail
  go_loopw [3] (fun i wr => (i = .int .i64 0) ∧ wr = w.alloc (Obj.cells #[Value.int .i64 a.k, .int .i64 a.n, .string a.s, .int .i64 b.k, .int .i64 b.n, .string b.s, .int .i64 c.k, .int .i64 c.n, .string c.s] 36)) (fun i _ => 3 - (intOf i).toNat)
  case atStart => exact ⟨rfl, rfl⟩
  case round =>
    obtain ⟨hi, rfl⟩ := hrel
    rcases hi with rfl
    · go_wp2_with fail
      refine (alive02 _ (HL.out.later (b_alloc (Below.refl _ _) _))).mono ?_
      rintro e w1 ⟨rfl, hb⟩
      go_wp2_with fail
      go_ret
      exact ⟨rfl, by ((repeat with_reducible first | exact Below.refl _ _ | apply b_alloc | apply b_drewN | apply b_drew | refine b_set ?_ ?_ _ | (refine bstep ?_ (by assumption))); (all_goals (simp; try omega)))⟩

set_option maxRecDepth 100000 in
set_option maxHeartbeats 800000 in
theorem line_out1 (a b c : Val) (w : World) (hl : Laid w) (h0 : ¬ (500 : Int) < a.s.size) (h1 : (500 : Int) < b.s.size) :
    Calls Tryd.prog 7 #[.agg #[Value.int .i64 a.k, .int .i64 a.n, .string a.s, .int .i64 b.k, .int .i64 b.n, .string b.s, .int .i64 c.k, .int .i64 c.n, .string c.s]] w fun e w' => e = .returned (.bool true) ∧ Below w.heap.size w w' := by
  have HL := Lib.hid hl; clear hl
  go_enter Tryd.func7, Tryd.ntmps7
  go_wp2_with fail
  go_loopw [3] (fun i wr => (i = .int .i64 0 ∨ i = .int .i64 1) ∧ wr = w.alloc (Obj.cells #[Value.int .i64 a.k, .int .i64 a.n, .string a.s, .int .i64 b.k, .int .i64 b.n, .string b.s, .int .i64 c.k, .int .i64 c.n, .string c.s] 36)) (fun i _ => 3 - (intOf i).toNat)
  case atStart => exact ⟨Or.inl rfl, rfl⟩
  case round =>
    obtain ⟨hi, rfl⟩ := hrel
    rcases hi with rfl | rfl
    · go_wp2_with fail
      go_roundw
      case rel => exact ⟨Or.inr rfl, trivial⟩
      case measure => decide
    · go_wp2_with fail
      refine (alive02 _ (HL.out.later (b_alloc (Below.refl _ _) _))).mono ?_
      rintro e w1 ⟨rfl, hb⟩
      go_wp2_with fail
      go_ret
      exact ⟨rfl, by ((repeat with_reducible first | exact Below.refl _ _ | apply b_alloc | apply b_drewN | apply b_drew | refine b_set ?_ ?_ _ | (refine bstep ?_ (by assumption))); (all_goals (simp; try omega)))⟩

set_option maxRecDepth 100000 in
set_option maxHeartbeats 800000 in
theorem line_out2 (a b c : Val) (w : World) (hl : Laid w) (h0 : ¬ (500 : Int) < a.s.size) (h1 : ¬ (500 : Int) < b.s.size) (h2 : (500 : Int) < c.s.size) :
    Calls Tryd.prog 7 #[.agg #[Value.int .i64 a.k, .int .i64 a.n, .string a.s, .int .i64 b.k, .int .i64 b.n, .string b.s, .int .i64 c.k, .int .i64 c.n, .string c.s]] w fun e w' => e = .returned (.bool true) ∧ Below w.heap.size w w' := by
  have HL := Lib.hid hl; clear hl
  go_enter Tryd.func7, Tryd.ntmps7
  go_wp2_with fail
  go_loopw [3] (fun i wr => (i = .int .i64 0 ∨ i = .int .i64 1 ∨ i = .int .i64 2) ∧ wr = w.alloc (Obj.cells #[Value.int .i64 a.k, .int .i64 a.n, .string a.s, .int .i64 b.k, .int .i64 b.n, .string b.s, .int .i64 c.k, .int .i64 c.n, .string c.s] 36)) (fun i _ => 3 - (intOf i).toNat)
  case atStart => exact ⟨Or.inl rfl, rfl⟩
  case round =>
    obtain ⟨hi, rfl⟩ := hrel
    rcases hi with rfl | rfl | rfl
    · go_wp2_with fail
      go_roundw
      case rel => exact ⟨Or.inr (Or.inl rfl), trivial⟩
      case measure => decide
    · go_wp2_with fail
      go_roundw
      case rel => exact ⟨Or.inr (Or.inr rfl), trivial⟩
      case measure => decide
    · go_wp2_with fail
      refine (alive02 _ (HL.out.later (b_alloc (Below.refl _ _) _))).mono ?_
      rintro e w1 ⟨rfl, hb⟩
      go_wp2_with fail
      go_ret
      exact ⟨rfl, by ((repeat with_reducible first | exact Below.refl _ _ | apply b_alloc | apply b_drewN | apply b_drew | refine b_set ?_ ?_ _ | (refine bstep ?_ (by assumption))); (all_goals (simp; try omega)))⟩

theorem line_any (a b c : Val) (w : World) (hl : Laid w) :
    Calls Tryd.prog 7 #[.agg #[Value.int .i64 a.k, .int .i64 a.n, .string a.s, .int .i64 b.k, .int .i64 b.n, .string b.s, .int .i64 c.k, .int .i64 c.n, .string c.s]] w fun e w' => e = .returned (.bool true) ∧ Below w.heap.size w w' := by
  by_cases h0 : (500 : Int) < a.s.size
  · exact line_out0 a b c w hl h0
  by_cases h1 : (500 : Int) < b.s.size
  · exact line_out1 a b c w hl h0 h1
  by_cases h2 : (500 : Int) < c.s.size
  · exact line_out2 a b c w hl h0 h1 h2
  have s0 : a.s.size ≤ 500 := by omega
  have s1 : b.s.size ≤ 500 := by omega
  have s2 : c.s.size ≤ 500 := by omega
  have ab := ordV_le a b
  have bc := ordV_le b c
  have ac := ordV_le a c
  have hab := ordV_zero a b
  have htr := ordV_trans a b c
  obtain ⟨ak, an, as'⟩ := a
  obtain ⟨bk, bn, bs'⟩ := b
  obtain ⟨ck, cn, cs'⟩ := c
  by_cases he : (⟨ak, an, as'⟩ : Val) = ⟨bk, bn, bs'⟩
  · injection he with e1 e2 e3
    subst e1; subst e2; subst e3
    have hx := hab.2 rfl
    rcases (show ordV ⟨ak, an, as'⟩ ⟨ck, cn, cs'⟩ = 0 ∨ ordV ⟨ak, an, as'⟩ ⟨ck, cn, cs'⟩ = 1 ∨ ordV ⟨ak, an, as'⟩ ⟨ck, cn, cs'⟩ = -1 by omega) with hy | hy | hy
    · exact line_eq_0 ak an ck cn as' cs' w hl s0 s1 s2 hx hy hy
    · exact line_eq_1 ak an ck cn as' cs' w hl s0 s1 s2 hx hy hy
    · exact line_eq_m ak an ck cn as' cs' w hl s0 s1 s2 hx hy hy
  · have hne : ¬ ordV ⟨ak, an, as'⟩ ⟨bk, bn, bs'⟩ = 0 := fun h => he (hab.1 h)
    by_cases hk : ak = bk
    · subst hk
      by_cases hn : an = bn
      · subst hn
        have hs : ¬ as'.toList = bs'.toList := fun h => he (by rw [ba_ext.1 h])
        rcases (show ordV ⟨ak, an, as'⟩ ⟨ak, an, bs'⟩ = 1 ∨ ordV ⟨ak, an, as'⟩ ⟨ak, an, bs'⟩ = -1 by omega) with hx | hx
        · exact line_s_g ak an ck cn _ _ as' bs' cs' w hl s0 s1 s2 hs hx rfl rfl
        · by_cases hy : ordV ⟨ak, an, bs'⟩ ⟨ck, cn, cs'⟩ = 1
          · exact line_s_l1 ak an ck cn _ as' bs' cs' w hl s0 s1 s2 hs hx hy rfl
          · have hy0 : ordV ⟨ak, an, bs'⟩ ⟨ck, cn, cs'⟩ ≤ 0 := by omega
            have hz := htr (by omega) hy0
            exact line_s_l0 ak an ck cn _ as' bs' cs' w hl s0 s1 s2 hy0 hs hx rfl (by have := hz.2 (.inl (by omega)); omega)
      · have hs := hn
        rcases (show ordV ⟨ak, an, as'⟩ ⟨ak, bn, bs'⟩ = 1 ∨ ordV ⟨ak, an, as'⟩ ⟨ak, bn, bs'⟩ = -1 by omega) with hx | hx
        · exact line_n_g ak an bn ck cn _ _ as' bs' cs' w hl s0 s1 s2 hs hx rfl rfl
        · by_cases hy : ordV ⟨ak, bn, bs'⟩ ⟨ck, cn, cs'⟩ = 1
          · exact line_n_l1 ak an bn ck cn _ as' bs' cs' w hl s0 s1 s2 hs hx hy rfl
          · have hy0 : ordV ⟨ak, bn, bs'⟩ ⟨ck, cn, cs'⟩ ≤ 0 := by omega
            have hz := htr (by omega) hy0
            exact line_n_l0 ak an bn ck cn _ as' bs' cs' w hl s0 s1 s2 hy0 hs hx rfl (by have := hz.2 (.inl (by omega)); omega)
    · have hs := hk
      rcases (show ordV ⟨ak, an, as'⟩ ⟨bk, bn, bs'⟩ = 1 ∨ ordV ⟨ak, an, as'⟩ ⟨bk, bn, bs'⟩ = -1 by omega) with hx | hx
      · exact line_k_g ak an bk bn ck cn _ _ as' bs' cs' w hl s0 s1 s2 hs hx rfl rfl
      · by_cases hy : ordV ⟨bk, bn, bs'⟩ ⟨ck, cn, cs'⟩ = 1
        · exact line_k_l1 ak an bk bn ck cn _ as' bs' cs' w hl s0 s1 s2 hs hx hy rfl
        · have hy0 : ordV ⟨bk, bn, bs'⟩ ⟨ck, cn, cs'⟩ ≤ 0 := by omega
          have hz := htr (by omega) hy0
          exact line_k_l0 ak an bk bn ck cn _ as' bs' cs' w hl s0 s1 s2 hy0 hs hx rfl (by have := hz.2 (.inl (by omega)); omega)

end Go.Proofs.YtdldhlbnbffieaaDoor
