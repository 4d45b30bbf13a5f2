/-
  What the document's own answers of layer 2 come to: Right, Truth, Of, And, Or, Not.
-/
import Derived.Test.YtdldhlbnbffieaaGreatDoorVHex
namespace Go.Proofs.YtdldhlbnbffieaaGreatDoor
set_option linter.unusedSimpArgs false
set_option linter.unusedVariables false
open Go.RowKit

theorem ref_right (k n : Int) (s : ByteArray) (w : World) :
    Calls Tryz.prog 24 #[.agg #[.int .i64 k, .int .i64 n, .string s]] w fun e w' => e = .returned (.bool (rightB k n s)) ∧ Below w.heap.size w w' := by
  go_enter Tryz.func24, Tryz.ntmps24
  go_wp2
  all_goals
    go_ret
    refine ⟨ret_bool ?_, (Below.refl _ _).alloc (Nat.le_refl _) _⟩
    go_light
    simp only [beq_iff_eq, beq_eq_false_iff_ne, ne_eq] at *
    simp [rightB, *]

/-- A truth as a number. -/
def truthN (k n : Int) (s : ByteArray) : Int := if truthB k n s = false then -2 else if k = 0 then -1 else n
def ofV (t : Int) : Val := if t < 0 then Val.zero else ⟨1, t, ⟨#[]⟩⟩
def andN (a b : Int) : Int := if a = -2 ∨ b = -2 then -2 else if a = 0 ∨ b = 0 then 0 else if a < 0 ∨ b < 0 then -1 else 1
def orN (a b : Int) : Int := if a = -2 ∨ b = -2 then -2 else if a = 1 ∨ b = 1 then 1 else if a < 0 ∨ b < 0 then -1 else 0
def notN (a : Int) : Int := if a < 0 then a else wrap64 (1 - a)

theorem ref_truth (k n : Int) (s : ByteArray) (w : World) :
    Calls Tryz.prog 15 #[.agg #[.int .i64 k, .int .i64 n, .string s]] w fun e w' => e = .returned (.int .i64 (truthN k n s)) ∧ Below w.heap.size w w' := by
  cases hr : rightB k n s
  · have HR := Lib.hid hr; clear hr
    go_enter Tryz.func15, Tryz.ntmps15
    go_wp2_with (go_at_call 24; refine (ref_right _ _ _ _).mono ?_; rintro e w1 ⟨rfl, hb⟩; (rw [HR.out]); have hz := hb.size; (try simp only [World.size_alloc, World.size_setCell, World.size_drew] at hz); (try (have z0 : w.heap.size < w1.heap.size := (by omega); have y0 := fun o => hb.cell (p := ⟨w.heap.size, o, none⟩) (by (try simp only [World.size_alloc, World.size_setCell, World.size_drew]); omega); have x0 := fun o => hb.frozen (p := ⟨w.heap.size, o, none⟩) (by (try simp only [World.size_alloc, World.size_setCell, World.size_drew]); omega); have q0 := tag_below hb (w.heap.size) (by (try simp only [World.size_alloc, World.size_setCell, World.size_drew]); omega); (try simp [go_sem] at y0); (try simp [go_sem] at x0); (try simp [tag_alloc, tag_set, tag_drew, tagObj] at q0))); (try (have z1 : w.heap.size + 1 < w1.heap.size := (by omega); have y1 := fun o => hb.cell (p := ⟨w.heap.size + 1, o, none⟩) (by (try simp only [World.size_alloc, World.size_setCell, World.size_drew]); omega); have x1 := fun o => hb.frozen (p := ⟨w.heap.size + 1, o, none⟩) (by (try simp only [World.size_alloc, World.size_setCell, World.size_drew]); omega); have q1 := tag_below hb (w.heap.size + 1) (by (try simp only [World.size_alloc, World.size_setCell, World.size_drew]); omega); (try simp [go_sem] at y1); (try simp [go_sem] at x1); (try simp [tag_alloc, tag_set, tag_drew, tagObj] at q1))); (try (have z2 : w.heap.size + 1 + 1 < w1.heap.size := (by omega); have y2 := fun o => hb.cell (p := ⟨w.heap.size + 1 + 1, o, none⟩) (by (try simp only [World.size_alloc, World.size_setCell, World.size_drew]); omega); have x2 := fun o => hb.frozen (p := ⟨w.heap.size + 1 + 1, o, none⟩) (by (try simp only [World.size_alloc, World.size_setCell, World.size_drew]); omega); have q2 := tag_below hb (w.heap.size + 1 + 1) (by (try simp only [World.size_alloc, World.size_setCell, World.size_drew]); omega); (try simp [go_sem] at y2); (try simp [go_sem] at x2); (try simp [tag_alloc, tag_set, tag_drew, tagObj] at q2))); (try (have z3 : w.heap.size + 1 + 1 + 1 < w1.heap.size := (by omega); have y3 := fun o => hb.cell (p := ⟨w.heap.size + 1 + 1 + 1, o, none⟩) (by (try simp only [World.size_alloc, World.size_setCell, World.size_drew]); omega); have x3 := fun o => hb.frozen (p := ⟨w.heap.size + 1 + 1 + 1, o, none⟩) (by (try simp only [World.size_alloc, World.size_setCell, World.size_drew]); omega); have q3 := tag_below hb (w.heap.size + 1 + 1 + 1) (by (try simp only [World.size_alloc, World.size_setCell, World.size_drew]); omega); (try simp [go_sem] at y3); (try simp [go_sem] at x3); (try simp [tag_alloc, tag_set, tag_drew, tagObj] at q3))); (try (have z4 : w.heap.size + 1 + 1 + 1 + 1 < w1.heap.size := (by omega); have y4 := fun o => hb.cell (p := ⟨w.heap.size + 1 + 1 + 1 + 1, o, none⟩) (by (try simp only [World.size_alloc, World.size_setCell, World.size_drew]); omega); have x4 := fun o => hb.frozen (p := ⟨w.heap.size + 1 + 1 + 1 + 1, o, none⟩) (by (try simp only [World.size_alloc, World.size_setCell, World.size_drew]); omega); have q4 := tag_below hb (w.heap.size + 1 + 1 + 1 + 1) (by (try simp only [World.size_alloc, World.size_setCell, World.size_drew]); omega); (try simp [go_sem] at y4); (try simp [go_sem] at x4); (try simp [tag_alloc, tag_set, tag_drew, tagObj] at q4))); (try (have z5 : w.heap.size + 1 + 1 + 1 + 1 + 1 < w1.heap.size := (by omega); have y5 := fun o => hb.cell (p := ⟨w.heap.size + 1 + 1 + 1 + 1 + 1, o, none⟩) (by (try simp only [World.size_alloc, World.size_setCell, World.size_drew]); omega); have x5 := fun o => hb.frozen (p := ⟨w.heap.size + 1 + 1 + 1 + 1 + 1, o, none⟩) (by (try simp only [World.size_alloc, World.size_setCell, World.size_drew]); omega); have q5 := tag_below hb (w.heap.size + 1 + 1 + 1 + 1 + 1) (by (try simp only [World.size_alloc, World.size_setCell, World.size_drew]); omega); (try simp [go_sem] at y5); (try simp [go_sem] at x5); (try simp [tag_alloc, tag_set, tag_drew, tagObj] at q5))); (try (have z6 : w.heap.size + 1 + 1 + 1 + 1 + 1 + 1 < w1.heap.size := (by omega); have y6 := fun o => hb.cell (p := ⟨w.heap.size + 1 + 1 + 1 + 1 + 1 + 1, o, none⟩) (by (try simp only [World.size_alloc, World.size_setCell, World.size_drew]); omega); have x6 := fun o => hb.frozen (p := ⟨w.heap.size + 1 + 1 + 1 + 1 + 1 + 1, o, none⟩) (by (try simp only [World.size_alloc, World.size_setCell, World.size_drew]); omega); have q6 := tag_below hb (w.heap.size + 1 + 1 + 1 + 1 + 1 + 1) (by (try simp only [World.size_alloc, World.size_setCell, World.size_drew]); omega); (try simp [go_sem] at y6); (try simp [go_sem] at x6); (try simp [tag_alloc, tag_set, tag_drew, tagObj] at q6))); (try (have z7 : w.heap.size + 1 + 1 + 1 + 1 + 1 + 1 + 1 < w1.heap.size := (by omega); have y7 := fun o => hb.cell (p := ⟨w.heap.size + 1 + 1 + 1 + 1 + 1 + 1 + 1, o, none⟩) (by (try simp only [World.size_alloc, World.size_setCell, World.size_drew]); omega); have x7 := fun o => hb.frozen (p := ⟨w.heap.size + 1 + 1 + 1 + 1 + 1 + 1 + 1, o, none⟩) (by (try simp only [World.size_alloc, World.size_setCell, World.size_drew]); omega); have q7 := tag_below hb (w.heap.size + 1 + 1 + 1 + 1 + 1 + 1 + 1) (by (try simp only [World.size_alloc, World.size_setCell, World.size_drew]); omega); (try simp [go_sem] at y7); (try simp [go_sem] at x7); (try simp [tag_alloc, tag_set, tag_drew, tagObj] at q7))); obtain ⟨hc, hf⟩ := bcell hb; have ht := tag_below hb)
    all_goals
      go_ret
      exact ⟨ret_int (by simp [truthN, truthB, HR.out]), by ((repeat with_reducible first | exact Below.refl _ _ | apply b_alloc | apply b_drewN | apply b_drew | refine b_set ?_ ?_ _ | (refine bstep ?_ (by assumption))); (all_goals (simp; try omega)))⟩
  · have hk := right_kind hr
    have HR := Lib.hid hr; clear hr
    rcases hk with rfl | rfl | rfl | rfl | rfl | rfl
    all_goals
      go_enter Tryz.func15, Tryz.ntmps15
      go_wp2_with (go_at_call 24; refine (ref_right _ _ _ _).mono ?_; rintro e w1 ⟨rfl, hb⟩; (rw [HR.out]); have hz := hb.size; (try simp only [World.size_alloc, World.size_setCell, World.size_drew] at hz); (try (have z0 : w.heap.size < w1.heap.size := (by omega); have y0 := fun o => hb.cell (p := ⟨w.heap.size, o, none⟩) (by (try simp only [World.size_alloc, World.size_setCell, World.size_drew]); omega); have x0 := fun o => hb.frozen (p := ⟨w.heap.size, o, none⟩) (by (try simp only [World.size_alloc, World.size_setCell, World.size_drew]); omega); have q0 := tag_below hb (w.heap.size) (by (try simp only [World.size_alloc, World.size_setCell, World.size_drew]); omega); (try simp [go_sem] at y0); (try simp [go_sem] at x0); (try simp [tag_alloc, tag_set, tag_drew, tagObj] at q0))); (try (have z1 : w.heap.size + 1 < w1.heap.size := (by omega); have y1 := fun o => hb.cell (p := ⟨w.heap.size + 1, o, none⟩) (by (try simp only [World.size_alloc, World.size_setCell, World.size_drew]); omega); have x1 := fun o => hb.frozen (p := ⟨w.heap.size + 1, o, none⟩) (by (try simp only [World.size_alloc, World.size_setCell, World.size_drew]); omega); have q1 := tag_below hb (w.heap.size + 1) (by (try simp only [World.size_alloc, World.size_setCell, World.size_drew]); omega); (try simp [go_sem] at y1); (try simp [go_sem] at x1); (try simp [tag_alloc, tag_set, tag_drew, tagObj] at q1))); (try (have z2 : w.heap.size + 1 + 1 < w1.heap.size := (by omega); have y2 := fun o => hb.cell (p := ⟨w.heap.size + 1 + 1, o, none⟩) (by (try simp only [World.size_alloc, World.size_setCell, World.size_drew]); omega); have x2 := fun o => hb.frozen (p := ⟨w.heap.size + 1 + 1, o, none⟩) (by (try simp only [World.size_alloc, World.size_setCell, World.size_drew]); omega); have q2 := tag_below hb (w.heap.size + 1 + 1) (by (try simp only [World.size_alloc, World.size_setCell, World.size_drew]); omega); (try simp [go_sem] at y2); (try simp [go_sem] at x2); (try simp [tag_alloc, tag_set, tag_drew, tagObj] at q2))); (try (have z3 : w.heap.size + 1 + 1 + 1 < w1.heap.size := (by omega); have y3 := fun o => hb.cell (p := ⟨w.heap.size + 1 + 1 + 1, o, none⟩) (by (try simp only [World.size_alloc, World.size_setCell, World.size_drew]); omega); have x3 := fun o => hb.frozen (p := ⟨w.heap.size + 1 + 1 + 1, o, none⟩) (by (try simp only [World.size_alloc, World.size_setCell, World.size_drew]); omega); have q3 := tag_below hb (w.heap.size + 1 + 1 + 1) (by (try simp only [World.size_alloc, World.size_setCell, World.size_drew]); omega); (try simp [go_sem] at y3); (try simp [go_sem] at x3); (try simp [tag_alloc, tag_set, tag_drew, tagObj] at q3))); (try (have z4 : w.heap.size + 1 + 1 + 1 + 1 < w1.heap.size := (by omega); have y4 := fun o => hb.cell (p := ⟨w.heap.size + 1 + 1 + 1 + 1, o, none⟩) (by (try simp only [World.size_alloc, World.size_setCell, World.size_drew]); omega); have x4 := fun o => hb.frozen (p := ⟨w.heap.size + 1 + 1 + 1 + 1, o, none⟩) (by (try simp only [World.size_alloc, World.size_setCell, World.size_drew]); omega); have q4 := tag_below hb (w.heap.size + 1 + 1 + 1 + 1) (by (try simp only [World.size_alloc, World.size_setCell, World.size_drew]); omega); (try simp [go_sem] at y4); (try simp [go_sem] at x4); (try simp [tag_alloc, tag_set, tag_drew, tagObj] at q4))); (try (have z5 : w.heap.size + 1 + 1 + 1 + 1 + 1 < w1.heap.size := (by omega); have y5 := fun o => hb.cell (p := ⟨w.heap.size + 1 + 1 + 1 + 1 + 1, o, none⟩) (by (try simp only [World.size_alloc, World.size_setCell, World.size_drew]); omega); have x5 := fun o => hb.frozen (p := ⟨w.heap.size + 1 + 1 + 1 + 1 + 1, o, none⟩) (by (try simp only [World.size_alloc, World.size_setCell, World.size_drew]); omega); have q5 := tag_below hb (w.heap.size + 1 + 1 + 1 + 1 + 1) (by (try simp only [World.size_alloc, World.size_setCell, World.size_drew]); omega); (try simp [go_sem] at y5); (try simp [go_sem] at x5); (try simp [tag_alloc, tag_set, tag_drew, tagObj] at q5))); (try (have z6 : w.heap.size + 1 + 1 + 1 + 1 + 1 + 1 < w1.heap.size := (by omega); have y6 := fun o => hb.cell (p := ⟨w.heap.size + 1 + 1 + 1 + 1 + 1 + 1, o, none⟩) (by (try simp only [World.size_alloc, World.size_setCell, World.size_drew]); omega); have x6 := fun o => hb.frozen (p := ⟨w.heap.size + 1 + 1 + 1 + 1 + 1 + 1, o, none⟩) (by (try simp only [World.size_alloc, World.size_setCell, World.size_drew]); omega); have q6 := tag_below hb (w.heap.size + 1 + 1 + 1 + 1 + 1 + 1) (by (try simp only [World.size_alloc, World.size_setCell, World.size_drew]); omega); (try simp [go_sem] at y6); (try simp [go_sem] at x6); (try simp [tag_alloc, tag_set, tag_drew, tagObj] at q6))); (try (have z7 : w.heap.size + 1 + 1 + 1 + 1 + 1 + 1 + 1 < w1.heap.size := (by omega); have y7 := fun o => hb.cell (p := ⟨w.heap.size + 1 + 1 + 1 + 1 + 1 + 1 + 1, o, none⟩) (by (try simp only [World.size_alloc, World.size_setCell, World.size_drew]); omega); have x7 := fun o => hb.frozen (p := ⟨w.heap.size + 1 + 1 + 1 + 1 + 1 + 1 + 1, o, none⟩) (by (try simp only [World.size_alloc, World.size_setCell, World.size_drew]); omega); have q7 := tag_below hb (w.heap.size + 1 + 1 + 1 + 1 + 1 + 1 + 1) (by (try simp only [World.size_alloc, World.size_setCell, World.size_drew]); omega); (try simp [go_sem] at y7); (try simp [go_sem] at x7); (try simp [tag_alloc, tag_set, tag_drew, tagObj] at q7))); obtain ⟨hc, hf⟩ := bcell hb; have ht := tag_below hb)
    all_goals
      go_ret
      exact ⟨ret_int (by simp [truthN, truthB, HR.out]), by ((repeat with_reducible first | exact Below.refl _ _ | apply b_alloc | apply b_drewN | apply b_drew | refine b_set ?_ ?_ _ | (refine bstep ?_ (by assumption))); (all_goals (simp; try omega)))⟩

theorem ref_of (t : Int) (w : World) :
    Calls Tryz.prog 16 #[.int .i64 t] w fun e w' => e = .returned (.agg #[.int .i64 (ofV t).k, .int .i64 (ofV t).n, .string (ofV t).s]) ∧ Below w.heap.size w w' := by
  by_cases h : t < 0
  all_goals
    first | have HV : Hid (ofV t = Val.zero) := Lib.hid (if_pos h) | have HV : Hid (ofV t = ⟨1, t, ⟨#[]⟩⟩) := Lib.hid (if_neg h)
    go_enter Tryz.func16, Tryz.ntmps16
    go_wp2
    refine bodyPost_ret (v := (ofV t).enc) ?_ rfl ⟨rfl, by ((repeat with_reducible first | exact Below.refl _ _ | apply b_alloc | apply b_drewN | apply b_drew | refine b_set ?_ ?_ _ | (refine bstep ?_ (by assumption))); (all_goals (simp; try omega)))⟩
    rw [HV.out]
    simp [results, Tryz.results16, go_sem, Val.enc, Val.zero, *]

theorem ref_and (a b : Int) (w : World) : Calls Tryz.prog 17 #[.int .i64 a, .int .i64 b] w fun e w' => e = .returned (.int .i64 (andN a b)) ∧ w' = w := by
  go_enter Tryz.func17, Tryz.ntmps17
  go_wp2
  all_goals
    go_ret
    refine ⟨ret_int ?_, rfl⟩
    simp_all [andN]
theorem ref_or (a b : Int) (w : World) : Calls Tryz.prog 18 #[.int .i64 a, .int .i64 b] w fun e w' => e = .returned (.int .i64 (orN a b)) ∧ w' = w := by
  go_enter Tryz.func18, Tryz.ntmps18
  go_wp2
  all_goals
    go_ret
    refine ⟨ret_int ?_, rfl⟩
    simp_all [orN]
theorem ref_not (a : Int) (w : World) : Calls Tryz.prog 19 #[.int .i64 a] w fun e w' => e = .returned (.int .i64 (notN a)) ∧ w' = w := by
  go_enter Tryz.func19, Tryz.ntmps19
  go_wp2
  all_goals
    go_ret
    refine ⟨ret_int ?_, rfl⟩
    unfold notN
    split <;> first | rfl | omega

end Go.Proofs.YtdldhlbnbffieaaGreatDoor
