/-
  ValueNots answers true.
-/
import Derived.Test.YtdldhlbnbffieaaDoorV02Alive
import Derived.Test.YtdldhlbnbffieaaDoorPNots
namespace Go.Proofs.YtdldhlbnbffieaaDoor
set_option linter.unusedSimpArgs false
set_option linter.unusedVariables false
open Go.RowKit

set_option maxRecDepth 100000 in
set_option maxHeartbeats 3200000 in
theorem nots_any (x0 x1 x2 : Int) (w : World) (hl : Laid w) :
    Calls Tryd.prog 5 #[.agg #[.int .i64 x0, .int .i64 x1, .int .i64 x2]] w fun e w' => e = .returned (.bool true) ∧ Below w.heap.size w w' := by
  have HL := Lib.hid hl; clear hl
  go_enter Tryd.func5, Tryd.ntmps5
  go_wp2_with fail
  go_loopw [4] (fun i wr => ∃ c0 c1 c2 : Fin 3, (i = .int .i64 0 ∨ i = .int .i64 1 ∨ i = .int .i64 2 ∨ i = .int .i64 3) ∧ wr = ((w.alloc (Obj.cells #[.int .i64 x0, .int .i64 x1, .int .i64 x2] 35)).alloc (Obj.cells #[Value.int .i64 (tv c0).k, .int .i64 (tv c0).n, .string (tv c0).s, .int .i64 (tv c1).k, .int .i64 (tv c1).n, .string (tv c1).s, .int .i64 (tv c2).k, .int .i64 (tv c2).n, .string (tv c2).s] 36))) (fun i _ => 3 - (intOf i).toNat)
  case atStart => exact ⟨0, 0, 0, Or.inl rfl, rfl⟩
  case round =>
    obtain ⟨c0, c1, c2, hi, rfl⟩ := hrel
    rcases hi with rfl | rfl | rfl | rfl
    · by_cases hx : 0 ≤ x0
      · go_wp2
        go_roundw
        case rel =>
          rcases (show x0 % 2 = 0 ∨ x0 % 2 = 1 by omega) with hp | hp
          · exact ⟨1, c1, c2, Or.inr (Or.inl rfl), by rw [hp]; rfl⟩
          · exact ⟨2, c1, c2, Or.inr (Or.inl rfl), by rw [hp]; rfl⟩
        case measure => decide
      · go_wp2
        go_roundw
        case rel => exact ⟨c0, c1, c2, Or.inr (Or.inl rfl), rfl⟩
        case measure => decide
    · by_cases hx : 0 ≤ x1
      · go_wp2
        go_roundw
        case rel =>
          rcases (show x1 % 2 = 0 ∨ x1 % 2 = 1 by omega) with hp | hp
          · exact ⟨c0, 1, c2, Or.inr (Or.inr (Or.inl rfl)), by rw [hp]; rfl⟩
          · exact ⟨c0, 2, c2, Or.inr (Or.inr (Or.inl rfl)), by rw [hp]; rfl⟩
        case measure => decide
      · go_wp2
        go_roundw
        case rel => exact ⟨c0, c1, c2, Or.inr (Or.inr (Or.inl rfl)), rfl⟩
        case measure => decide
    · by_cases hx : 0 ≤ x2
      · go_wp2
        go_roundw
        case rel =>
          rcases (show x2 % 2 = 0 ∨ x2 % 2 = 1 by omega) with hp | hp
          · exact ⟨c0, c1, 1, Or.inr (Or.inr (Or.inr rfl)), by rw [hp]; rfl⟩
          · exact ⟨c0, c1, 2, Or.inr (Or.inr (Or.inr rfl)), by rw [hp]; rfl⟩
        case measure => decide
      · go_wp2
        go_roundw
        case rel => exact ⟨c0, c1, c2, Or.inr (Or.inr (Or.inr rfl)), rfl⟩
        case measure => decide
    · have Lv : True := trivial
      have Yv : True := trivial
      have HBW : Hid (Below w.heap.size w w) := Lib.hid (Below.refl _ _)
      go_wp2_with fail
      refine (and_tv c0 c1 _).mono ?_
      rintro e w1 ⟨rfl, hb⟩
      replace Yv : ∀ o, w1.cell? ⟨w.heap.size + 1, o, none⟩ = #[Value.int .i64 (tv c0).k, .int .i64 (tv c0).n, .string (tv c0).s, .int .i64 (tv c1).k, .int .i64 (tv c1).n, .string (tv c1).s, .int .i64 (tv c2).k, .int .i64 (tv c2).n, .string (tv c2).s][o]? := fun o => (hb.cell (p := ⟨w.heap.size + 1, o, none⟩) (by (try simp only [World.size_alloc, World.size_setCell, World.size_drew]); omega)).trans (by simp [go_sem, *])
      have hz := hb.size
      (try simp only [World.size_alloc, World.size_setCell, World.size_drew] at hz)
      replace Lv : w.heap.size + 1 < w1.heap.size := by omega
      replace HBW : Hid (Below w.heap.size w w1) := Lib.hid (by refine bstep ?_ hb; (repeat with_reducible first | exact HBW.out | apply b_alloc | refine b_set ?_ ?_ _); all_goals (simp; try omega))
      clear hb hz
      go_wp2_with fail
      refine (and_tv c1 c0 _).mono ?_
      rintro e w2 ⟨rfl, hb⟩
      rw [and3_comm c0 c1]
      have L5 : True := trivial
      have Y5 : True := trivial
      replace Yv : ∀ o, w2.cell? ⟨w.heap.size + 1, o, none⟩ = #[Value.int .i64 (tv c0).k, .int .i64 (tv c0).n, .string (tv c0).s, .int .i64 (tv c1).k, .int .i64 (tv c1).n, .string (tv c1).s, .int .i64 (tv c2).k, .int .i64 (tv c2).n, .string (tv c2).s][o]? := fun o => (hb.cell (p := ⟨w.heap.size + 1, o, none⟩) (by (try simp only [World.size_alloc, World.size_setCell, World.size_drew]); omega)).trans (by simp [go_sem, *])
      replace Y5 : ∀ o, w2.cell? ⟨w1.heap.size, o, none⟩ = #[Value.int .i64 (tv (and3 c0 c1)).k, .int .i64 (tv (and3 c0 c1)).n, .string (tv (and3 c0 c1)).s][o]? := fun o => (hb.cell (p := ⟨w1.heap.size, o, none⟩) (by (try simp only [World.size_alloc, World.size_setCell, World.size_drew]); omega)).trans (by simp [go_sem, *])
      have hz := hb.size
      (try simp only [World.size_alloc, World.size_setCell, World.size_drew] at hz)
      replace Lv : w.heap.size + 1 < w2.heap.size := by omega
      replace L5 : w1.heap.size < w2.heap.size := by omega
      replace HBW : Hid (Below w.heap.size w w2) := Lib.hid (by refine bstep ?_ hb; (repeat with_reducible first | exact HBW.out | apply b_alloc | refine b_set ?_ ?_ _); all_goals (simp; try omega))
      clear hb hz
      go_wp2_with fail
      refine (and_tv (and3 c0 c1) c2 _).mono ?_
      rintro e w3 ⟨rfl, hb⟩
      have L7 : True := trivial
      have Y7 : True := trivial
      replace Yv : ∀ o, w3.cell? ⟨w.heap.size + 1, o, none⟩ = #[Value.int .i64 (tv c0).k, .int .i64 (tv c0).n, .string (tv c0).s, .int .i64 (tv c1).k, .int .i64 (tv c1).n, .string (tv c1).s, .int .i64 (tv c2).k, .int .i64 (tv c2).n, .string (tv c2).s][o]? := fun o => (hb.cell (p := ⟨w.heap.size + 1, o, none⟩) (by (try simp only [World.size_alloc, World.size_setCell, World.size_drew]); omega)).trans (by simp [go_sem, *])
      replace Y5 : ∀ o, w3.cell? ⟨w1.heap.size, o, none⟩ = #[Value.int .i64 (tv (and3 c0 c1)).k, .int .i64 (tv (and3 c0 c1)).n, .string (tv (and3 c0 c1)).s][o]? := fun o => (hb.cell (p := ⟨w1.heap.size, o, none⟩) (by (try simp only [World.size_alloc, World.size_setCell, World.size_drew]); omega)).trans (by simp [go_sem, *])
      replace Y7 : ∀ o, w3.cell? ⟨w2.heap.size, o, none⟩ = #[Value.int .i64 (tv (and3 c0 c1)).k, .int .i64 (tv (and3 c0 c1)).n, .string (tv (and3 c0 c1)).s][o]? := fun o => (hb.cell (p := ⟨w2.heap.size, o, none⟩) (by (try simp only [World.size_alloc, World.size_setCell, World.size_drew]); omega)).trans (by simp [go_sem, *])
      have hz := hb.size
      (try simp only [World.size_alloc, World.size_setCell, World.size_drew] at hz)
      replace Lv : w.heap.size + 1 < w3.heap.size := by omega
      replace L5 : w1.heap.size < w3.heap.size := by omega
      replace L7 : w2.heap.size < w3.heap.size := by omega
      replace HBW : Hid (Below w.heap.size w w3) := Lib.hid (by refine bstep ?_ hb; (repeat with_reducible first | exact HBW.out | apply b_alloc | refine b_set ?_ ?_ _); all_goals (simp; try omega))
      clear hb hz
      go_wp2_with fail
      refine (and_tv c1 c2 _).mono ?_
      rintro e w4 ⟨rfl, hb⟩
      have L9 : True := trivial
      have Y9 : True := trivial
      replace Yv : ∀ o, w4.cell? ⟨w.heap.size + 1, o, none⟩ = #[Value.int .i64 (tv c0).k, .int .i64 (tv c0).n, .string (tv c0).s, .int .i64 (tv c1).k, .int .i64 (tv c1).n, .string (tv c1).s, .int .i64 (tv c2).k, .int .i64 (tv c2).n, .string (tv c2).s][o]? := fun o => (hb.cell (p := ⟨w.heap.size + 1, o, none⟩) (by (try simp only [World.size_alloc, World.size_setCell, World.size_drew]); omega)).trans (by simp [go_sem, *])
      replace Y5 : ∀ o, w4.cell? ⟨w1.heap.size, o, none⟩ = #[Value.int .i64 (tv (and3 c0 c1)).k, .int .i64 (tv (and3 c0 c1)).n, .string (tv (and3 c0 c1)).s][o]? := fun o => (hb.cell (p := ⟨w1.heap.size, o, none⟩) (by (try simp only [World.size_alloc, World.size_setCell, World.size_drew]); omega)).trans (by simp [go_sem, *])
      replace Y7 : ∀ o, w4.cell? ⟨w2.heap.size, o, none⟩ = #[Value.int .i64 (tv (and3 c0 c1)).k, .int .i64 (tv (and3 c0 c1)).n, .string (tv (and3 c0 c1)).s][o]? := fun o => (hb.cell (p := ⟨w2.heap.size, o, none⟩) (by (try simp only [World.size_alloc, World.size_setCell, World.size_drew]); omega)).trans (by simp [go_sem, *])
      replace Y9 : ∀ o, w4.cell? ⟨w3.heap.size, o, none⟩ = #[Value.int .i64 (tv (and3 (and3 c0 c1) c2)).k, .int .i64 (tv (and3 (and3 c0 c1) c2)).n, .string (tv (and3 (and3 c0 c1) c2)).s][o]? := fun o => (hb.cell (p := ⟨w3.heap.size, o, none⟩) (by (try simp only [World.size_alloc, World.size_setCell, World.size_drew]); omega)).trans (by simp [go_sem, *])
      have hz := hb.size
      (try simp only [World.size_alloc, World.size_setCell, World.size_drew] at hz)
      replace Lv : w.heap.size + 1 < w4.heap.size := by omega
      replace L5 : w1.heap.size < w4.heap.size := by omega
      replace L7 : w2.heap.size < w4.heap.size := by omega
      replace L9 : w3.heap.size < w4.heap.size := by omega
      have G11 := Lv
      have M5 := L5
      have M7 := L7
      have M9 := L9
      replace HBW : Hid (Below w.heap.size w w4) := Lib.hid (by refine bstep ?_ hb; (repeat with_reducible first | exact HBW.out | apply b_alloc | refine b_set ?_ ?_ _); all_goals (simp; try omega))
      clear hb hz
      go_wp2_with fail
      refine (and_tv c0 (and3 c1 c2) _).mono ?_
      rintro e w5 ⟨rfl, hb⟩
      rw [and3_assoc c0 c1 c2]
      have L11 : True := trivial
      have Y11 : True := trivial
      replace Yv : ∀ o, w5.cell? ⟨w.heap.size + 1, o, none⟩ = #[Value.int .i64 (tv c0).k, .int .i64 (tv c0).n, .string (tv c0).s, .int .i64 (tv c1).k, .int .i64 (tv c1).n, .string (tv c1).s, .int .i64 (tv c2).k, .int .i64 (tv c2).n, .string (tv c2).s][o]? := fun o => (hb.cell (p := ⟨w.heap.size + 1, o, none⟩) (by (try simp only [World.size_alloc, World.size_setCell, World.size_drew]); omega)).trans (by simp [go_sem, *])
      replace Y5 : ∀ o, w5.cell? ⟨w1.heap.size, o, none⟩ = #[Value.int .i64 (tv (and3 c0 c1)).k, .int .i64 (tv (and3 c0 c1)).n, .string (tv (and3 c0 c1)).s][o]? := fun o => (hb.cell (p := ⟨w1.heap.size, o, none⟩) (by (try simp only [World.size_alloc, World.size_setCell, World.size_drew]); omega)).trans (by simp [go_sem, *])
      replace Y7 : ∀ o, w5.cell? ⟨w2.heap.size, o, none⟩ = #[Value.int .i64 (tv (and3 c0 c1)).k, .int .i64 (tv (and3 c0 c1)).n, .string (tv (and3 c0 c1)).s][o]? := fun o => (hb.cell (p := ⟨w2.heap.size, o, none⟩) (by (try simp only [World.size_alloc, World.size_setCell, World.size_drew]); omega)).trans (by simp [go_sem, *])
      replace Y9 : ∀ o, w5.cell? ⟨w3.heap.size, o, none⟩ = #[Value.int .i64 (tv (and3 (and3 c0 c1) c2)).k, .int .i64 (tv (and3 (and3 c0 c1) c2)).n, .string (tv (and3 (and3 c0 c1) c2)).s][o]? := fun o => (hb.cell (p := ⟨w3.heap.size, o, none⟩) (by (try simp only [World.size_alloc, World.size_setCell, World.size_drew]); omega)).trans (by simp [go_sem, *])
      replace Y11 : ∀ o, w5.cell? ⟨w4.heap.size, o, none⟩ = #[Value.int .i64 (tv (and3 c1 c2)).k, .int .i64 (tv (and3 c1 c2)).n, .string (tv (and3 c1 c2)).s][o]? := fun o => (hb.cell (p := ⟨w4.heap.size, o, none⟩) (by (try simp only [World.size_alloc, World.size_setCell, World.size_drew]); omega)).trans (by simp [go_sem, *])
      have X11 := fun o => hb.frozen (p := ⟨w4.heap.size, o, none⟩) (by (try simp only [World.size_alloc, World.size_setCell, World.size_drew]); omega)
      (try simp [go_sem] at X11)
      have hz := hb.size
      (try simp only [World.size_alloc, World.size_setCell, World.size_drew] at hz)
      replace Lv : w.heap.size + 1 < w5.heap.size := by omega
      replace L5 : w1.heap.size < w5.heap.size := by omega
      replace L7 : w2.heap.size < w5.heap.size := by omega
      replace L9 : w3.heap.size < w5.heap.size := by omega
      replace L11 : w4.heap.size < w5.heap.size := by omega
      have N5 : ¬ w4.heap.size = w1.heap.size := by omega
      have O5 : ¬ w1.heap.size = w4.heap.size := by omega
      have N7 : ¬ w4.heap.size = w2.heap.size := by omega
      have O7 : ¬ w2.heap.size = w4.heap.size := by omega
      have N9 : ¬ w4.heap.size = w3.heap.size := by omega
      have O9 : ¬ w3.heap.size = w4.heap.size := by omega
      have Nv : ¬ w4.heap.size = w.heap.size + 1 := by omega
      have Ov : ¬ w.heap.size + 1 = w4.heap.size := by omega
      replace HBW : Hid (Below w.heap.size w w5) := Lib.hid (by refine bstep ?_ hb; (repeat with_reducible first | exact HBW.out | apply b_alloc | refine b_set ?_ ?_ _); all_goals (simp; try omega))
      clear hb hz
      go_wp2_with fail
      refine (not_tv (and3 c0 c1) _).mono ?_
      rintro e w6 ⟨rfl, hb⟩
      replace Yv : ∀ o, w6.cell? ⟨w.heap.size + 1, o, none⟩ = #[Value.int .i64 (tv c0).k, .int .i64 (tv c0).n, .string (tv c0).s, .int .i64 (tv c1).k, .int .i64 (tv c1).n, .string (tv c1).s, .int .i64 (tv c2).k, .int .i64 (tv c2).n, .string (tv c2).s][o]? := fun o => (hb.cell (p := ⟨w.heap.size + 1, o, none⟩) (by (try simp only [World.size_alloc, World.size_setCell, World.size_drew]); omega)).trans (by simp [go_sem, *])
      replace Y5 : ∀ o, w6.cell? ⟨w1.heap.size, o, none⟩ = #[Value.int .i64 (tv (and3 c0 c1)).k, .int .i64 (tv (and3 c0 c1)).n, .string (tv (and3 c0 c1)).s][o]? := fun o => (hb.cell (p := ⟨w1.heap.size, o, none⟩) (by (try simp only [World.size_alloc, World.size_setCell, World.size_drew]); omega)).trans (by simp [go_sem, *])
      replace Y7 : ∀ o, w6.cell? ⟨w2.heap.size, o, none⟩ = #[Value.int .i64 (tv (and3 c0 c1)).k, .int .i64 (tv (and3 c0 c1)).n, .string (tv (and3 c0 c1)).s][o]? := fun o => (hb.cell (p := ⟨w2.heap.size, o, none⟩) (by (try simp only [World.size_alloc, World.size_setCell, World.size_drew]); omega)).trans (by simp [go_sem, *])
      replace Y9 : ∀ o, w6.cell? ⟨w3.heap.size, o, none⟩ = #[Value.int .i64 (tv (and3 (and3 c0 c1) c2)).k, .int .i64 (tv (and3 (and3 c0 c1) c2)).n, .string (tv (and3 (and3 c0 c1) c2)).s][o]? := fun o => (hb.cell (p := ⟨w3.heap.size, o, none⟩) (by (try simp only [World.size_alloc, World.size_setCell, World.size_drew]); omega)).trans (by simp [go_sem, *])
      replace Y11 : ∀ o, w6.cell? ⟨w4.heap.size, o, none⟩ = #[Value.int .i64 (tv (and3 (and3 c0 c1) c2)).k, .int .i64 (tv (and3 (and3 c0 c1) c2)).n, .string (tv (and3 (and3 c0 c1) c2)).s][o]? := fun o => (hb.cell (p := ⟨w4.heap.size, o, none⟩) (by (try simp only [World.size_alloc, World.size_setCell, World.size_drew]); omega)).trans (by rcases o with _ | _ | _ | o <;> simp [go_sem, *])
      have hz := hb.size
      (try simp only [World.size_alloc, World.size_setCell, World.size_drew] at hz)
      replace Lv : w.heap.size + 1 < w6.heap.size := by omega
      replace L5 : w1.heap.size < w6.heap.size := by omega
      replace L7 : w2.heap.size < w6.heap.size := by omega
      replace L9 : w3.heap.size < w6.heap.size := by omega
      replace L11 : w4.heap.size < w6.heap.size := by omega
      replace HBW : Hid (Below w.heap.size w w6) := Lib.hid (by refine bstep ?_ hb; (repeat with_reducible first | exact HBW.out | apply b_alloc | refine b_set ?_ ?_ _); all_goals (simp; try omega))
      clear hb hz
      go_wp2_with fail
      refine (not_tv c0 _).mono ?_
      rintro e w7 ⟨rfl, hb⟩
      have L14 : True := trivial
      have Y14 : True := trivial
      replace Yv : ∀ o, w7.cell? ⟨w.heap.size + 1, o, none⟩ = #[Value.int .i64 (tv c0).k, .int .i64 (tv c0).n, .string (tv c0).s, .int .i64 (tv c1).k, .int .i64 (tv c1).n, .string (tv c1).s, .int .i64 (tv c2).k, .int .i64 (tv c2).n, .string (tv c2).s][o]? := fun o => (hb.cell (p := ⟨w.heap.size + 1, o, none⟩) (by (try simp only [World.size_alloc, World.size_setCell, World.size_drew]); omega)).trans (by simp [go_sem, *])
      replace Y5 : ∀ o, w7.cell? ⟨w1.heap.size, o, none⟩ = #[Value.int .i64 (tv (and3 c0 c1)).k, .int .i64 (tv (and3 c0 c1)).n, .string (tv (and3 c0 c1)).s][o]? := fun o => (hb.cell (p := ⟨w1.heap.size, o, none⟩) (by (try simp only [World.size_alloc, World.size_setCell, World.size_drew]); omega)).trans (by simp [go_sem, *])
      replace Y7 : ∀ o, w7.cell? ⟨w2.heap.size, o, none⟩ = #[Value.int .i64 (tv (and3 c0 c1)).k, .int .i64 (tv (and3 c0 c1)).n, .string (tv (and3 c0 c1)).s][o]? := fun o => (hb.cell (p := ⟨w2.heap.size, o, none⟩) (by (try simp only [World.size_alloc, World.size_setCell, World.size_drew]); omega)).trans (by simp [go_sem, *])
      replace Y9 : ∀ o, w7.cell? ⟨w3.heap.size, o, none⟩ = #[Value.int .i64 (tv (and3 (and3 c0 c1) c2)).k, .int .i64 (tv (and3 (and3 c0 c1) c2)).n, .string (tv (and3 (and3 c0 c1) c2)).s][o]? := fun o => (hb.cell (p := ⟨w3.heap.size, o, none⟩) (by (try simp only [World.size_alloc, World.size_setCell, World.size_drew]); omega)).trans (by simp [go_sem, *])
      replace Y11 : ∀ o, w7.cell? ⟨w4.heap.size, o, none⟩ = #[Value.int .i64 (tv (and3 (and3 c0 c1) c2)).k, .int .i64 (tv (and3 (and3 c0 c1) c2)).n, .string (tv (and3 (and3 c0 c1) c2)).s][o]? := fun o => (hb.cell (p := ⟨w4.heap.size, o, none⟩) (by (try simp only [World.size_alloc, World.size_setCell, World.size_drew]); omega)).trans (by simp [go_sem, *])
      replace Y14 : ∀ o, w7.cell? ⟨w6.heap.size, o, none⟩ = #[Value.int .i64 (tv (not3 (and3 c0 c1))).k, .int .i64 (tv (not3 (and3 c0 c1))).n, .string (tv (not3 (and3 c0 c1))).s][o]? := fun o => (hb.cell (p := ⟨w6.heap.size, o, none⟩) (by (try simp only [World.size_alloc, World.size_setCell, World.size_drew]); omega)).trans (by simp [go_sem, *])
      have hz := hb.size
      (try simp only [World.size_alloc, World.size_setCell, World.size_drew] at hz)
      replace Lv : w.heap.size + 1 < w7.heap.size := by omega
      replace L5 : w1.heap.size < w7.heap.size := by omega
      replace L7 : w2.heap.size < w7.heap.size := by omega
      replace L9 : w3.heap.size < w7.heap.size := by omega
      replace L11 : w4.heap.size < w7.heap.size := by omega
      replace L14 : w6.heap.size < w7.heap.size := by omega
      replace HBW : Hid (Below w.heap.size w w7) := Lib.hid (by refine bstep ?_ hb; (repeat with_reducible first | exact HBW.out | apply b_alloc | refine b_set ?_ ?_ _); all_goals (simp; try omega))
      clear hb hz
      go_wp2_with fail
      refine (not_tv c1 _).mono ?_
      rintro e w8 ⟨rfl, hb⟩
      have L16 : True := trivial
      have Y16 : True := trivial
      replace Yv : ∀ o, w8.cell? ⟨w.heap.size + 1, o, none⟩ = #[Value.int .i64 (tv c0).k, .int .i64 (tv c0).n, .string (tv c0).s, .int .i64 (tv c1).k, .int .i64 (tv c1).n, .string (tv c1).s, .int .i64 (tv c2).k, .int .i64 (tv c2).n, .string (tv c2).s][o]? := fun o => (hb.cell (p := ⟨w.heap.size + 1, o, none⟩) (by (try simp only [World.size_alloc, World.size_setCell, World.size_drew]); omega)).trans (by simp [go_sem, *])
      replace Y5 : ∀ o, w8.cell? ⟨w1.heap.size, o, none⟩ = #[Value.int .i64 (tv (and3 c0 c1)).k, .int .i64 (tv (and3 c0 c1)).n, .string (tv (and3 c0 c1)).s][o]? := fun o => (hb.cell (p := ⟨w1.heap.size, o, none⟩) (by (try simp only [World.size_alloc, World.size_setCell, World.size_drew]); omega)).trans (by simp [go_sem, *])
      replace Y7 : ∀ o, w8.cell? ⟨w2.heap.size, o, none⟩ = #[Value.int .i64 (tv (and3 c0 c1)).k, .int .i64 (tv (and3 c0 c1)).n, .string (tv (and3 c0 c1)).s][o]? := fun o => (hb.cell (p := ⟨w2.heap.size, o, none⟩) (by (try simp only [World.size_alloc, World.size_setCell, World.size_drew]); omega)).trans (by simp [go_sem, *])
      replace Y9 : ∀ o, w8.cell? ⟨w3.heap.size, o, none⟩ = #[Value.int .i64 (tv (and3 (and3 c0 c1) c2)).k, .int .i64 (tv (and3 (and3 c0 c1) c2)).n, .string (tv (and3 (and3 c0 c1) c2)).s][o]? := fun o => (hb.cell (p := ⟨w3.heap.size, o, none⟩) (by (try simp only [World.size_alloc, World.size_setCell, World.size_drew]); omega)).trans (by simp [go_sem, *])
      replace Y11 : ∀ o, w8.cell? ⟨w4.heap.size, o, none⟩ = #[Value.int .i64 (tv (and3 (and3 c0 c1) c2)).k, .int .i64 (tv (and3 (and3 c0 c1) c2)).n, .string (tv (and3 (and3 c0 c1) c2)).s][o]? := fun o => (hb.cell (p := ⟨w4.heap.size, o, none⟩) (by (try simp only [World.size_alloc, World.size_setCell, World.size_drew]); omega)).trans (by simp [go_sem, *])
      replace Y14 : ∀ o, w8.cell? ⟨w6.heap.size, o, none⟩ = #[Value.int .i64 (tv (not3 (and3 c0 c1))).k, .int .i64 (tv (not3 (and3 c0 c1))).n, .string (tv (not3 (and3 c0 c1))).s][o]? := fun o => (hb.cell (p := ⟨w6.heap.size, o, none⟩) (by (try simp only [World.size_alloc, World.size_setCell, World.size_drew]); omega)).trans (by simp [go_sem, *])
      replace Y16 : ∀ o, w8.cell? ⟨w7.heap.size, o, none⟩ = #[Value.int .i64 (tv (not3 c0)).k, .int .i64 (tv (not3 c0)).n, .string (tv (not3 c0)).s][o]? := fun o => (hb.cell (p := ⟨w7.heap.size, o, none⟩) (by (try simp only [World.size_alloc, World.size_setCell, World.size_drew]); omega)).trans (by simp [go_sem, *])
      have hz := hb.size
      (try simp only [World.size_alloc, World.size_setCell, World.size_drew] at hz)
      replace Lv : w.heap.size + 1 < w8.heap.size := by omega
      replace L5 : w1.heap.size < w8.heap.size := by omega
      replace L7 : w2.heap.size < w8.heap.size := by omega
      replace L9 : w3.heap.size < w8.heap.size := by omega
      replace L11 : w4.heap.size < w8.heap.size := by omega
      replace L14 : w6.heap.size < w8.heap.size := by omega
      replace L16 : w7.heap.size < w8.heap.size := by omega
      replace HBW : Hid (Below w.heap.size w w8) := Lib.hid (by refine bstep ?_ hb; (repeat with_reducible first | exact HBW.out | apply b_alloc | refine b_set ?_ ?_ _); all_goals (simp; try omega))
      clear hb hz
      go_wp2_with fail
      refine (or_tv (not3 c0) (not3 c1) _).mono ?_
      rintro e w9 ⟨rfl, hb⟩
      rw [de_morgan c0 c1]
      have L18 : True := trivial
      have Y18 : True := trivial
      replace Yv : ∀ o, w9.cell? ⟨w.heap.size + 1, o, none⟩ = #[Value.int .i64 (tv c0).k, .int .i64 (tv c0).n, .string (tv c0).s, .int .i64 (tv c1).k, .int .i64 (tv c1).n, .string (tv c1).s, .int .i64 (tv c2).k, .int .i64 (tv c2).n, .string (tv c2).s][o]? := fun o => (hb.cell (p := ⟨w.heap.size + 1, o, none⟩) (by (try simp only [World.size_alloc, World.size_setCell, World.size_drew]); omega)).trans (by simp [go_sem, *])
      replace Y5 : ∀ o, w9.cell? ⟨w1.heap.size, o, none⟩ = #[Value.int .i64 (tv (and3 c0 c1)).k, .int .i64 (tv (and3 c0 c1)).n, .string (tv (and3 c0 c1)).s][o]? := fun o => (hb.cell (p := ⟨w1.heap.size, o, none⟩) (by (try simp only [World.size_alloc, World.size_setCell, World.size_drew]); omega)).trans (by simp [go_sem, *])
      replace Y7 : ∀ o, w9.cell? ⟨w2.heap.size, o, none⟩ = #[Value.int .i64 (tv (and3 c0 c1)).k, .int .i64 (tv (and3 c0 c1)).n, .string (tv (and3 c0 c1)).s][o]? := fun o => (hb.cell (p := ⟨w2.heap.size, o, none⟩) (by (try simp only [World.size_alloc, World.size_setCell, World.size_drew]); omega)).trans (by simp [go_sem, *])
      replace Y9 : ∀ o, w9.cell? ⟨w3.heap.size, o, none⟩ = #[Value.int .i64 (tv (and3 (and3 c0 c1) c2)).k, .int .i64 (tv (and3 (and3 c0 c1) c2)).n, .string (tv (and3 (and3 c0 c1) c2)).s][o]? := fun o => (hb.cell (p := ⟨w3.heap.size, o, none⟩) (by (try simp only [World.size_alloc, World.size_setCell, World.size_drew]); omega)).trans (by simp [go_sem, *])
      replace Y11 : ∀ o, w9.cell? ⟨w4.heap.size, o, none⟩ = #[Value.int .i64 (tv (and3 (and3 c0 c1) c2)).k, .int .i64 (tv (and3 (and3 c0 c1) c2)).n, .string (tv (and3 (and3 c0 c1) c2)).s][o]? := fun o => (hb.cell (p := ⟨w4.heap.size, o, none⟩) (by (try simp only [World.size_alloc, World.size_setCell, World.size_drew]); omega)).trans (by simp [go_sem, *])
      replace Y14 : ∀ o, w9.cell? ⟨w6.heap.size, o, none⟩ = #[Value.int .i64 (tv (not3 (and3 c0 c1))).k, .int .i64 (tv (not3 (and3 c0 c1))).n, .string (tv (not3 (and3 c0 c1))).s][o]? := fun o => (hb.cell (p := ⟨w6.heap.size, o, none⟩) (by (try simp only [World.size_alloc, World.size_setCell, World.size_drew]); omega)).trans (by simp [go_sem, *])
      replace Y16 : ∀ o, w9.cell? ⟨w7.heap.size, o, none⟩ = #[Value.int .i64 (tv (not3 c0)).k, .int .i64 (tv (not3 c0)).n, .string (tv (not3 c0)).s][o]? := fun o => (hb.cell (p := ⟨w7.heap.size, o, none⟩) (by (try simp only [World.size_alloc, World.size_setCell, World.size_drew]); omega)).trans (by simp [go_sem, *])
      replace Y18 : ∀ o, w9.cell? ⟨w8.heap.size, o, none⟩ = #[Value.int .i64 (tv (not3 c1)).k, .int .i64 (tv (not3 c1)).n, .string (tv (not3 c1)).s][o]? := fun o => (hb.cell (p := ⟨w8.heap.size, o, none⟩) (by (try simp only [World.size_alloc, World.size_setCell, World.size_drew]); omega)).trans (by simp [go_sem, *])
      have hz := hb.size
      (try simp only [World.size_alloc, World.size_setCell, World.size_drew] at hz)
      replace Lv : w.heap.size + 1 < w9.heap.size := by omega
      replace L5 : w1.heap.size < w9.heap.size := by omega
      replace L7 : w2.heap.size < w9.heap.size := by omega
      replace L9 : w3.heap.size < w9.heap.size := by omega
      replace L11 : w4.heap.size < w9.heap.size := by omega
      replace L14 : w6.heap.size < w9.heap.size := by omega
      replace L16 : w7.heap.size < w9.heap.size := by omega
      replace L18 : w8.heap.size < w9.heap.size := by omega
      replace HBW : Hid (Below w.heap.size w w9) := Lib.hid (by refine bstep ?_ hb; (repeat with_reducible first | exact HBW.out | apply b_alloc | refine b_set ?_ ?_ _); all_goals (simp; try omega))
      clear hb hz
      go_wp2_with fail
      refine (not_tv (not3 c0) _).mono ?_
      rintro e w10 ⟨rfl, hb⟩
      rw [not3_not3 c0]
      have L20 : True := trivial
      have Y20 : True := trivial
      replace Yv : ∀ o, w10.cell? ⟨w.heap.size + 1, o, none⟩ = #[Value.int .i64 (tv c0).k, .int .i64 (tv c0).n, .string (tv c0).s, .int .i64 (tv c1).k, .int .i64 (tv c1).n, .string (tv c1).s, .int .i64 (tv c2).k, .int .i64 (tv c2).n, .string (tv c2).s][o]? := fun o => (hb.cell (p := ⟨w.heap.size + 1, o, none⟩) (by (try simp only [World.size_alloc, World.size_setCell, World.size_drew]); omega)).trans (by simp [go_sem, *])
      replace Y5 : ∀ o, w10.cell? ⟨w1.heap.size, o, none⟩ = #[Value.int .i64 (tv (and3 c0 c1)).k, .int .i64 (tv (and3 c0 c1)).n, .string (tv (and3 c0 c1)).s][o]? := fun o => (hb.cell (p := ⟨w1.heap.size, o, none⟩) (by (try simp only [World.size_alloc, World.size_setCell, World.size_drew]); omega)).trans (by simp [go_sem, *])
      replace Y7 : ∀ o, w10.cell? ⟨w2.heap.size, o, none⟩ = #[Value.int .i64 (tv (and3 c0 c1)).k, .int .i64 (tv (and3 c0 c1)).n, .string (tv (and3 c0 c1)).s][o]? := fun o => (hb.cell (p := ⟨w2.heap.size, o, none⟩) (by (try simp only [World.size_alloc, World.size_setCell, World.size_drew]); omega)).trans (by simp [go_sem, *])
      replace Y9 : ∀ o, w10.cell? ⟨w3.heap.size, o, none⟩ = #[Value.int .i64 (tv (and3 (and3 c0 c1) c2)).k, .int .i64 (tv (and3 (and3 c0 c1) c2)).n, .string (tv (and3 (and3 c0 c1) c2)).s][o]? := fun o => (hb.cell (p := ⟨w3.heap.size, o, none⟩) (by (try simp only [World.size_alloc, World.size_setCell, World.size_drew]); omega)).trans (by simp [go_sem, *])
      replace Y11 : ∀ o, w10.cell? ⟨w4.heap.size, o, none⟩ = #[Value.int .i64 (tv (and3 (and3 c0 c1) c2)).k, .int .i64 (tv (and3 (and3 c0 c1) c2)).n, .string (tv (and3 (and3 c0 c1) c2)).s][o]? := fun o => (hb.cell (p := ⟨w4.heap.size, o, none⟩) (by (try simp only [World.size_alloc, World.size_setCell, World.size_drew]); omega)).trans (by simp [go_sem, *])
      replace Y14 : ∀ o, w10.cell? ⟨w6.heap.size, o, none⟩ = #[Value.int .i64 (tv (not3 (and3 c0 c1))).k, .int .i64 (tv (not3 (and3 c0 c1))).n, .string (tv (not3 (and3 c0 c1))).s][o]? := fun o => (hb.cell (p := ⟨w6.heap.size, o, none⟩) (by (try simp only [World.size_alloc, World.size_setCell, World.size_drew]); omega)).trans (by simp [go_sem, *])
      replace Y16 : ∀ o, w10.cell? ⟨w7.heap.size, o, none⟩ = #[Value.int .i64 (tv (not3 c0)).k, .int .i64 (tv (not3 c0)).n, .string (tv (not3 c0)).s][o]? := fun o => (hb.cell (p := ⟨w7.heap.size, o, none⟩) (by (try simp only [World.size_alloc, World.size_setCell, World.size_drew]); omega)).trans (by simp [go_sem, *])
      replace Y18 : ∀ o, w10.cell? ⟨w8.heap.size, o, none⟩ = #[Value.int .i64 (tv (not3 c1)).k, .int .i64 (tv (not3 c1)).n, .string (tv (not3 c1)).s][o]? := fun o => (hb.cell (p := ⟨w8.heap.size, o, none⟩) (by (try simp only [World.size_alloc, World.size_setCell, World.size_drew]); omega)).trans (by simp [go_sem, *])
      replace Y20 : ∀ o, w10.cell? ⟨w9.heap.size, o, none⟩ = #[Value.int .i64 (tv (not3 (and3 c0 c1))).k, .int .i64 (tv (not3 (and3 c0 c1))).n, .string (tv (not3 (and3 c0 c1))).s][o]? := fun o => (hb.cell (p := ⟨w9.heap.size, o, none⟩) (by (try simp only [World.size_alloc, World.size_setCell, World.size_drew]); omega)).trans (by simp [go_sem, *])
      have hz := hb.size
      (try simp only [World.size_alloc, World.size_setCell, World.size_drew] at hz)
      replace Lv : w.heap.size + 1 < w10.heap.size := by omega
      replace L5 : w1.heap.size < w10.heap.size := by omega
      replace L7 : w2.heap.size < w10.heap.size := by omega
      replace L9 : w3.heap.size < w10.heap.size := by omega
      replace L11 : w4.heap.size < w10.heap.size := by omega
      replace L14 : w6.heap.size < w10.heap.size := by omega
      replace L16 : w7.heap.size < w10.heap.size := by omega
      replace L18 : w8.heap.size < w10.heap.size := by omega
      replace L20 : w9.heap.size < w10.heap.size := by omega
      replace HBW : Hid (Below w.heap.size w w10) := Lib.hid (by refine bstep ?_ hb; (repeat with_reducible first | exact HBW.out | apply b_alloc | refine b_set ?_ ?_ _); all_goals (simp; try omega))
      clear hb hz
      by_cases hk0 : (tv c0).k = 1
      · by_cases hk1 : (tv c1).k = 1
        · have hka := known3 c0 c1 hk0 hk1
          go_wp2_with fail
          refine (alive02 _ (HL.out.later (b_alloc HBW.out _))).mono ?_
          rintro e w11 ⟨rfl, hb⟩
          have Y22 : True := trivial
          replace Yv : ∀ o, w11.cell? ⟨w.heap.size + 1, o, none⟩ = #[Value.int .i64 (tv c0).k, .int .i64 (tv c0).n, .string (tv c0).s, .int .i64 (tv c1).k, .int .i64 (tv c1).n, .string (tv c1).s, .int .i64 (tv c2).k, .int .i64 (tv c2).n, .string (tv c2).s][o]? := fun o => (hb.cell (p := ⟨w.heap.size + 1, o, none⟩) (by (try simp only [World.size_alloc, World.size_setCell, World.size_drew]); omega)).trans (by simp [go_sem, *])
          replace Y5 : ∀ o, w11.cell? ⟨w1.heap.size, o, none⟩ = #[Value.int .i64 (tv (and3 c0 c1)).k, .int .i64 (tv (and3 c0 c1)).n, .string (tv (and3 c0 c1)).s][o]? := fun o => (hb.cell (p := ⟨w1.heap.size, o, none⟩) (by (try simp only [World.size_alloc, World.size_setCell, World.size_drew]); omega)).trans (by simp [go_sem, *])
          replace Y7 : ∀ o, w11.cell? ⟨w2.heap.size, o, none⟩ = #[Value.int .i64 (tv (and3 c0 c1)).k, .int .i64 (tv (and3 c0 c1)).n, .string (tv (and3 c0 c1)).s][o]? := fun o => (hb.cell (p := ⟨w2.heap.size, o, none⟩) (by (try simp only [World.size_alloc, World.size_setCell, World.size_drew]); omega)).trans (by simp [go_sem, *])
          replace Y9 : ∀ o, w11.cell? ⟨w3.heap.size, o, none⟩ = #[Value.int .i64 (tv (and3 (and3 c0 c1) c2)).k, .int .i64 (tv (and3 (and3 c0 c1) c2)).n, .string (tv (and3 (and3 c0 c1) c2)).s][o]? := fun o => (hb.cell (p := ⟨w3.heap.size, o, none⟩) (by (try simp only [World.size_alloc, World.size_setCell, World.size_drew]); omega)).trans (by simp [go_sem, *])
          replace Y11 : ∀ o, w11.cell? ⟨w4.heap.size, o, none⟩ = #[Value.int .i64 (tv (and3 (and3 c0 c1) c2)).k, .int .i64 (tv (and3 (and3 c0 c1) c2)).n, .string (tv (and3 (and3 c0 c1) c2)).s][o]? := fun o => (hb.cell (p := ⟨w4.heap.size, o, none⟩) (by (try simp only [World.size_alloc, World.size_setCell, World.size_drew]); omega)).trans (by simp [go_sem, *])
          replace Y14 : ∀ o, w11.cell? ⟨w6.heap.size, o, none⟩ = #[Value.int .i64 (tv (not3 (and3 c0 c1))).k, .int .i64 (tv (not3 (and3 c0 c1))).n, .string (tv (not3 (and3 c0 c1))).s][o]? := fun o => (hb.cell (p := ⟨w6.heap.size, o, none⟩) (by (try simp only [World.size_alloc, World.size_setCell, World.size_drew]); omega)).trans (by simp [go_sem, *])
          replace Y16 : ∀ o, w11.cell? ⟨w7.heap.size, o, none⟩ = #[Value.int .i64 (tv (not3 c0)).k, .int .i64 (tv (not3 c0)).n, .string (tv (not3 c0)).s][o]? := fun o => (hb.cell (p := ⟨w7.heap.size, o, none⟩) (by (try simp only [World.size_alloc, World.size_setCell, World.size_drew]); omega)).trans (by simp [go_sem, *])
          replace Y18 : ∀ o, w11.cell? ⟨w8.heap.size, o, none⟩ = #[Value.int .i64 (tv (not3 c1)).k, .int .i64 (tv (not3 c1)).n, .string (tv (not3 c1)).s][o]? := fun o => (hb.cell (p := ⟨w8.heap.size, o, none⟩) (by (try simp only [World.size_alloc, World.size_setCell, World.size_drew]); omega)).trans (by simp [go_sem, *])
          replace Y20 : ∀ o, w11.cell? ⟨w9.heap.size, o, none⟩ = #[Value.int .i64 (tv (not3 (and3 c0 c1))).k, .int .i64 (tv (not3 (and3 c0 c1))).n, .string (tv (not3 (and3 c0 c1))).s][o]? := fun o => (hb.cell (p := ⟨w9.heap.size, o, none⟩) (by (try simp only [World.size_alloc, World.size_setCell, World.size_drew]); omega)).trans (by simp [go_sem, *])
          replace Y22 : ∀ o, w11.cell? ⟨w10.heap.size, o, none⟩ = #[Value.int .i64 (tv c0).k, .int .i64 (tv c0).n, .string (tv c0).s][o]? := fun o => (hb.cell (p := ⟨w10.heap.size, o, none⟩) (by (try simp only [World.size_alloc, World.size_setCell, World.size_drew]); omega)).trans (by simp [go_sem, *])
          replace HBW : Hid (Below w.heap.size w w11) := Lib.hid (bstep (b_alloc HBW.out _) hb)
          clear hb
          go_wp2
          all_goals
            go_ret
            exact ⟨rfl, HBW.out⟩
        · go_wp2_with fail
          refine (alive02 _ (HL.out.later (b_alloc HBW.out _))).mono ?_
          rintro e w11 ⟨rfl, hb⟩
          have Y22 : True := trivial
          replace Yv : ∀ o, w11.cell? ⟨w.heap.size + 1, o, none⟩ = #[Value.int .i64 (tv c0).k, .int .i64 (tv c0).n, .string (tv c0).s, .int .i64 (tv c1).k, .int .i64 (tv c1).n, .string (tv c1).s, .int .i64 (tv c2).k, .int .i64 (tv c2).n, .string (tv c2).s][o]? := fun o => (hb.cell (p := ⟨w.heap.size + 1, o, none⟩) (by (try simp only [World.size_alloc, World.size_setCell, World.size_drew]); omega)).trans (by simp [go_sem, *])
          replace Y5 : ∀ o, w11.cell? ⟨w1.heap.size, o, none⟩ = #[Value.int .i64 (tv (and3 c0 c1)).k, .int .i64 (tv (and3 c0 c1)).n, .string (tv (and3 c0 c1)).s][o]? := fun o => (hb.cell (p := ⟨w1.heap.size, o, none⟩) (by (try simp only [World.size_alloc, World.size_setCell, World.size_drew]); omega)).trans (by simp [go_sem, *])
          replace Y7 : ∀ o, w11.cell? ⟨w2.heap.size, o, none⟩ = #[Value.int .i64 (tv (and3 c0 c1)).k, .int .i64 (tv (and3 c0 c1)).n, .string (tv (and3 c0 c1)).s][o]? := fun o => (hb.cell (p := ⟨w2.heap.size, o, none⟩) (by (try simp only [World.size_alloc, World.size_setCell, World.size_drew]); omega)).trans (by simp [go_sem, *])
          replace Y9 : ∀ o, w11.cell? ⟨w3.heap.size, o, none⟩ = #[Value.int .i64 (tv (and3 (and3 c0 c1) c2)).k, .int .i64 (tv (and3 (and3 c0 c1) c2)).n, .string (tv (and3 (and3 c0 c1) c2)).s][o]? := fun o => (hb.cell (p := ⟨w3.heap.size, o, none⟩) (by (try simp only [World.size_alloc, World.size_setCell, World.size_drew]); omega)).trans (by simp [go_sem, *])
          replace Y11 : ∀ o, w11.cell? ⟨w4.heap.size, o, none⟩ = #[Value.int .i64 (tv (and3 (and3 c0 c1) c2)).k, .int .i64 (tv (and3 (and3 c0 c1) c2)).n, .string (tv (and3 (and3 c0 c1) c2)).s][o]? := fun o => (hb.cell (p := ⟨w4.heap.size, o, none⟩) (by (try simp only [World.size_alloc, World.size_setCell, World.size_drew]); omega)).trans (by simp [go_sem, *])
          replace Y14 : ∀ o, w11.cell? ⟨w6.heap.size, o, none⟩ = #[Value.int .i64 (tv (not3 (and3 c0 c1))).k, .int .i64 (tv (not3 (and3 c0 c1))).n, .string (tv (not3 (and3 c0 c1))).s][o]? := fun o => (hb.cell (p := ⟨w6.heap.size, o, none⟩) (by (try simp only [World.size_alloc, World.size_setCell, World.size_drew]); omega)).trans (by simp [go_sem, *])
          replace Y16 : ∀ o, w11.cell? ⟨w7.heap.size, o, none⟩ = #[Value.int .i64 (tv (not3 c0)).k, .int .i64 (tv (not3 c0)).n, .string (tv (not3 c0)).s][o]? := fun o => (hb.cell (p := ⟨w7.heap.size, o, none⟩) (by (try simp only [World.size_alloc, World.size_setCell, World.size_drew]); omega)).trans (by simp [go_sem, *])
          replace Y18 : ∀ o, w11.cell? ⟨w8.heap.size, o, none⟩ = #[Value.int .i64 (tv (not3 c1)).k, .int .i64 (tv (not3 c1)).n, .string (tv (not3 c1)).s][o]? := fun o => (hb.cell (p := ⟨w8.heap.size, o, none⟩) (by (try simp only [World.size_alloc, World.size_setCell, World.size_drew]); omega)).trans (by simp [go_sem, *])
          replace Y20 : ∀ o, w11.cell? ⟨w9.heap.size, o, none⟩ = #[Value.int .i64 (tv (not3 (and3 c0 c1))).k, .int .i64 (tv (not3 (and3 c0 c1))).n, .string (tv (not3 (and3 c0 c1))).s][o]? := fun o => (hb.cell (p := ⟨w9.heap.size, o, none⟩) (by (try simp only [World.size_alloc, World.size_setCell, World.size_drew]); omega)).trans (by simp [go_sem, *])
          replace Y22 : ∀ o, w11.cell? ⟨w10.heap.size, o, none⟩ = #[Value.int .i64 (tv c0).k, .int .i64 (tv c0).n, .string (tv c0).s][o]? := fun o => (hb.cell (p := ⟨w10.heap.size, o, none⟩) (by (try simp only [World.size_alloc, World.size_setCell, World.size_drew]); omega)).trans (by simp [go_sem, *])
          replace HBW : Hid (Below w.heap.size w w11) := Lib.hid (bstep (b_alloc HBW.out _) hb)
          clear hb
          go_wp2
          all_goals
            go_ret
            exact ⟨rfl, HBW.out⟩
      · go_wp2_with fail
        refine (alive02 _ (HL.out.later (b_alloc HBW.out _))).mono ?_
        rintro e w11 ⟨rfl, hb⟩
        have Y22 : True := trivial
        replace Yv : ∀ o, w11.cell? ⟨w.heap.size + 1, o, none⟩ = #[Value.int .i64 (tv c0).k, .int .i64 (tv c0).n, .string (tv c0).s, .int .i64 (tv c1).k, .int .i64 (tv c1).n, .string (tv c1).s, .int .i64 (tv c2).k, .int .i64 (tv c2).n, .string (tv c2).s][o]? := fun o => (hb.cell (p := ⟨w.heap.size + 1, o, none⟩) (by (try simp only [World.size_alloc, World.size_setCell, World.size_drew]); omega)).trans (by simp [go_sem, *])
        replace Y5 : ∀ o, w11.cell? ⟨w1.heap.size, o, none⟩ = #[Value.int .i64 (tv (and3 c0 c1)).k, .int .i64 (tv (and3 c0 c1)).n, .string (tv (and3 c0 c1)).s][o]? := fun o => (hb.cell (p := ⟨w1.heap.size, o, none⟩) (by (try simp only [World.size_alloc, World.size_setCell, World.size_drew]); omega)).trans (by simp [go_sem, *])
        replace Y7 : ∀ o, w11.cell? ⟨w2.heap.size, o, none⟩ = #[Value.int .i64 (tv (and3 c0 c1)).k, .int .i64 (tv (and3 c0 c1)).n, .string (tv (and3 c0 c1)).s][o]? := fun o => (hb.cell (p := ⟨w2.heap.size, o, none⟩) (by (try simp only [World.size_alloc, World.size_setCell, World.size_drew]); omega)).trans (by simp [go_sem, *])
        replace Y9 : ∀ o, w11.cell? ⟨w3.heap.size, o, none⟩ = #[Value.int .i64 (tv (and3 (and3 c0 c1) c2)).k, .int .i64 (tv (and3 (and3 c0 c1) c2)).n, .string (tv (and3 (and3 c0 c1) c2)).s][o]? := fun o => (hb.cell (p := ⟨w3.heap.size, o, none⟩) (by (try simp only [World.size_alloc, World.size_setCell, World.size_drew]); omega)).trans (by simp [go_sem, *])
        replace Y11 : ∀ o, w11.cell? ⟨w4.heap.size, o, none⟩ = #[Value.int .i64 (tv (and3 (and3 c0 c1) c2)).k, .int .i64 (tv (and3 (and3 c0 c1) c2)).n, .string (tv (and3 (and3 c0 c1) c2)).s][o]? := fun o => (hb.cell (p := ⟨w4.heap.size, o, none⟩) (by (try simp only [World.size_alloc, World.size_setCell, World.size_drew]); omega)).trans (by simp [go_sem, *])
        replace Y14 : ∀ o, w11.cell? ⟨w6.heap.size, o, none⟩ = #[Value.int .i64 (tv (not3 (and3 c0 c1))).k, .int .i64 (tv (not3 (and3 c0 c1))).n, .string (tv (not3 (and3 c0 c1))).s][o]? := fun o => (hb.cell (p := ⟨w6.heap.size, o, none⟩) (by (try simp only [World.size_alloc, World.size_setCell, World.size_drew]); omega)).trans (by simp [go_sem, *])
        replace Y16 : ∀ o, w11.cell? ⟨w7.heap.size, o, none⟩ = #[Value.int .i64 (tv (not3 c0)).k, .int .i64 (tv (not3 c0)).n, .string (tv (not3 c0)).s][o]? := fun o => (hb.cell (p := ⟨w7.heap.size, o, none⟩) (by (try simp only [World.size_alloc, World.size_setCell, World.size_drew]); omega)).trans (by simp [go_sem, *])
        replace Y18 : ∀ o, w11.cell? ⟨w8.heap.size, o, none⟩ = #[Value.int .i64 (tv (not3 c1)).k, .int .i64 (tv (not3 c1)).n, .string (tv (not3 c1)).s][o]? := fun o => (hb.cell (p := ⟨w8.heap.size, o, none⟩) (by (try simp only [World.size_alloc, World.size_setCell, World.size_drew]); omega)).trans (by simp [go_sem, *])
        replace Y20 : ∀ o, w11.cell? ⟨w9.heap.size, o, none⟩ = #[Value.int .i64 (tv (not3 (and3 c0 c1))).k, .int .i64 (tv (not3 (and3 c0 c1))).n, .string (tv (not3 (and3 c0 c1))).s][o]? := fun o => (hb.cell (p := ⟨w9.heap.size, o, none⟩) (by (try simp only [World.size_alloc, World.size_setCell, World.size_drew]); omega)).trans (by simp [go_sem, *])
        replace Y22 : ∀ o, w11.cell? ⟨w10.heap.size, o, none⟩ = #[Value.int .i64 (tv c0).k, .int .i64 (tv c0).n, .string (tv c0).s][o]? := fun o => (hb.cell (p := ⟨w10.heap.size, o, none⟩) (by (try simp only [World.size_alloc, World.size_setCell, World.size_drew]); omega)).trans (by simp [go_sem, *])
        replace HBW : Hid (Below w.heap.size w w11) := Lib.hid (bstep (b_alloc HBW.out _) hb)
        clear hb
        go_wp2
        all_goals
          go_ret
          exact ⟨rfl, HBW.out⟩
end Go.Proofs.YtdldhlbnbffieaaDoor
