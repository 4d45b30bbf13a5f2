/-
  ValueLine answers true: where two numbers differ.
-/
import Derived.Test.YtdldhlbnbffieaaDoorLLine
namespace Go.Proofs.YtdldhlbnbffieaaDoor
set_option linter.unusedSimpArgs false
set_option linter.unusedVariables false
open Go.RowKit

set_option maxRecDepth 100000 in
set_option maxHeartbeats 1600000 in
theorem line_n_g (ak an bn ck cn y z : Int) (as' bs' cs' : ByteArray) (w : World) (hl : Laid w) (h1 : as'.size ≤ 500) (h2 : bs'.size ≤ 500) (h3 : cs'.size ≤ 500) (e1 : ¬ an = bn) (hx : ordV ⟨ak, an, as'⟩ ⟨ak, bn, bs'⟩ = 1) (hy : ordV ⟨ak, bn, bs'⟩ ⟨ck, cn, cs'⟩ = y) (hz : ordV ⟨ak, an, as'⟩ ⟨ck, cn, cs'⟩ = z) :
    Calls Tryd.prog 7 #[.agg #[Value.int .i64 ak, .int .i64 an, .string as', .int .i64 ak, .int .i64 bn, .string bs', .int .i64 ck, .int .i64 cn, .string cs']] w fun e w' => e = .returned (.bool true) ∧ Below w.heap.size w w' := by
  have HL := Lib.hid hl; clear hl
  have e2 : (an == bn) = false := beq_eq_false_iff_ne.2 e1
  have HN : Hid (ordV ⟨ak, bn, bs'⟩ ⟨ak, an, as'⟩ = -1) := Lib.hid (by rw [ordV_neg, hx])
  have HR : Hid (rowsV [⟨ak, an, as'⟩, ⟨ak, bn, bs'⟩] [⟨ak, an, as'⟩, ⟨ck, cn, cs'⟩] = y) := Lib.hid (rowsV_11 hy)
  have HX := Lib.hid hx; have HY := Lib.hid hy; have HZ := Lib.hid hz
  clear hx hy hz
  go_enter Tryd.func7, Tryd.ntmps7
  go_wp2_with fail
  go_loopw [3] (fun i wr => (i = .int .i64 0 ∨ i = .int .i64 1 ∨ i = .int .i64 2 ∨ i = .int .i64 3) ∧ wr = w.alloc (Obj.cells #[Value.int .i64 ak, .int .i64 an, .string as', .int .i64 ak, .int .i64 bn, .string bs', .int .i64 ck, .int .i64 cn, .string cs'] 36)) (fun i _ => 3 - (intOf i).toNat)
  case atStart => exact ⟨Or.inl rfl, rfl⟩
  case round =>
    obtain ⟨hi, rfl⟩ := hrel
    rcases hi with rfl | rfl | rfl | rfl
    · go_wp2_with fail
      go_roundw
      case rel => exact ⟨Or.inr (Or.inl rfl), trivial⟩
      case measure => decide
    · go_wp2_with fail
      go_roundw
      case rel => exact ⟨Or.inr (Or.inr (Or.inl rfl)), trivial⟩
      case measure => decide
    · go_wp2_with fail
      go_roundw
      case rel => exact ⟨Or.inr (Or.inr (Or.inr rfl)), trivial⟩
      case measure => decide
    · have Lv : True := trivial
      have Yv : True := trivial
      have HBW : Hid (Below w.heap.size w w) := Lib.hid (Below.refl _ _)
      go_wp2_with fail
      refine (order_any _ _ _ _ _ _ _).mono ?_
      rintro e w1 ⟨rfl, hb⟩
      rw [show ordV ⟨ak, an, as'⟩ ⟨ak, bn, bs'⟩ = 1 from HX.out]
      replace Yv : ∀ o, w1.cell? ⟨w.heap.size, o, none⟩ = #[Value.int .i64 ak, .int .i64 an, .string as', .int .i64 ak, .int .i64 bn, .string bs', .int .i64 ck, .int .i64 cn, .string cs'][o]? := fun o => (hb.cell (p := ⟨w.heap.size, o, none⟩) (by (try simp only [World.size_alloc, World.size_setCell, World.size_drew]); omega)).trans (by simp [go_sem, *])
      have hz := hb.size
      (try simp only [World.size_alloc, World.size_setCell, World.size_drew] at hz)
      replace Lv : w.heap.size < w1.heap.size := by omega
      replace HBW : Hid (Below w.heap.size w w1) := Lib.hid (by refine bstep ?_ hb; (repeat with_reducible first | exact HBW.out | apply b_alloc | refine b_set ?_ ?_ _); all_goals (simp; try omega))
      clear hb hz
      go_wp2_with fail
      refine (order_any _ _ _ _ _ _ _).mono ?_
      rintro e w2 ⟨rfl, hb⟩
      rw [show ordV ⟨ak, bn, bs'⟩ ⟨ck, cn, cs'⟩ = y from HY.out]
      replace Yv : ∀ o, w2.cell? ⟨w.heap.size, o, none⟩ = #[Value.int .i64 ak, .int .i64 an, .string as', .int .i64 ak, .int .i64 bn, .string bs', .int .i64 ck, .int .i64 cn, .string cs'][o]? := fun o => (hb.cell (p := ⟨w.heap.size, o, none⟩) (by (try simp only [World.size_alloc, World.size_setCell, World.size_drew]); omega)).trans (by simp [go_sem, *])
      have hz := hb.size
      (try simp only [World.size_alloc, World.size_setCell, World.size_drew] at hz)
      replace Lv : w.heap.size < w2.heap.size := by omega
      replace HBW : Hid (Below w.heap.size w w2) := Lib.hid (by refine bstep ?_ hb; (repeat with_reducible first | exact HBW.out | apply b_alloc | refine b_set ?_ ?_ _); all_goals (simp; try omega))
      clear hb hz
      go_wp2_with fail
      refine (order_any _ _ _ _ _ _ _).mono ?_
      rintro e w3 ⟨rfl, hb⟩
      rw [show ordV ⟨ak, an, as'⟩ ⟨ck, cn, cs'⟩ = z from HZ.out]
      replace Yv : ∀ o, w3.cell? ⟨w.heap.size, o, none⟩ = #[Value.int .i64 ak, .int .i64 an, .string as', .int .i64 ak, .int .i64 bn, .string bs', .int .i64 ck, .int .i64 cn, .string cs'][o]? := fun o => (hb.cell (p := ⟨w.heap.size, o, none⟩) (by (try simp only [World.size_alloc, World.size_setCell, World.size_drew]); omega)).trans (by simp [go_sem, *])
      have hz := hb.size
      (try simp only [World.size_alloc, World.size_setCell, World.size_drew] at hz)
      replace Lv : w.heap.size < w3.heap.size := by omega
      replace HBW : Hid (Below w.heap.size w w3) := Lib.hid (by refine bstep ?_ hb; (repeat with_reducible first | exact HBW.out | apply b_alloc | refine b_set ?_ ?_ _); all_goals (simp; try omega))
      clear hb hz
      go_wp2_with fail
      refine (order_any _ _ _ _ _ _ _).mono ?_
      rintro e w4 ⟨rfl, hb⟩
      rw [show ordV ⟨ak, bn, bs'⟩ ⟨ak, an, as'⟩ = -1 from HN.out]
      replace Yv : ∀ o, w4.cell? ⟨w.heap.size, o, none⟩ = #[Value.int .i64 ak, .int .i64 an, .string as', .int .i64 ak, .int .i64 bn, .string bs', .int .i64 ck, .int .i64 cn, .string cs'][o]? := fun o => (hb.cell (p := ⟨w.heap.size, o, none⟩) (by (try simp only [World.size_alloc, World.size_setCell, World.size_drew]); omega)).trans (by simp [go_sem, *])
      have hz := hb.size
      (try simp only [World.size_alloc, World.size_setCell, World.size_drew] at hz)
      replace Lv : w.heap.size < w4.heap.size := by omega
      replace HBW : Hid (Below w.heap.size w w4) := Lib.hid (by refine bstep ?_ hb; (repeat with_reducible first | exact HBW.out | apply b_alloc | refine b_set ?_ ?_ _); all_goals (simp; try omega))
      clear hb hz
      go_wp2_with fail
      refine (alive02 _ (HL.out.later (b_alloc (b_alloc HBW.out _) _))).mono ?_
      rintro e w5 ⟨rfl, hb⟩
      have Lp : True := trivial
      have Yp : True := trivial
      have Lq : True := trivial
      have Yq : True := trivial
      replace Yv : ∀ o, w5.cell? ⟨w.heap.size, o, none⟩ = #[Value.int .i64 ak, .int .i64 an, .string as', .int .i64 ak, .int .i64 bn, .string bs', .int .i64 ck, .int .i64 cn, .string cs'][o]? := fun o => (hb.cell (p := ⟨w.heap.size, o, none⟩) (by (try simp only [World.size_alloc, World.size_setCell, World.size_drew]); omega)).trans (by simp [go_sem, *])
      replace Yp : ∀ o, w5.cell? ⟨w4.heap.size, o, none⟩ = #[Value.int .i64 ak, .int .i64 an, .string as', .int .i64 ak, .int .i64 bn, .string bs'][o]? := fun o => (hb.cell (p := ⟨w4.heap.size, o, none⟩) (by (try simp only [World.size_alloc, World.size_setCell, World.size_drew]); omega)).trans (by simp [go_sem, *])
      replace Yq : ∀ o, w5.cell? ⟨w4.heap.size + 1, o, none⟩ = #[Value.int .i64 ak, .int .i64 an, .string as', .int .i64 ck, .int .i64 cn, .string cs'][o]? := fun o => (hb.cell (p := ⟨w4.heap.size + 1, o, none⟩) (by (try simp only [World.size_alloc, World.size_setCell, World.size_drew]); omega)).trans (by simp [go_sem, *])
      have hz := hb.size
      (try simp only [World.size_alloc, World.size_setCell, World.size_drew] at hz)
      replace Lv : w.heap.size < w5.heap.size := by omega
      replace Lp : w4.heap.size < w5.heap.size := by omega
      replace Lq : w4.heap.size + 1 < w5.heap.size := by omega
      replace HBW : Hid (Below w.heap.size w w5) := Lib.hid (by refine bstep ?_ hb; (repeat with_reducible first | exact HBW.out | apply b_alloc | refine b_set ?_ ?_ _); all_goals (simp; try omega))
      clear hb hz
      go_wp2_with fail
      refine (rows_any (some ⟨_, 0, none⟩) (some ⟨_, 0, none⟩) [⟨ak, an, as'⟩, ⟨ak, bn, bs'⟩] [⟨ak, an, as'⟩, ⟨ck, cn, cs'⟩] 2 2 _ (rowIs_two (by omega) Yp) (rowIs_two (by omega) Yq)).mono ?_
      rintro e w6 ⟨rfl, hb⟩
      rw [show rowsV [⟨ak, an, as'⟩, ⟨ak, bn, bs'⟩] [⟨ak, an, as'⟩, ⟨ck, cn, cs'⟩] = y from HR.out]
      replace Yv : ∀ o, w6.cell? ⟨w.heap.size, o, none⟩ = #[Value.int .i64 ak, .int .i64 an, .string as', .int .i64 ak, .int .i64 bn, .string bs', .int .i64 ck, .int .i64 cn, .string cs'][o]? := fun o => (hb.cell (p := ⟨w.heap.size, o, none⟩) (by (try simp only [World.size_alloc, World.size_setCell, World.size_drew]); omega)).trans (by simp [go_sem, *])
      replace Yp : ∀ o, w6.cell? ⟨w4.heap.size, o, none⟩ = #[Value.int .i64 ak, .int .i64 an, .string as', .int .i64 ak, .int .i64 bn, .string bs'][o]? := fun o => (hb.cell (p := ⟨w4.heap.size, o, none⟩) (by (try simp only [World.size_alloc, World.size_setCell, World.size_drew]); omega)).trans (by simp [go_sem, *])
      replace Yq : ∀ o, w6.cell? ⟨w4.heap.size + 1, o, none⟩ = #[Value.int .i64 ak, .int .i64 an, .string as', .int .i64 ck, .int .i64 cn, .string cs'][o]? := fun o => (hb.cell (p := ⟨w4.heap.size + 1, o, none⟩) (by (try simp only [World.size_alloc, World.size_setCell, World.size_drew]); omega)).trans (by simp [go_sem, *])
      have hz := hb.size
      (try simp only [World.size_alloc, World.size_setCell, World.size_drew] at hz)
      replace Lv : w.heap.size < w6.heap.size := by omega
      replace Lp : w4.heap.size < w6.heap.size := by omega
      replace Lq : w4.heap.size + 1 < w6.heap.size := by omega
      replace HBW : Hid (Below w.heap.size w w6) := Lib.hid (by refine bstep ?_ hb; (repeat with_reducible first | exact HBW.out | apply b_alloc | refine b_set ?_ ?_ _); all_goals (simp; try omega))
      clear hb hz
      go_wp2_with fail
      refine (rows_any (some ⟨_, 0, none⟩) (some ⟨_, 0, none⟩) [⟨ak, an, as'⟩, ⟨ak, bn, bs'⟩] [⟨ak, an, as'⟩] 2 2 _ (rowIs_two (by omega) Yp) (rowIs_one (y := ⟨ak, bn, bs'⟩) (by omega) Yp)).mono ?_
      rintro e w7 ⟨rfl, hb⟩
      rw [rowsV_10]
      replace Yv : ∀ o, w7.cell? ⟨w.heap.size, o, none⟩ = #[Value.int .i64 ak, .int .i64 an, .string as', .int .i64 ak, .int .i64 bn, .string bs', .int .i64 ck, .int .i64 cn, .string cs'][o]? := fun o => (hb.cell (p := ⟨w.heap.size, o, none⟩) (by (try simp only [World.size_alloc, World.size_setCell, World.size_drew]); omega)).trans (by simp [go_sem, *])
      replace Yp : ∀ o, w7.cell? ⟨w4.heap.size, o, none⟩ = #[Value.int .i64 ak, .int .i64 an, .string as', .int .i64 ak, .int .i64 bn, .string bs'][o]? := fun o => (hb.cell (p := ⟨w4.heap.size, o, none⟩) (by (try simp only [World.size_alloc, World.size_setCell, World.size_drew]); omega)).trans (by simp [go_sem, *])
      replace Yq : ∀ o, w7.cell? ⟨w4.heap.size + 1, o, none⟩ = #[Value.int .i64 ak, .int .i64 an, .string as', .int .i64 ck, .int .i64 cn, .string cs'][o]? := fun o => (hb.cell (p := ⟨w4.heap.size + 1, o, none⟩) (by (try simp only [World.size_alloc, World.size_setCell, World.size_drew]); omega)).trans (by simp [go_sem, *])
      have hz := hb.size
      (try simp only [World.size_alloc, World.size_setCell, World.size_drew] at hz)
      replace Lv : w.heap.size < w7.heap.size := by omega
      replace Lp : w4.heap.size < w7.heap.size := by omega
      replace Lq : w4.heap.size + 1 < w7.heap.size := by omega
      replace HBW : Hid (Below w.heap.size w w7) := Lib.hid (by refine bstep ?_ hb; (repeat with_reducible first | exact HBW.out | apply b_alloc | refine b_set ?_ ?_ _); all_goals (simp; try omega))
      clear hb hz
      go_wp2_with fail
      refine (rows_any (some ⟨_, 0, none⟩) (some ⟨_, 0, none⟩) [⟨ak, an, as'⟩] [⟨ak, an, as'⟩, ⟨ak, bn, bs'⟩] 2 2 _ (rowIs_one (y := ⟨ak, bn, bs'⟩) (by omega) Yp) (rowIs_two (by omega) Yp)).mono ?_
      rintro e w8 ⟨rfl, hb⟩
      rw [rowsV_01]
      replace Yv : ∀ o, w8.cell? ⟨w.heap.size, o, none⟩ = #[Value.int .i64 ak, .int .i64 an, .string as', .int .i64 ak, .int .i64 bn, .string bs', .int .i64 ck, .int .i64 cn, .string cs'][o]? := fun o => (hb.cell (p := ⟨w.heap.size, o, none⟩) (by (try simp only [World.size_alloc, World.size_setCell, World.size_drew]); omega)).trans (by simp [go_sem, *])
      replace Yp : ∀ o, w8.cell? ⟨w4.heap.size, o, none⟩ = #[Value.int .i64 ak, .int .i64 an, .string as', .int .i64 ak, .int .i64 bn, .string bs'][o]? := fun o => (hb.cell (p := ⟨w4.heap.size, o, none⟩) (by (try simp only [World.size_alloc, World.size_setCell, World.size_drew]); omega)).trans (by simp [go_sem, *])
      replace Yq : ∀ o, w8.cell? ⟨w4.heap.size + 1, o, none⟩ = #[Value.int .i64 ak, .int .i64 an, .string as', .int .i64 ck, .int .i64 cn, .string cs'][o]? := fun o => (hb.cell (p := ⟨w4.heap.size + 1, o, none⟩) (by (try simp only [World.size_alloc, World.size_setCell, World.size_drew]); omega)).trans (by simp [go_sem, *])
      have hz := hb.size
      (try simp only [World.size_alloc, World.size_setCell, World.size_drew] at hz)
      replace Lv : w.heap.size < w8.heap.size := by omega
      replace Lp : w4.heap.size < w8.heap.size := by omega
      replace Lq : w4.heap.size + 1 < w8.heap.size := by omega
      replace HBW : Hid (Below w.heap.size w w8) := Lib.hid (by refine bstep ?_ hb; (repeat with_reducible first | exact HBW.out | apply b_alloc | refine b_set ?_ ?_ _); all_goals (simp; try omega))
      clear hb hz
      go_wp2_with fail
      refine (rows_any (none) (none) [] [] 0 0 _ (rowIs_none) (rowIs_none)).mono ?_
      rintro e w9 ⟨rfl, hb⟩
      rw [rowsV_00]
      replace Yv : ∀ o, w9.cell? ⟨w.heap.size, o, none⟩ = #[Value.int .i64 ak, .int .i64 an, .string as', .int .i64 ak, .int .i64 bn, .string bs', .int .i64 ck, .int .i64 cn, .string cs'][o]? := fun o => (hb.cell (p := ⟨w.heap.size, o, none⟩) (by (try simp only [World.size_alloc, World.size_setCell, World.size_drew]); omega)).trans (by simp [go_sem, *])
      replace Yp : ∀ o, w9.cell? ⟨w4.heap.size, o, none⟩ = #[Value.int .i64 ak, .int .i64 an, .string as', .int .i64 ak, .int .i64 bn, .string bs'][o]? := fun o => (hb.cell (p := ⟨w4.heap.size, o, none⟩) (by (try simp only [World.size_alloc, World.size_setCell, World.size_drew]); omega)).trans (by simp [go_sem, *])
      replace Yq : ∀ o, w9.cell? ⟨w4.heap.size + 1, o, none⟩ = #[Value.int .i64 ak, .int .i64 an, .string as', .int .i64 ck, .int .i64 cn, .string cs'][o]? := fun o => (hb.cell (p := ⟨w4.heap.size + 1, o, none⟩) (by (try simp only [World.size_alloc, World.size_setCell, World.size_drew]); omega)).trans (by simp [go_sem, *])
      have hz := hb.size
      (try simp only [World.size_alloc, World.size_setCell, World.size_drew] at hz)
      replace Lv : w.heap.size < w9.heap.size := by omega
      replace Lp : w4.heap.size < w9.heap.size := by omega
      replace Lq : w4.heap.size + 1 < w9.heap.size := by omega
      replace HBW : Hid (Below w.heap.size w w9) := Lib.hid (by refine bstep ?_ hb; (repeat with_reducible first | exact HBW.out | apply b_alloc | refine b_set ?_ ?_ _); all_goals (simp; try omega))
      clear hb hz
      go_wp2
      go_ret
      exact ⟨rfl, HBW.out⟩

set_option maxRecDepth 100000 in
set_option maxHeartbeats 1600000 in
theorem line_n_l1 (ak an bn ck cn z : Int) (as' bs' cs' : ByteArray) (w : World) (hl : Laid w) (h1 : as'.size ≤ 500) (h2 : bs'.size ≤ 500) (h3 : cs'.size ≤ 500) (e1 : ¬ an = bn) (hx : ordV ⟨ak, an, as'⟩ ⟨ak, bn, bs'⟩ = -1) (hy : ordV ⟨ak, bn, bs'⟩ ⟨ck, cn, cs'⟩ = 1) (hz : ordV ⟨ak, an, as'⟩ ⟨ck, cn, cs'⟩ = z) :
    Calls Tryd.prog 7 #[.agg #[Value.int .i64 ak, .int .i64 an, .string as', .int .i64 ak, .int .i64 bn, .string bs', .int .i64 ck, .int .i64 cn, .string cs']] w fun e w' => e = .returned (.bool true) ∧ Below w.heap.size w w' := by
  have HL := Lib.hid hl; clear hl
  have e2 : (an == bn) = false := beq_eq_false_iff_ne.2 e1
  have HN : Hid (ordV ⟨ak, bn, bs'⟩ ⟨ak, an, as'⟩ = -(-1)) := Lib.hid (by rw [ordV_neg, hx])
  have HR : Hid (rowsV [⟨ak, an, as'⟩, ⟨ak, bn, bs'⟩] [⟨ak, an, as'⟩, ⟨ck, cn, cs'⟩] = 1) := Lib.hid (rowsV_11 hy)
  have HX := Lib.hid hx; have HY := Lib.hid hy; have HZ := Lib.hid hz
  clear hx hy hz
  go_enter Tryd.func7, Tryd.ntmps7
  go_wp2_with fail
  go_loopw [3] (fun i wr => (i = .int .i64 0 ∨ i = .int .i64 1 ∨ i = .int .i64 2 ∨ i = .int .i64 3) ∧ wr = w.alloc (Obj.cells #[Value.int .i64 ak, .int .i64 an, .string as', .int .i64 ak, .int .i64 bn, .string bs', .int .i64 ck, .int .i64 cn, .string cs'] 36)) (fun i _ => 3 - (intOf i).toNat)
  case atStart => exact ⟨Or.inl rfl, rfl⟩
  case round =>
    obtain ⟨hi, rfl⟩ := hrel
    rcases hi with rfl | rfl | rfl | rfl
    · go_wp2_with fail
      go_roundw
      case rel => exact ⟨Or.inr (Or.inl rfl), trivial⟩
      case measure => decide
    · go_wp2_with fail
      go_roundw
      case rel => exact ⟨Or.inr (Or.inr (Or.inl rfl)), trivial⟩
      case measure => decide
    · go_wp2_with fail
      go_roundw
      case rel => exact ⟨Or.inr (Or.inr (Or.inr rfl)), trivial⟩
      case measure => decide
    · have Lv : True := trivial
      have Yv : True := trivial
      have HBW : Hid (Below w.heap.size w w) := Lib.hid (Below.refl _ _)
      go_wp2_with fail
      refine (order_any _ _ _ _ _ _ _).mono ?_
      rintro e w1 ⟨rfl, hb⟩
      rw [show ordV ⟨ak, an, as'⟩ ⟨ak, bn, bs'⟩ = -1 from HX.out]
      replace Yv : ∀ o, w1.cell? ⟨w.heap.size, o, none⟩ = #[Value.int .i64 ak, .int .i64 an, .string as', .int .i64 ak, .int .i64 bn, .string bs', .int .i64 ck, .int .i64 cn, .string cs'][o]? := fun o => (hb.cell (p := ⟨w.heap.size, o, none⟩) (by (try simp only [World.size_alloc, World.size_setCell, World.size_drew]); omega)).trans (by simp [go_sem, *])
      have hz := hb.size
      (try simp only [World.size_alloc, World.size_setCell, World.size_drew] at hz)
      replace Lv : w.heap.size < w1.heap.size := by omega
      replace HBW : Hid (Below w.heap.size w w1) := Lib.hid (by refine bstep ?_ hb; (repeat with_reducible first | exact HBW.out | apply b_alloc | refine b_set ?_ ?_ _); all_goals (simp; try omega))
      clear hb hz
      go_wp2_with fail
      refine (order_any _ _ _ _ _ _ _).mono ?_
      rintro e w2 ⟨rfl, hb⟩
      rw [show ordV ⟨ak, bn, bs'⟩ ⟨ck, cn, cs'⟩ = 1 from HY.out]
      replace Yv : ∀ o, w2.cell? ⟨w.heap.size, o, none⟩ = #[Value.int .i64 ak, .int .i64 an, .string as', .int .i64 ak, .int .i64 bn, .string bs', .int .i64 ck, .int .i64 cn, .string cs'][o]? := fun o => (hb.cell (p := ⟨w.heap.size, o, none⟩) (by (try simp only [World.size_alloc, World.size_setCell, World.size_drew]); omega)).trans (by simp [go_sem, *])
      have hz := hb.size
      (try simp only [World.size_alloc, World.size_setCell, World.size_drew] at hz)
      replace Lv : w.heap.size < w2.heap.size := by omega
      replace HBW : Hid (Below w.heap.size w w2) := Lib.hid (by refine bstep ?_ hb; (repeat with_reducible first | exact HBW.out | apply b_alloc | refine b_set ?_ ?_ _); all_goals (simp; try omega))
      clear hb hz
      go_wp2_with fail
      refine (order_any _ _ _ _ _ _ _).mono ?_
      rintro e w3 ⟨rfl, hb⟩
      rw [show ordV ⟨ak, an, as'⟩ ⟨ck, cn, cs'⟩ = z from HZ.out]
      replace Yv : ∀ o, w3.cell? ⟨w.heap.size, o, none⟩ = #[Value.int .i64 ak, .int .i64 an, .string as', .int .i64 ak, .int .i64 bn, .string bs', .int .i64 ck, .int .i64 cn, .string cs'][o]? := fun o => (hb.cell (p := ⟨w.heap.size, o, none⟩) (by (try simp only [World.size_alloc, World.size_setCell, World.size_drew]); omega)).trans (by simp [go_sem, *])
      have hz := hb.size
      (try simp only [World.size_alloc, World.size_setCell, World.size_drew] at hz)
      replace Lv : w.heap.size < w3.heap.size := by omega
      replace HBW : Hid (Below w.heap.size w w3) := Lib.hid (by refine bstep ?_ hb; (repeat with_reducible first | exact HBW.out | apply b_alloc | refine b_set ?_ ?_ _); all_goals (simp; try omega))
      clear hb hz
      go_wp2_with fail
      refine (order_any _ _ _ _ _ _ _).mono ?_
      rintro e w4 ⟨rfl, hb⟩
      rw [show ordV ⟨ak, bn, bs'⟩ ⟨ak, an, as'⟩ = 1 from HN.out]
      replace Yv : ∀ o, w4.cell? ⟨w.heap.size, o, none⟩ = #[Value.int .i64 ak, .int .i64 an, .string as', .int .i64 ak, .int .i64 bn, .string bs', .int .i64 ck, .int .i64 cn, .string cs'][o]? := fun o => (hb.cell (p := ⟨w.heap.size, o, none⟩) (by (try simp only [World.size_alloc, World.size_setCell, World.size_drew]); omega)).trans (by simp [go_sem, *])
      have hz := hb.size
      (try simp only [World.size_alloc, World.size_setCell, World.size_drew] at hz)
      replace Lv : w.heap.size < w4.heap.size := by omega
      replace HBW : Hid (Below w.heap.size w w4) := Lib.hid (by refine bstep ?_ hb; (repeat with_reducible first | exact HBW.out | apply b_alloc | refine b_set ?_ ?_ _); all_goals (simp; try omega))
      clear hb hz
      go_wp2_with fail
      refine (alive02 _ (HL.out.later (b_alloc (b_alloc HBW.out _) _))).mono ?_
      rintro e w5 ⟨rfl, hb⟩
      have Lp : True := trivial
      have Yp : True := trivial
      have Lq : True := trivial
      have Yq : True := trivial
      replace Yv : ∀ o, w5.cell? ⟨w.heap.size, o, none⟩ = #[Value.int .i64 ak, .int .i64 an, .string as', .int .i64 ak, .int .i64 bn, .string bs', .int .i64 ck, .int .i64 cn, .string cs'][o]? := fun o => (hb.cell (p := ⟨w.heap.size, o, none⟩) (by (try simp only [World.size_alloc, World.size_setCell, World.size_drew]); omega)).trans (by simp [go_sem, *])
      replace Yp : ∀ o, w5.cell? ⟨w4.heap.size, o, none⟩ = #[Value.int .i64 ak, .int .i64 an, .string as', .int .i64 ak, .int .i64 bn, .string bs'][o]? := fun o => (hb.cell (p := ⟨w4.heap.size, o, none⟩) (by (try simp only [World.size_alloc, World.size_setCell, World.size_drew]); omega)).trans (by simp [go_sem, *])
      replace Yq : ∀ o, w5.cell? ⟨w4.heap.size + 1, o, none⟩ = #[Value.int .i64 ak, .int .i64 an, .string as', .int .i64 ck, .int .i64 cn, .string cs'][o]? := fun o => (hb.cell (p := ⟨w4.heap.size + 1, o, none⟩) (by (try simp only [World.size_alloc, World.size_setCell, World.size_drew]); omega)).trans (by simp [go_sem, *])
      have hz := hb.size
      (try simp only [World.size_alloc, World.size_setCell, World.size_drew] at hz)
      replace Lv : w.heap.size < w5.heap.size := by omega
      replace Lp : w4.heap.size < w5.heap.size := by omega
      replace Lq : w4.heap.size + 1 < w5.heap.size := by omega
      replace HBW : Hid (Below w.heap.size w w5) := Lib.hid (by refine bstep ?_ hb; (repeat with_reducible first | exact HBW.out | apply b_alloc | refine b_set ?_ ?_ _); all_goals (simp; try omega))
      clear hb hz
      go_wp2_with fail
      refine (rows_any (some ⟨_, 0, none⟩) (some ⟨_, 0, none⟩) [⟨ak, an, as'⟩, ⟨ak, bn, bs'⟩] [⟨ak, an, as'⟩, ⟨ck, cn, cs'⟩] 2 2 _ (rowIs_two (by omega) Yp) (rowIs_two (by omega) Yq)).mono ?_
      rintro e w6 ⟨rfl, hb⟩
      rw [show rowsV [⟨ak, an, as'⟩, ⟨ak, bn, bs'⟩] [⟨ak, an, as'⟩, ⟨ck, cn, cs'⟩] = 1 from HR.out]
      replace Yv : ∀ o, w6.cell? ⟨w.heap.size, o, none⟩ = #[Value.int .i64 ak, .int .i64 an, .string as', .int .i64 ak, .int .i64 bn, .string bs', .int .i64 ck, .int .i64 cn, .string cs'][o]? := fun o => (hb.cell (p := ⟨w.heap.size, o, none⟩) (by (try simp only [World.size_alloc, World.size_setCell, World.size_drew]); omega)).trans (by simp [go_sem, *])
      replace Yp : ∀ o, w6.cell? ⟨w4.heap.size, o, none⟩ = #[Value.int .i64 ak, .int .i64 an, .string as', .int .i64 ak, .int .i64 bn, .string bs'][o]? := fun o => (hb.cell (p := ⟨w4.heap.size, o, none⟩) (by (try simp only [World.size_alloc, World.size_setCell, World.size_drew]); omega)).trans (by simp [go_sem, *])
      replace Yq : ∀ o, w6.cell? ⟨w4.heap.size + 1, o, none⟩ = #[Value.int .i64 ak, .int .i64 an, .string as', .int .i64 ck, .int .i64 cn, .string cs'][o]? := fun o => (hb.cell (p := ⟨w4.heap.size + 1, o, none⟩) (by (try simp only [World.size_alloc, World.size_setCell, World.size_drew]); omega)).trans (by simp [go_sem, *])
      have hz := hb.size
      (try simp only [World.size_alloc, World.size_setCell, World.size_drew] at hz)
      replace Lv : w.heap.size < w6.heap.size := by omega
      replace Lp : w4.heap.size < w6.heap.size := by omega
      replace Lq : w4.heap.size + 1 < w6.heap.size := by omega
      replace HBW : Hid (Below w.heap.size w w6) := Lib.hid (by refine bstep ?_ hb; (repeat with_reducible first | exact HBW.out | apply b_alloc | refine b_set ?_ ?_ _); all_goals (simp; try omega))
      clear hb hz
      go_wp2_with fail
      refine (rows_any (some ⟨_, 0, none⟩) (some ⟨_, 0, none⟩) [⟨ak, an, as'⟩, ⟨ak, bn, bs'⟩] [⟨ak, an, as'⟩] 2 2 _ (rowIs_two (by omega) Yp) (rowIs_one (y := ⟨ak, bn, bs'⟩) (by omega) Yp)).mono ?_
      rintro e w7 ⟨rfl, hb⟩
      rw [rowsV_10]
      replace Yv : ∀ o, w7.cell? ⟨w.heap.size, o, none⟩ = #[Value.int .i64 ak, .int .i64 an, .string as', .int .i64 ak, .int .i64 bn, .string bs', .int .i64 ck, .int .i64 cn, .string cs'][o]? := fun o => (hb.cell (p := ⟨w.heap.size, o, none⟩) (by (try simp only [World.size_alloc, World.size_setCell, World.size_drew]); omega)).trans (by simp [go_sem, *])
      replace Yp : ∀ o, w7.cell? ⟨w4.heap.size, o, none⟩ = #[Value.int .i64 ak, .int .i64 an, .string as', .int .i64 ak, .int .i64 bn, .string bs'][o]? := fun o => (hb.cell (p := ⟨w4.heap.size, o, none⟩) (by (try simp only [World.size_alloc, World.size_setCell, World.size_drew]); omega)).trans (by simp [go_sem, *])
      replace Yq : ∀ o, w7.cell? ⟨w4.heap.size + 1, o, none⟩ = #[Value.int .i64 ak, .int .i64 an, .string as', .int .i64 ck, .int .i64 cn, .string cs'][o]? := fun o => (hb.cell (p := ⟨w4.heap.size + 1, o, none⟩) (by (try simp only [World.size_alloc, World.size_setCell, World.size_drew]); omega)).trans (by simp [go_sem, *])
      have hz := hb.size
      (try simp only [World.size_alloc, World.size_setCell, World.size_drew] at hz)
      replace Lv : w.heap.size < w7.heap.size := by omega
      replace Lp : w4.heap.size < w7.heap.size := by omega
      replace Lq : w4.heap.size + 1 < w7.heap.size := by omega
      replace HBW : Hid (Below w.heap.size w w7) := Lib.hid (by refine bstep ?_ hb; (repeat with_reducible first | exact HBW.out | apply b_alloc | refine b_set ?_ ?_ _); all_goals (simp; try omega))
      clear hb hz
      go_wp2_with fail
      refine (rows_any (some ⟨_, 0, none⟩) (some ⟨_, 0, none⟩) [⟨ak, an, as'⟩] [⟨ak, an, as'⟩, ⟨ak, bn, bs'⟩] 2 2 _ (rowIs_one (y := ⟨ak, bn, bs'⟩) (by omega) Yp) (rowIs_two (by omega) Yp)).mono ?_
      rintro e w8 ⟨rfl, hb⟩
      rw [rowsV_01]
      replace Yv : ∀ o, w8.cell? ⟨w.heap.size, o, none⟩ = #[Value.int .i64 ak, .int .i64 an, .string as', .int .i64 ak, .int .i64 bn, .string bs', .int .i64 ck, .int .i64 cn, .string cs'][o]? := fun o => (hb.cell (p := ⟨w.heap.size, o, none⟩) (by (try simp only [World.size_alloc, World.size_setCell, World.size_drew]); omega)).trans (by simp [go_sem, *])
      replace Yp : ∀ o, w8.cell? ⟨w4.heap.size, o, none⟩ = #[Value.int .i64 ak, .int .i64 an, .string as', .int .i64 ak, .int .i64 bn, .string bs'][o]? := fun o => (hb.cell (p := ⟨w4.heap.size, o, none⟩) (by (try simp only [World.size_alloc, World.size_setCell, World.size_drew]); omega)).trans (by simp [go_sem, *])
      replace Yq : ∀ o, w8.cell? ⟨w4.heap.size + 1, o, none⟩ = #[Value.int .i64 ak, .int .i64 an, .string as', .int .i64 ck, .int .i64 cn, .string cs'][o]? := fun o => (hb.cell (p := ⟨w4.heap.size + 1, o, none⟩) (by (try simp only [World.size_alloc, World.size_setCell, World.size_drew]); omega)).trans (by simp [go_sem, *])
      have hz := hb.size
      (try simp only [World.size_alloc, World.size_setCell, World.size_drew] at hz)
      replace Lv : w.heap.size < w8.heap.size := by omega
      replace Lp : w4.heap.size < w8.heap.size := by omega
      replace Lq : w4.heap.size + 1 < w8.heap.size := by omega
      replace HBW : Hid (Below w.heap.size w w8) := Lib.hid (by refine bstep ?_ hb; (repeat with_reducible first | exact HBW.out | apply b_alloc | refine b_set ?_ ?_ _); all_goals (simp; try omega))
      clear hb hz
      go_wp2_with fail
      refine (rows_any (none) (none) [] [] 0 0 _ (rowIs_none) (rowIs_none)).mono ?_
      rintro e w9 ⟨rfl, hb⟩
      rw [rowsV_00]
      replace Yv : ∀ o, w9.cell? ⟨w.heap.size, o, none⟩ = #[Value.int .i64 ak, .int .i64 an, .string as', .int .i64 ak, .int .i64 bn, .string bs', .int .i64 ck, .int .i64 cn, .string cs'][o]? := fun o => (hb.cell (p := ⟨w.heap.size, o, none⟩) (by (try simp only [World.size_alloc, World.size_setCell, World.size_drew]); omega)).trans (by simp [go_sem, *])
      replace Yp : ∀ o, w9.cell? ⟨w4.heap.size, o, none⟩ = #[Value.int .i64 ak, .int .i64 an, .string as', .int .i64 ak, .int .i64 bn, .string bs'][o]? := fun o => (hb.cell (p := ⟨w4.heap.size, o, none⟩) (by (try simp only [World.size_alloc, World.size_setCell, World.size_drew]); omega)).trans (by simp [go_sem, *])
      replace Yq : ∀ o, w9.cell? ⟨w4.heap.size + 1, o, none⟩ = #[Value.int .i64 ak, .int .i64 an, .string as', .int .i64 ck, .int .i64 cn, .string cs'][o]? := fun o => (hb.cell (p := ⟨w4.heap.size + 1, o, none⟩) (by (try simp only [World.size_alloc, World.size_setCell, World.size_drew]); omega)).trans (by simp [go_sem, *])
      have hz := hb.size
      (try simp only [World.size_alloc, World.size_setCell, World.size_drew] at hz)
      replace Lv : w.heap.size < w9.heap.size := by omega
      replace Lp : w4.heap.size < w9.heap.size := by omega
      replace Lq : w4.heap.size + 1 < w9.heap.size := by omega
      replace HBW : Hid (Below w.heap.size w w9) := Lib.hid (by refine bstep ?_ hb; (repeat with_reducible first | exact HBW.out | apply b_alloc | refine b_set ?_ ?_ _); all_goals (simp; try omega))
      clear hb hz
      go_wp2
      go_ret
      exact ⟨rfl, HBW.out⟩

set_option maxRecDepth 100000 in
set_option maxHeartbeats 1600000 in
theorem line_n_l0 (ak an bn ck cn y : Int) (as' bs' cs' : ByteArray) (w : World) (hl : Laid w) (h1 : as'.size ≤ 500) (h2 : bs'.size ≤ 500) (h3 : cs'.size ≤ 500) (hy0 : y ≤ 0) (e1 : ¬ an = bn) (hx : ordV ⟨ak, an, as'⟩ ⟨ak, bn, bs'⟩ = -1) (hy : ordV ⟨ak, bn, bs'⟩ ⟨ck, cn, cs'⟩ = y) (hz : ordV ⟨ak, an, as'⟩ ⟨ck, cn, cs'⟩ = -1) :
    Calls Tryd.prog 7 #[.agg #[Value.int .i64 ak, .int .i64 an, .string as', .int .i64 ak, .int .i64 bn, .string bs', .int .i64 ck, .int .i64 cn, .string cs']] w fun e w' => e = .returned (.bool true) ∧ Below w.heap.size w w' := by
  have HL := Lib.hid hl; clear hl
  have e2 : (an == bn) = false := beq_eq_false_iff_ne.2 e1
  have HN : Hid (ordV ⟨ak, bn, bs'⟩ ⟨ak, an, as'⟩ = -(-1)) := Lib.hid (by rw [ordV_neg, hx])
  have HR : Hid (rowsV [⟨ak, an, as'⟩, ⟨ak, bn, bs'⟩] [⟨ak, an, as'⟩, ⟨ck, cn, cs'⟩] = y) := Lib.hid (rowsV_11 hy)
  have HX := Lib.hid hx; have HY := Lib.hid hy; have HZ := Lib.hid hz
  clear hx hy hz
  go_enter Tryd.func7, Tryd.ntmps7
  go_wp2_with fail
  go_loopw [3] (fun i wr => (i = .int .i64 0 ∨ i = .int .i64 1 ∨ i = .int .i64 2 ∨ i = .int .i64 3) ∧ wr = w.alloc (Obj.cells #[Value.int .i64 ak, .int .i64 an, .string as', .int .i64 ak, .int .i64 bn, .string bs', .int .i64 ck, .int .i64 cn, .string cs'] 36)) (fun i _ => 3 - (intOf i).toNat)
  case atStart => exact ⟨Or.inl rfl, rfl⟩
  case round =>
    obtain ⟨hi, rfl⟩ := hrel
    rcases hi with rfl | rfl | rfl | rfl
    · go_wp2_with fail
      go_roundw
      case rel => exact ⟨Or.inr (Or.inl rfl), trivial⟩
      case measure => decide
    · go_wp2_with fail
      go_roundw
      case rel => exact ⟨Or.inr (Or.inr (Or.inl rfl)), trivial⟩
      case measure => decide
    · go_wp2_with fail
      go_roundw
      case rel => exact ⟨Or.inr (Or.inr (Or.inr rfl)), trivial⟩
      case measure => decide
    · have Lv : True := trivial
      have Yv : True := trivial
      have HBW : Hid (Below w.heap.size w w) := Lib.hid (Below.refl _ _)
      go_wp2_with fail
      refine (order_any _ _ _ _ _ _ _).mono ?_
      rintro e w1 ⟨rfl, hb⟩
      rw [show ordV ⟨ak, an, as'⟩ ⟨ak, bn, bs'⟩ = -1 from HX.out]
      replace Yv : ∀ o, w1.cell? ⟨w.heap.size, o, none⟩ = #[Value.int .i64 ak, .int .i64 an, .string as', .int .i64 ak, .int .i64 bn, .string bs', .int .i64 ck, .int .i64 cn, .string cs'][o]? := fun o => (hb.cell (p := ⟨w.heap.size, o, none⟩) (by (try simp only [World.size_alloc, World.size_setCell, World.size_drew]); omega)).trans (by simp [go_sem, *])
      have hz := hb.size
      (try simp only [World.size_alloc, World.size_setCell, World.size_drew] at hz)
      replace Lv : w.heap.size < w1.heap.size := by omega
      replace HBW : Hid (Below w.heap.size w w1) := Lib.hid (by refine bstep ?_ hb; (repeat with_reducible first | exact HBW.out | apply b_alloc | refine b_set ?_ ?_ _); all_goals (simp; try omega))
      clear hb hz
      go_wp2_with fail
      refine (order_any _ _ _ _ _ _ _).mono ?_
      rintro e w2 ⟨rfl, hb⟩
      rw [show ordV ⟨ak, bn, bs'⟩ ⟨ck, cn, cs'⟩ = y from HY.out]
      replace Yv : ∀ o, w2.cell? ⟨w.heap.size, o, none⟩ = #[Value.int .i64 ak, .int .i64 an, .string as', .int .i64 ak, .int .i64 bn, .string bs', .int .i64 ck, .int .i64 cn, .string cs'][o]? := fun o => (hb.cell (p := ⟨w.heap.size, o, none⟩) (by (try simp only [World.size_alloc, World.size_setCell, World.size_drew]); omega)).trans (by simp [go_sem, *])
      have hz := hb.size
      (try simp only [World.size_alloc, World.size_setCell, World.size_drew] at hz)
      replace Lv : w.heap.size < w2.heap.size := by omega
      replace HBW : Hid (Below w.heap.size w w2) := Lib.hid (by refine bstep ?_ hb; (repeat with_reducible first | exact HBW.out | apply b_alloc | refine b_set ?_ ?_ _); all_goals (simp; try omega))
      clear hb hz
      go_wp2_with fail
      refine (order_any _ _ _ _ _ _ _).mono ?_
      rintro e w3 ⟨rfl, hb⟩
      rw [show ordV ⟨ak, an, as'⟩ ⟨ck, cn, cs'⟩ = -1 from HZ.out]
      replace Yv : ∀ o, w3.cell? ⟨w.heap.size, o, none⟩ = #[Value.int .i64 ak, .int .i64 an, .string as', .int .i64 ak, .int .i64 bn, .string bs', .int .i64 ck, .int .i64 cn, .string cs'][o]? := fun o => (hb.cell (p := ⟨w.heap.size, o, none⟩) (by (try simp only [World.size_alloc, World.size_setCell, World.size_drew]); omega)).trans (by simp [go_sem, *])
      have hz := hb.size
      (try simp only [World.size_alloc, World.size_setCell, World.size_drew] at hz)
      replace Lv : w.heap.size < w3.heap.size := by omega
      replace HBW : Hid (Below w.heap.size w w3) := Lib.hid (by refine bstep ?_ hb; (repeat with_reducible first | exact HBW.out | apply b_alloc | refine b_set ?_ ?_ _); all_goals (simp; try omega))
      clear hb hz
      go_wp2_with fail
      refine (order_any _ _ _ _ _ _ _).mono ?_
      rintro e w4 ⟨rfl, hb⟩
      rw [show ordV ⟨ak, bn, bs'⟩ ⟨ak, an, as'⟩ = 1 from HN.out]
      replace Yv : ∀ o, w4.cell? ⟨w.heap.size, o, none⟩ = #[Value.int .i64 ak, .int .i64 an, .string as', .int .i64 ak, .int .i64 bn, .string bs', .int .i64 ck, .int .i64 cn, .string cs'][o]? := fun o => (hb.cell (p := ⟨w.heap.size, o, none⟩) (by (try simp only [World.size_alloc, World.size_setCell, World.size_drew]); omega)).trans (by simp [go_sem, *])
      have hz := hb.size
      (try simp only [World.size_alloc, World.size_setCell, World.size_drew] at hz)
      replace Lv : w.heap.size < w4.heap.size := by omega
      replace HBW : Hid (Below w.heap.size w w4) := Lib.hid (by refine bstep ?_ hb; (repeat with_reducible first | exact HBW.out | apply b_alloc | refine b_set ?_ ?_ _); all_goals (simp; try omega))
      clear hb hz
      go_wp2_with fail
      refine (alive02 _ (HL.out.later (b_alloc (b_alloc HBW.out _) _))).mono ?_
      rintro e w5 ⟨rfl, hb⟩
      have Lp : True := trivial
      have Yp : True := trivial
      have Lq : True := trivial
      have Yq : True := trivial
      replace Yv : ∀ o, w5.cell? ⟨w.heap.size, o, none⟩ = #[Value.int .i64 ak, .int .i64 an, .string as', .int .i64 ak, .int .i64 bn, .string bs', .int .i64 ck, .int .i64 cn, .string cs'][o]? := fun o => (hb.cell (p := ⟨w.heap.size, o, none⟩) (by (try simp only [World.size_alloc, World.size_setCell, World.size_drew]); omega)).trans (by simp [go_sem, *])
      replace Yp : ∀ o, w5.cell? ⟨w4.heap.size, o, none⟩ = #[Value.int .i64 ak, .int .i64 an, .string as', .int .i64 ak, .int .i64 bn, .string bs'][o]? := fun o => (hb.cell (p := ⟨w4.heap.size, o, none⟩) (by (try simp only [World.size_alloc, World.size_setCell, World.size_drew]); omega)).trans (by simp [go_sem, *])
      replace Yq : ∀ o, w5.cell? ⟨w4.heap.size + 1, o, none⟩ = #[Value.int .i64 ak, .int .i64 an, .string as', .int .i64 ck, .int .i64 cn, .string cs'][o]? := fun o => (hb.cell (p := ⟨w4.heap.size + 1, o, none⟩) (by (try simp only [World.size_alloc, World.size_setCell, World.size_drew]); omega)).trans (by simp [go_sem, *])
      have hz := hb.size
      (try simp only [World.size_alloc, World.size_setCell, World.size_drew] at hz)
      replace Lv : w.heap.size < w5.heap.size := by omega
      replace Lp : w4.heap.size < w5.heap.size := by omega
      replace Lq : w4.heap.size + 1 < w5.heap.size := by omega
      replace HBW : Hid (Below w.heap.size w w5) := Lib.hid (by refine bstep ?_ hb; (repeat with_reducible first | exact HBW.out | apply b_alloc | refine b_set ?_ ?_ _); all_goals (simp; try omega))
      clear hb hz
      go_wp2_with fail
      refine (rows_any (some ⟨_, 0, none⟩) (some ⟨_, 0, none⟩) [⟨ak, an, as'⟩, ⟨ak, bn, bs'⟩] [⟨ak, an, as'⟩, ⟨ck, cn, cs'⟩] 2 2 _ (rowIs_two (by omega) Yp) (rowIs_two (by omega) Yq)).mono ?_
      rintro e w6 ⟨rfl, hb⟩
      rw [show rowsV [⟨ak, an, as'⟩, ⟨ak, bn, bs'⟩] [⟨ak, an, as'⟩, ⟨ck, cn, cs'⟩] = y from HR.out]
      replace Yv : ∀ o, w6.cell? ⟨w.heap.size, o, none⟩ = #[Value.int .i64 ak, .int .i64 an, .string as', .int .i64 ak, .int .i64 bn, .string bs', .int .i64 ck, .int .i64 cn, .string cs'][o]? := fun o => (hb.cell (p := ⟨w.heap.size, o, none⟩) (by (try simp only [World.size_alloc, World.size_setCell, World.size_drew]); omega)).trans (by simp [go_sem, *])
      replace Yp : ∀ o, w6.cell? ⟨w4.heap.size, o, none⟩ = #[Value.int .i64 ak, .int .i64 an, .string as', .int .i64 ak, .int .i64 bn, .string bs'][o]? := fun o => (hb.cell (p := ⟨w4.heap.size, o, none⟩) (by (try simp only [World.size_alloc, World.size_setCell, World.size_drew]); omega)).trans (by simp [go_sem, *])
      replace Yq : ∀ o, w6.cell? ⟨w4.heap.size + 1, o, none⟩ = #[Value.int .i64 ak, .int .i64 an, .string as', .int .i64 ck, .int .i64 cn, .string cs'][o]? := fun o => (hb.cell (p := ⟨w4.heap.size + 1, o, none⟩) (by (try simp only [World.size_alloc, World.size_setCell, World.size_drew]); omega)).trans (by simp [go_sem, *])
      have hz := hb.size
      (try simp only [World.size_alloc, World.size_setCell, World.size_drew] at hz)
      replace Lv : w.heap.size < w6.heap.size := by omega
      replace Lp : w4.heap.size < w6.heap.size := by omega
      replace Lq : w4.heap.size + 1 < w6.heap.size := by omega
      replace HBW : Hid (Below w.heap.size w w6) := Lib.hid (by refine bstep ?_ hb; (repeat with_reducible first | exact HBW.out | apply b_alloc | refine b_set ?_ ?_ _); all_goals (simp; try omega))
      clear hb hz
      go_wp2_with fail
      refine (rows_any (some ⟨_, 0, none⟩) (some ⟨_, 0, none⟩) [⟨ak, an, as'⟩, ⟨ak, bn, bs'⟩] [⟨ak, an, as'⟩] 2 2 _ (rowIs_two (by omega) Yp) (rowIs_one (y := ⟨ak, bn, bs'⟩) (by omega) Yp)).mono ?_
      rintro e w7 ⟨rfl, hb⟩
      rw [rowsV_10]
      replace Yv : ∀ o, w7.cell? ⟨w.heap.size, o, none⟩ = #[Value.int .i64 ak, .int .i64 an, .string as', .int .i64 ak, .int .i64 bn, .string bs', .int .i64 ck, .int .i64 cn, .string cs'][o]? := fun o => (hb.cell (p := ⟨w.heap.size, o, none⟩) (by (try simp only [World.size_alloc, World.size_setCell, World.size_drew]); omega)).trans (by simp [go_sem, *])
      replace Yp : ∀ o, w7.cell? ⟨w4.heap.size, o, none⟩ = #[Value.int .i64 ak, .int .i64 an, .string as', .int .i64 ak, .int .i64 bn, .string bs'][o]? := fun o => (hb.cell (p := ⟨w4.heap.size, o, none⟩) (by (try simp only [World.size_alloc, World.size_setCell, World.size_drew]); omega)).trans (by simp [go_sem, *])
      replace Yq : ∀ o, w7.cell? ⟨w4.heap.size + 1, o, none⟩ = #[Value.int .i64 ak, .int .i64 an, .string as', .int .i64 ck, .int .i64 cn, .string cs'][o]? := fun o => (hb.cell (p := ⟨w4.heap.size + 1, o, none⟩) (by (try simp only [World.size_alloc, World.size_setCell, World.size_drew]); omega)).trans (by simp [go_sem, *])
      have hz := hb.size
      (try simp only [World.size_alloc, World.size_setCell, World.size_drew] at hz)
      replace Lv : w.heap.size < w7.heap.size := by omega
      replace Lp : w4.heap.size < w7.heap.size := by omega
      replace Lq : w4.heap.size + 1 < w7.heap.size := by omega
      replace HBW : Hid (Below w.heap.size w w7) := Lib.hid (by refine bstep ?_ hb; (repeat with_reducible first | exact HBW.out | apply b_alloc | refine b_set ?_ ?_ _); all_goals (simp; try omega))
      clear hb hz
      go_wp2_with fail
      refine (rows_any (some ⟨_, 0, none⟩) (some ⟨_, 0, none⟩) [⟨ak, an, as'⟩] [⟨ak, an, as'⟩, ⟨ak, bn, bs'⟩] 2 2 _ (rowIs_one (y := ⟨ak, bn, bs'⟩) (by omega) Yp) (rowIs_two (by omega) Yp)).mono ?_
      rintro e w8 ⟨rfl, hb⟩
      rw [rowsV_01]
      replace Yv : ∀ o, w8.cell? ⟨w.heap.size, o, none⟩ = #[Value.int .i64 ak, .int .i64 an, .string as', .int .i64 ak, .int .i64 bn, .string bs', .int .i64 ck, .int .i64 cn, .string cs'][o]? := fun o => (hb.cell (p := ⟨w.heap.size, o, none⟩) (by (try simp only [World.size_alloc, World.size_setCell, World.size_drew]); omega)).trans (by simp [go_sem, *])
      replace Yp : ∀ o, w8.cell? ⟨w4.heap.size, o, none⟩ = #[Value.int .i64 ak, .int .i64 an, .string as', .int .i64 ak, .int .i64 bn, .string bs'][o]? := fun o => (hb.cell (p := ⟨w4.heap.size, o, none⟩) (by (try simp only [World.size_alloc, World.size_setCell, World.size_drew]); omega)).trans (by simp [go_sem, *])
      replace Yq : ∀ o, w8.cell? ⟨w4.heap.size + 1, o, none⟩ = #[Value.int .i64 ak, .int .i64 an, .string as', .int .i64 ck, .int .i64 cn, .string cs'][o]? := fun o => (hb.cell (p := ⟨w4.heap.size + 1, o, none⟩) (by (try simp only [World.size_alloc, World.size_setCell, World.size_drew]); omega)).trans (by simp [go_sem, *])
      have hz := hb.size
      (try simp only [World.size_alloc, World.size_setCell, World.size_drew] at hz)
      replace Lv : w.heap.size < w8.heap.size := by omega
      replace Lp : w4.heap.size < w8.heap.size := by omega
      replace Lq : w4.heap.size + 1 < w8.heap.size := by omega
      replace HBW : Hid (Below w.heap.size w w8) := Lib.hid (by refine bstep ?_ hb; (repeat with_reducible first | exact HBW.out | apply b_alloc | refine b_set ?_ ?_ _); all_goals (simp; try omega))
      clear hb hz
      go_wp2_with fail
      refine (rows_any (none) (none) [] [] 0 0 _ (rowIs_none) (rowIs_none)).mono ?_
      rintro e w9 ⟨rfl, hb⟩
      rw [rowsV_00]
      replace Yv : ∀ o, w9.cell? ⟨w.heap.size, o, none⟩ = #[Value.int .i64 ak, .int .i64 an, .string as', .int .i64 ak, .int .i64 bn, .string bs', .int .i64 ck, .int .i64 cn, .string cs'][o]? := fun o => (hb.cell (p := ⟨w.heap.size, o, none⟩) (by (try simp only [World.size_alloc, World.size_setCell, World.size_drew]); omega)).trans (by simp [go_sem, *])
      replace Yp : ∀ o, w9.cell? ⟨w4.heap.size, o, none⟩ = #[Value.int .i64 ak, .int .i64 an, .string as', .int .i64 ak, .int .i64 bn, .string bs'][o]? := fun o => (hb.cell (p := ⟨w4.heap.size, o, none⟩) (by (try simp only [World.size_alloc, World.size_setCell, World.size_drew]); omega)).trans (by simp [go_sem, *])
      replace Yq : ∀ o, w9.cell? ⟨w4.heap.size + 1, o, none⟩ = #[Value.int .i64 ak, .int .i64 an, .string as', .int .i64 ck, .int .i64 cn, .string cs'][o]? := fun o => (hb.cell (p := ⟨w4.heap.size + 1, o, none⟩) (by (try simp only [World.size_alloc, World.size_setCell, World.size_drew]); omega)).trans (by simp [go_sem, *])
      have hz := hb.size
      (try simp only [World.size_alloc, World.size_setCell, World.size_drew] at hz)
      replace Lv : w.heap.size < w9.heap.size := by omega
      replace Lp : w4.heap.size < w9.heap.size := by omega
      replace Lq : w4.heap.size + 1 < w9.heap.size := by omega
      replace HBW : Hid (Below w.heap.size w w9) := Lib.hid (by refine bstep ?_ hb; (repeat with_reducible first | exact HBW.out | apply b_alloc | refine b_set ?_ ?_ _); all_goals (simp; try omega))
      clear hb hz
      go_wp2
      go_ret
      exact ⟨rfl, HBW.out⟩

end Go.Proofs.YtdldhlbnbffieaaDoor
