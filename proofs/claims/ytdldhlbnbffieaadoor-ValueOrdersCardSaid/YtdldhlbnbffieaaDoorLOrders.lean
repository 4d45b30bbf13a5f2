/-
  ValueOrders answers true.
-/
import Derived.Test.YtdldhlbnbffieaaDoorV02Alive
import Derived.Test.YtdldhlbnbffieaaDoorR02Rows
namespace Go.Proofs.YtdldhlbnbffieaaDoor
set_option linter.unusedSimpArgs false
set_option linter.unusedVariables false
open Go.RowKit

theorem small_any (x : Val) (w : World) : Calls Tryd.prog 16 #[.agg #[.int .i64 x.k, .int .i64 x.n, .string x.s]] w fun e w' => e = .returned (.bool (decide (x.s.size ≤ 500))) ∧ Below w.heap.size w w' := by
  go_enter Tryd.func16, Tryd.ntmps16
  go_wp2
  go_ret
  exact ⟨ret_bool (by simp; omega), by ((repeat with_reducible first | exact Below.refl _ _ | apply b_alloc | apply b_drewN | apply b_drew | refine b_set ?_ ?_ _ | (refine bstep ?_ (by assumption))); (all_goals (simp; try omega)))⟩
theorem RowIs.late {w w' : World} {A : Option Addr} {l : List Val} (h : RowIs w w.heap.size A l) (hb : Below w.heap.size w w') : RowIs w' w'.heap.size A l :=
  ⟨h.1, fun hn => by
    obtain ⟨ad, e, hB, hc⟩ := (h.later hb).2 hn
    exact ⟨ad, e, Nat.lt_of_lt_of_le hB hb.size, hc⟩⟩

set_option maxRecDepth 100000 in
set_option maxHeartbeats 3200000 in
theorem orders_main (a b : Val) (A B : Option Addr) (l m : List Val) (c c2 : Nat) (w : World) (hl : Laid w) (hA : RowIs w w.heap.size A l) (hB : RowIs w w.heap.size B m)
    (h1 : l.length ≤ 20) (h2 : m.length ≤ 20) (h3 : a.s.size ≤ 500) (h4 : b.s.size ≤ 500) :
    Calls Tryd.prog 6 #[.agg #[.int .i64 a.k, .int .i64 a.n, .string a.s], .agg #[.int .i64 b.k, .int .i64 b.n, .string b.s], .agg #[.slice A l.length c, .slice B m.length c2]] w fun e w' => e = .returned (.bool true) ∧ Below w.heap.size w w' := by
  have HL := Lib.hid hl; clear hl
  have HA := Lib.hid hA; have HM := Lib.hid hB
  clear hA hB
  have g1 : decide ((20 : Int) < l.length) = false := decide_eq_false (by omega)
  have g2 : decide ((20 : Int) < m.length) = false := decide_eq_false (by omega)
  have g3 : decide ((500 : Int) < a.s.size) = false := decide_eq_false (by omega)
  have g4 : decide ((500 : Int) < b.s.size) = false := decide_eq_false (by omega)
  go_enter Tryd.func6, Tryd.ntmps6
  go_wp2_with fail
  go_loopw [7] (fun i wr => (i = .int .i64 0 ∨ i = .int .i64 1 ∨ i = .int .i64 2) ∧ wr.cell? ⟨w.heap.size, 0, none⟩ = some (.int .i64 a.k) ∧ wr.cell? ⟨w.heap.size, 1, none⟩ = some (.int .i64 a.n) ∧ wr.cell? ⟨w.heap.size, 2, none⟩ = some (.string a.s) ∧ wr.cell? ⟨w.heap.size + 1, 0, none⟩ = some (.int .i64 b.k) ∧ wr.cell? ⟨w.heap.size + 1, 1, none⟩ = some (.int .i64 b.n) ∧ wr.cell? ⟨w.heap.size + 1, 2, none⟩ = some (.string b.s) ∧ wr.cell? ⟨w.heap.size + 1 + 1, 0, none⟩ = some (.slice A l.length c) ∧ wr.cell? ⟨w.heap.size + 1 + 1, 1, none⟩ = some (.slice B m.length c2) ∧ w.heap.size + 1 + 1 < wr.heap.size ∧ Hid (Below w.heap.size w wr)) (fun i _ => 2 - (intOf i).toNat)
  case atStart => exact ⟨Or.inl rfl, by simp [go_sem], by simp [go_sem], by simp [go_sem], by simp [go_sem], by simp [go_sem], by simp [go_sem], by simp [go_sem], by simp [go_sem], by simp, Lib.hid (by ((repeat with_reducible first | exact Below.refl _ _ | apply b_alloc | apply b_drewN | apply b_drew | refine b_set ?_ ?_ _ | (refine bstep ?_ (by assumption))); (all_goals (simp; try omega))))⟩
  case round =>
    obtain ⟨hi, C0, C1, C2, C3, C4, C5, C6, C7, CZ, CB⟩ := hrel
    rcases hi with rfl | rfl | rfl
    · have hl1 := HA.out.1
      obtain ⟨wo, rfl⟩ : ∃ wo : World, wo = wr := ⟨_, rfl⟩
      go_wp2_with fail
      go_loopw [8] (fun k wq => ∃ j : Nat, j ≤ l.length ∧ k = .int .i64 j ∧ wq.cell? ⟨w.heap.size, 0, none⟩ = some (.int .i64 a.k) ∧ wq.cell? ⟨w.heap.size, 1, none⟩ = some (.int .i64 a.n) ∧ wq.cell? ⟨w.heap.size, 2, none⟩ = some (.string a.s) ∧ wq.cell? ⟨w.heap.size + 1, 0, none⟩ = some (.int .i64 b.k) ∧ wq.cell? ⟨w.heap.size + 1, 1, none⟩ = some (.int .i64 b.n) ∧ wq.cell? ⟨w.heap.size + 1, 2, none⟩ = some (.string b.s) ∧ wq.cell? ⟨w.heap.size + 1 + 1, 0, none⟩ = some (.slice A l.length c) ∧ wq.cell? ⟨w.heap.size + 1 + 1, 1, none⟩ = some (.slice B m.length c2) ∧ w.heap.size + 1 + 1 < wq.heap.size ∧ Hid (Below w.heap.size w wq)) (fun k _ => l.length - (intOf k).toNat)
      case atStart => exact ⟨0, Nat.zero_le _, rfl, C0, C1, C2, C3, C4, C5, C6, C7, CZ, CB⟩
      case round =>
        clear C0 C1 C2 C3 C4 C5 C6 C7 CZ CB
        obtain ⟨j, hj, rfl, C0, C1, C2, C3, C4, C5, C6, C7, CZ, CB⟩ := hrel
        by_cases hlt : j < l.length
        · obtain ⟨ad, rfl, hab, hd0, hd1, hd2⟩ := (HA.out.later CB.out).at_ hlt
          by_cases hs : (vget l j).s.size ≤ 500
          · have HD : Hid (decide ((vget l j).s.size ≤ 500) = true) := Lib.hid (decide_eq_true hs)
            clear hs
            go_wp2_with fail
            refine (small_any _ _).mono ?_
            rintro e w1 ⟨rfl, hb⟩
            rw [HD.out]
            have HB1 := Lib.hid hb
            clear hb
            go_wp2_with fail
            go_roundw
            case rel =>
              have hb := HB1.out
              exact ⟨j + 1, by omega, by go_num, (hb.cell (p := ⟨w.heap.size, 0, none⟩) (by simp; omega)).trans C0, (hb.cell (p := ⟨w.heap.size, 1, none⟩) (by simp; omega)).trans C1, (hb.cell (p := ⟨w.heap.size, 2, none⟩) (by simp; omega)).trans C2, (hb.cell (p := ⟨w.heap.size + 1, 0, none⟩) (by simp; omega)).trans C3, (hb.cell (p := ⟨w.heap.size + 1, 1, none⟩) (by simp; omega)).trans C4, (hb.cell (p := ⟨w.heap.size + 1, 2, none⟩) (by simp; omega)).trans C5, (hb.cell (p := ⟨w.heap.size + 1 + 1, 0, none⟩) (by simp; omega)).trans C6, (hb.cell (p := ⟨w.heap.size + 1 + 1, 1, none⟩) (by simp; omega)).trans C7, by have := hb.size; omega, Lib.hid (bstep CB.out hb)⟩
            case measure => simp [intOf]; omega
          · have HD : Hid (decide ((vget l j).s.size ≤ 500) = false) := Lib.hid (decide_eq_false hs)
            clear hs
            go_wp2_with fail
            refine (small_any _ _).mono ?_
            rintro e w1 ⟨rfl, hb⟩
            rw [HD.out]
            have HB1 := Lib.hid (bstep CB.out hb)
            clear hb
            go_wp2_with fail
            refine (alive02 _ (HL.out.later HB1.out)).mono ?_
            rintro e w2 ⟨rfl, hb⟩
            have HB2 := Lib.hid (bstep HB1.out hb)
            clear hb
            go_wp2_with fail
            go_ret
            exact ⟨rfl, HB2.out⟩
        · have hkl2 : l.length ≤ j := by omega
          go_wp2_with fail
          go_roundw
          case rel => exact ⟨Or.inr (Or.inl rfl), C0, C1, C2, C3, C4, C5, C6, C7, CZ, CB⟩
          case measure => decide
    · have hl1 := HM.out.1
      obtain ⟨wo, rfl⟩ : ∃ wo : World, wo = wr := ⟨_, rfl⟩
      go_wp2_with fail
      go_loopw [8] (fun k wq => ∃ j : Nat, j ≤ m.length ∧ k = .int .i64 j ∧ wq.cell? ⟨w.heap.size, 0, none⟩ = some (.int .i64 a.k) ∧ wq.cell? ⟨w.heap.size, 1, none⟩ = some (.int .i64 a.n) ∧ wq.cell? ⟨w.heap.size, 2, none⟩ = some (.string a.s) ∧ wq.cell? ⟨w.heap.size + 1, 0, none⟩ = some (.int .i64 b.k) ∧ wq.cell? ⟨w.heap.size + 1, 1, none⟩ = some (.int .i64 b.n) ∧ wq.cell? ⟨w.heap.size + 1, 2, none⟩ = some (.string b.s) ∧ wq.cell? ⟨w.heap.size + 1 + 1, 0, none⟩ = some (.slice A l.length c) ∧ wq.cell? ⟨w.heap.size + 1 + 1, 1, none⟩ = some (.slice B m.length c2) ∧ w.heap.size + 1 + 1 < wq.heap.size ∧ Hid (Below w.heap.size w wq)) (fun k _ => m.length - (intOf k).toNat)
      case atStart => exact ⟨0, Nat.zero_le _, rfl, C0, C1, C2, C3, C4, C5, C6, C7, CZ, CB⟩
      case round =>
        clear C0 C1 C2 C3 C4 C5 C6 C7 CZ CB
        obtain ⟨j, hj, rfl, C0, C1, C2, C3, C4, C5, C6, C7, CZ, CB⟩ := hrel
        by_cases hlt : j < m.length
        · obtain ⟨ad, rfl, hab, hd0, hd1, hd2⟩ := (HM.out.later CB.out).at_ hlt
          by_cases hs : (vget m j).s.size ≤ 500
          · have HD : Hid (decide ((vget m j).s.size ≤ 500) = true) := Lib.hid (decide_eq_true hs)
            clear hs
            go_wp2_with fail
            refine (small_any _ _).mono ?_
            rintro e w1 ⟨rfl, hb⟩
            rw [HD.out]
            have HB1 := Lib.hid hb
            clear hb
            go_wp2_with fail
            go_roundw
            case rel =>
              have hb := HB1.out
              exact ⟨j + 1, by omega, by go_num, (hb.cell (p := ⟨w.heap.size, 0, none⟩) (by simp; omega)).trans C0, (hb.cell (p := ⟨w.heap.size, 1, none⟩) (by simp; omega)).trans C1, (hb.cell (p := ⟨w.heap.size, 2, none⟩) (by simp; omega)).trans C2, (hb.cell (p := ⟨w.heap.size + 1, 0, none⟩) (by simp; omega)).trans C3, (hb.cell (p := ⟨w.heap.size + 1, 1, none⟩) (by simp; omega)).trans C4, (hb.cell (p := ⟨w.heap.size + 1, 2, none⟩) (by simp; omega)).trans C5, (hb.cell (p := ⟨w.heap.size + 1 + 1, 0, none⟩) (by simp; omega)).trans C6, (hb.cell (p := ⟨w.heap.size + 1 + 1, 1, none⟩) (by simp; omega)).trans C7, by have := hb.size; omega, Lib.hid (bstep CB.out hb)⟩
            case measure => simp [intOf]; omega
          · have HD : Hid (decide ((vget m j).s.size ≤ 500) = false) := Lib.hid (decide_eq_false hs)
            clear hs
            go_wp2_with fail
            refine (small_any _ _).mono ?_
            rintro e w1 ⟨rfl, hb⟩
            rw [HD.out]
            have HB1 := Lib.hid (bstep CB.out hb)
            clear hb
            go_wp2_with fail
            refine (alive02 _ (HL.out.later HB1.out)).mono ?_
            rintro e w2 ⟨rfl, hb⟩
            have HB2 := Lib.hid (bstep HB1.out hb)
            clear hb
            go_wp2_with fail
            go_ret
            exact ⟨rfl, HB2.out⟩
        · have hkl2 : m.length ≤ j := by omega
          go_wp2_with fail
          go_roundw
          case rel => exact ⟨Or.inr (Or.inr rfl), C0, C1, C2, C3, C4, C5, C6, C7, CZ, CB⟩
          case measure => decide
    · go_wp2_with fail
      have CD : Hid (Below w.heap.size w wr.drew) := Lib.hid CB.out.drew
      go_region_held3 (fun w' => w'.cell? ⟨w.heap.size, 0, none⟩ = some (.int .i64 a.k) ∧ w'.cell? ⟨w.heap.size, 1, none⟩ = some (.int .i64 a.n) ∧ w'.cell? ⟨w.heap.size, 2, none⟩ = some (.string a.s) ∧ w'.cell? ⟨w.heap.size + 1, 0, none⟩ = some (.int .i64 b.k) ∧ w'.cell? ⟨w.heap.size + 1, 1, none⟩ = some (.int .i64 b.n) ∧ w'.cell? ⟨w.heap.size + 1, 2, none⟩ = some (.string b.s) ∧ w'.cell? ⟨w.heap.size + 1 + 1, 0, none⟩ = some (.slice A l.length c) ∧ w'.cell? ⟨w.heap.size + 1 + 1, 1, none⟩ = some (.slice B m.length c2) ∧ w.heap.size + 1 + 1 < w'.heap.size ∧ Hid (Below w.heap.size w w')) (first | go_keep | (go_split_ands; refine ⟨?_, ?_, ?_, ?_, ?_, ?_, ?_, ?_, ?_, ?_⟩; (rw [hb.cell (p := ⟨w.heap.size, 0, none⟩) (by simp; omega)]; assumption); (rw [hb.cell (p := ⟨w.heap.size, 1, none⟩) (by simp; omega)]; assumption); (rw [hb.cell (p := ⟨w.heap.size, 2, none⟩) (by simp; omega)]; assumption); (rw [hb.cell (p := ⟨w.heap.size + 1, 0, none⟩) (by simp; omega)]; assumption); (rw [hb.cell (p := ⟨w.heap.size + 1, 1, none⟩) (by simp; omega)]; assumption); (rw [hb.cell (p := ⟨w.heap.size + 1, 2, none⟩) (by simp; omega)]; assumption); (rw [hb.cell (p := ⟨w.heap.size + 1 + 1, 0, none⟩) (by simp; omega)]; assumption); (rw [hb.cell (p := ⟨w.heap.size + 1 + 1, 1, none⟩) (by simp; omega)]; assumption); (have := hb.size; omega); exact Lib.hid (bstep (Hid.out (by assumption)) hb))) (first | (go_at_call 8; go_split_ands; refine (alive02 _ (HL.out.later (Hid.out (by assumption)))).mono ?_; rintro e w1 ⟨rfl, hb⟩) | (go_at_call 11; go_split_ands; refine (right_any _ _ _ _).mono ?_; rintro e w1 ⟨rfl, hb⟩) | (go_at_call 17; go_split_ands; refine (ref_right_o _ _ _ _).mono ?_; rintro e w1 ⟨rfl, hb⟩) | (go_at_call 12; go_split_ands; refine (order_any _ _ _ _ _ _ _).mono ?_; rintro e w1 ⟨rfl, hb⟩) | (go_at_call 18; go_split_ands; refine (ref_order _ _ _ _ _ _ _).mono ?_; rintro e w1 ⟨rfl, hb⟩) | (go_at_call 19; go_split_ands; refine (rows_any A B l m c c2 _ (HA.out.late (Hid.out (by assumption))) (HM.out.late (Hid.out (by assumption)))).mono ?_; rintro e w1 ⟨rfl, hb⟩) | (go_at_call 20; go_split_ands; refine (ref_rows A B l m c c2 _ (HA.out.late (Hid.out (by assumption))) (HM.out.late (Hid.out (by assumption)))).mono ?_; rintro e w1 ⟨rfl, hb⟩))
      go_split_ands
      have HB1 : Hid (Below w.heap.size w w1) := by assumption
      go_wp2_with fail
      go_ret
      exact ⟨rfl, HB1.out⟩

end Go.Proofs.YtdldhlbnbffieaaDoor
