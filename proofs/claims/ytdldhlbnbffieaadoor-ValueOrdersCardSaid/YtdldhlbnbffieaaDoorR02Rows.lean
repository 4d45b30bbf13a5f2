/-
  The document's own order of two lists of values.
-/
import Derived.Test.YtdldhlbnbffieaaDoorR02O
import Derived.Test.YtdldhlbnbffieaaDoorCmpRows
namespace Go.Proofs.YtdldhlbnbffieaaDoor
set_option linter.unusedSimpArgs false
set_option linter.unusedVariables false
open Go.RowKit

set_option maxHeartbeats 800000 in
theorem ref_rows (A B : Option Addr) (l m : List Val) (c c2 : Nat) (w : World) (hl : RowIs w w.heap.size A l) (hm : RowIs w w.heap.size B m) :
    Calls Tryd.prog 20 #[.slice A l.length c, .slice B m.length c2] w fun e w' => e = .returned (.int .i64 (rowsV l m)) ∧ Below w.heap.size w w' := by
  have HL := Lib.hid hl; have HM := Lib.hid hm
  have h1 := hl.1; have h2 := hm.1
  clear hl hm
  go_enter Tryd.func20, Tryd.ntmps20
  go_wp2_with fail
  go_loopw [5] (fun i wr => ∃ k : Nat, k ≤ l.length ∧ k ≤ m.length ∧ i = .int .i64 k ∧ Hid (∀ j, j < k → ordV (vget l j) (vget m j) = 0) ∧ Hid (Below w.heap.size w wr)) (fun i _ => l.length - (intOf i).toNat)
  case atStart => exact ⟨0, Nat.zero_le _, Nat.zero_le _, rfl, Lib.hid (fun j h => absurd h (by omega)), Lib.hid (Below.refl _ _)⟩
  case round =>
    obtain ⟨k, hk1, hk2, rfl, HE, HB⟩ := hrel
    by_cases hlt : k < l.length
    · obtain ⟨ad, rfl, hbl, hc0, hc1, hc2⟩ := (HL.out.later HB.out).at_ hlt
      have hsz := HB.out.size
      by_cases hmt : k < m.length
      · obtain ⟨bd, rfl, hbb, hd0, hd1, hd2⟩ := (HM.out.later HB.out).at_ hmt
        have hg : decide (k < l.length) = true := decide_eq_true (by omega)
        generalize hx : vget l k = x at *
        generalize hy : vget m k = y at *
        have HX := Lib.hid hx; have HY := Lib.hid hy
        clear hx hy
        by_cases hz : ordV x y = 0
        · have HZ := Lib.hid hz; clear hz
          go_wp2_with fail
          have hab : (ad.add (k * 3)).block < wr.heap.size := by rw [add_block]; omega
          have hbs : (bd.add (k * 3)).block < wr.heap.size := by rw [add_block]; omega
          have CS : wr.heap.size ≤ wr.drew.heap.size := Nat.le_refl _
          have CB : Hid (Below w.heap.size w wr.drew) := Lib.hid HB.out.drew
          go_region_held3 (fun w' => w'.cell? (ad.add (k * 3)) = some (.int .i64 x.k) ∧ w'.cell? ⟨(ad.add (k * 3)).block, (ad.add (k * 3)).off + 1, none⟩ = some (.int .i64 x.n) ∧ w'.cell? ⟨(ad.add (k * 3)).block, (ad.add (k * 3)).off + 2, none⟩ = some (.string x.s) ∧ w'.cell? (bd.add (k * 3)) = some (.int .i64 y.k) ∧ w'.cell? ⟨(bd.add (k * 3)).block, (bd.add (k * 3)).off + 1, none⟩ = some (.int .i64 y.n) ∧ w'.cell? ⟨(bd.add (k * 3)).block, (bd.add (k * 3)).off + 2, none⟩ = some (.string y.s) ∧ wr.heap.size ≤ w'.heap.size ∧ Hid (Below w.heap.size w w')) (first | go_keep | (go_split_ands; refine ⟨?_, ?_, ?_, ?_, ?_, ?_, ?_, ?_⟩; (rw [hb.cell (p := ad.add (k * 3)) (Nat.lt_of_lt_of_le hab (by assumption))]; assumption); (rw [hb.cell (p := ⟨(ad.add (k * 3)).block, (ad.add (k * 3)).off + 1, none⟩) (Nat.lt_of_lt_of_le hab (by assumption))]; assumption); (rw [hb.cell (p := ⟨(ad.add (k * 3)).block, (ad.add (k * 3)).off + 2, none⟩) (Nat.lt_of_lt_of_le hab (by assumption))]; assumption); (rw [hb.cell (p := bd.add (k * 3)) (Nat.lt_of_lt_of_le hbs (by assumption))]; assumption); (rw [hb.cell (p := ⟨(bd.add (k * 3)).block, (bd.add (k * 3)).off + 1, none⟩) (Nat.lt_of_lt_of_le hbs (by assumption))]; assumption); (rw [hb.cell (p := ⟨(bd.add (k * 3)).block, (bd.add (k * 3)).off + 2, none⟩) (Nat.lt_of_lt_of_le hbs (by assumption))]; assumption); (have := hb.size; omega); exact Lib.hid (bstep (Hid.out (by assumption)) hb))) (first | (go_at_call 18; go_split_ands; refine (ref_order _ _ _ _ _ _ _).mono ?_; rintro e w1 ⟨rfl, hb⟩; rw [show ordV ⟨x.k, x.n, x.s⟩ ⟨y.k, y.n, y.s⟩ = 0 from HZ.out]))
          go_split_ands
          have HB1 : Hid (Below w.heap.size w w1) := by assumption
          go_wp2_with fail
          go_roundw
          case rel =>
            refine ⟨k + 1, by omega, by omega, by go_num, Lib.hid (fun j hj => ?_), HB1⟩
            rcases Nat.lt_or_ge j k with h | h
            · exact HE.out j h
            · have : j = k := by omega
              subst this
              rw [HX.out, HY.out]; exact HZ.out
          case measure => simp [intOf]; omega
        · have hzz : (ordV x y != 0) = true := by simpa using hz
          have HZ := Lib.hid hz; clear hz
          have HR : Hid (rowsV l m = ordV x y) := Lib.hid (by
            rw [rowsV_drop k l m hk1 hk2 HE.out]
            rw [List.drop_eq_getElem_cons hlt, List.drop_eq_getElem_cons hmt]
            show (if ordV l[k] m[k] ≠ 0 then ordV l[k] m[k] else _) = _
            have e1 : l[k] = x := by rw [← HX.out]; simp [vget, hlt]
            have e2 : m[k] = y := by rw [← HY.out]; simp [vget, hmt]
            rw [e1, e2, if_pos HZ.out])
          go_wp2_with fail
          have hab : (ad.add (k * 3)).block < wr.heap.size := by rw [add_block]; omega
          have hbs : (bd.add (k * 3)).block < wr.heap.size := by rw [add_block]; omega
          have CS : wr.heap.size ≤ wr.drew.heap.size := Nat.le_refl _
          have CB : Hid (Below w.heap.size w wr.drew) := Lib.hid HB.out.drew
          go_region_held3 (fun w' => w'.cell? (ad.add (k * 3)) = some (.int .i64 x.k) ∧ w'.cell? ⟨(ad.add (k * 3)).block, (ad.add (k * 3)).off + 1, none⟩ = some (.int .i64 x.n) ∧ w'.cell? ⟨(ad.add (k * 3)).block, (ad.add (k * 3)).off + 2, none⟩ = some (.string x.s) ∧ w'.cell? (bd.add (k * 3)) = some (.int .i64 y.k) ∧ w'.cell? ⟨(bd.add (k * 3)).block, (bd.add (k * 3)).off + 1, none⟩ = some (.int .i64 y.n) ∧ w'.cell? ⟨(bd.add (k * 3)).block, (bd.add (k * 3)).off + 2, none⟩ = some (.string y.s) ∧ wr.heap.size ≤ w'.heap.size ∧ Hid (Below w.heap.size w w')) (first | go_keep | (go_split_ands; refine ⟨?_, ?_, ?_, ?_, ?_, ?_, ?_, ?_⟩; (rw [hb.cell (p := ad.add (k * 3)) (Nat.lt_of_lt_of_le hab (by assumption))]; assumption); (rw [hb.cell (p := ⟨(ad.add (k * 3)).block, (ad.add (k * 3)).off + 1, none⟩) (Nat.lt_of_lt_of_le hab (by assumption))]; assumption); (rw [hb.cell (p := ⟨(ad.add (k * 3)).block, (ad.add (k * 3)).off + 2, none⟩) (Nat.lt_of_lt_of_le hab (by assumption))]; assumption); (rw [hb.cell (p := bd.add (k * 3)) (Nat.lt_of_lt_of_le hbs (by assumption))]; assumption); (rw [hb.cell (p := ⟨(bd.add (k * 3)).block, (bd.add (k * 3)).off + 1, none⟩) (Nat.lt_of_lt_of_le hbs (by assumption))]; assumption); (rw [hb.cell (p := ⟨(bd.add (k * 3)).block, (bd.add (k * 3)).off + 2, none⟩) (Nat.lt_of_lt_of_le hbs (by assumption))]; assumption); (have := hb.size; omega); exact Lib.hid (bstep (Hid.out (by assumption)) hb))) (first | (go_at_call 18; go_split_ands; refine (ref_order _ _ _ _ _ _ _).mono ?_; rintro e w1 ⟨rfl, hb⟩; rw [show ordV ⟨x.k, x.n, x.s⟩ ⟨y.k, y.n, y.s⟩ = ordV x y from rfl]))
          go_split_ands
          have HB1 : Hid (Below w.heap.size w w1) := by assumption
          go_wp2_with fail
          go_ret
          exact ⟨ret_int HR.out.symm, HB1.out⟩
      · have hmk : m.length ≤ k := by omega
        have hgt : m.length < l.length := by omega
        have hnl : ¬ l.length < m.length := by omega
        have HR : Hid (rowsV l m = 1) := Lib.hid (by
          rw [rowsV_drop k l m hk1 hk2 HE.out, List.drop_eq_getElem_cons hlt, List.drop_eq_nil_of_le hmk]; rfl)
        go_wp2_with fail
        go_ret
        exact ⟨ret_int HR.out.symm, HB.out⟩
    · have hkl2 : l.length ≤ k := by omega
      by_cases hmt : l.length < m.length
      · have HR : Hid (rowsV l m = -1) := Lib.hid (by
          rw [rowsV_drop k l m hk1 hk2 HE.out, List.drop_eq_nil_of_le hkl2, List.drop_eq_getElem_cons (show k < m.length by omega)]; rfl)
        go_wp2_with fail
        go_ret
        exact ⟨ret_int HR.out.symm, HB.out⟩
      · have hnl : ¬ m.length < l.length := by omega
        have HR : Hid (rowsV l m = 0) := Lib.hid (by
          rw [rowsV_drop k l m hk1 hk2 HE.out, List.drop_eq_nil_of_le hkl2, List.drop_eq_nil_of_le (by omega)]; rfl)
        go_wp2_with fail
        go_ret
        exact ⟨ret_int HR.out.symm, HB.out⟩

end Go.Proofs.YtdldhlbnbffieaaDoor
