/-
  The order of two lists of values.
-/
import Derived.Test.YtdldhlbnbffieaaDoorCmp
namespace Go.Proofs.YtdldhlbnbffieaaDoor
set_option linter.unusedSimpArgs false
set_option linter.unusedVariables false
open Go.RowKit

def rowsV : List Val → List Val → Int
  | [], [] => 0
  | [], _ :: _ => -1
  | _ :: _, [] => 1
  | a :: l, b :: m => if ordV a b ≠ 0 then ordV a b else rowsV l m
def vget (l : List Val) (k : Nat) : Val := l.getD k Val.zero

/-- The slice holds these values. -/
def RowIs (w : World) (B : Nat) (A : Option Addr) (l : List Val) : Prop :=
  l.length ≤ 1000000 ∧ (0 < l.length → ∃ ad : Addr, A = some ad ∧ ad.block < B ∧
    ∀ k, k < l.length → w.cell? (ad.add (k * 3)) = some (.int .i64 (vget l k).k) ∧ w.cell? ⟨(ad.add (k * 3)).block, (ad.add (k * 3)).off + 1, none⟩ = some (.int .i64 (vget l k).n) ∧ w.cell? ⟨(ad.add (k * 3)).block, (ad.add (k * 3)).off + 2, none⟩ = some (.string (vget l k).s))
theorem add_block (a : Addr) (n : Nat) : (a.add n).block = a.block := by unfold Addr.add; split <;> rfl
theorem RowIs.later {w w' : World} {B : Nat} {A : Option Addr} {l : List Val} (h : RowIs w B A l) (hb : Below B w w') : RowIs w' B A l :=
  ⟨h.1, fun hn => by
    obtain ⟨ad, e, hB, hc⟩ := h.2 hn
    refine ⟨ad, e, hB, fun k hk => ?_⟩
    obtain ⟨h0, h1, h2⟩ := hc k hk
    exact ⟨by rw [hb.cell (by rw [add_block]; exact hB)]; exact h0, by rw [hb.cell (by show (ad.add (k * 3)).block < B; rw [add_block]; exact hB)]; exact h1, by rw [hb.cell (by show (ad.add (k * 3)).block < B; rw [add_block]; exact hB)]; exact h2⟩⟩
theorem RowIs.at_ {w : World} {B : Nat} {A : Option Addr} {l : List Val} (h : RowIs w B A l) {k : Nat} (hk : k < l.length) : ∃ ad : Addr, A = some ad ∧ ad.block < B ∧
    w.cell? (ad.add (k * 3)) = some (.int .i64 (vget l k).k) ∧ w.cell? ⟨(ad.add (k * 3)).block, (ad.add (k * 3)).off + 1, none⟩ = some (.int .i64 (vget l k).n) ∧ w.cell? ⟨(ad.add (k * 3)).block, (ad.add (k * 3)).off + 2, none⟩ = some (.string (vget l k).s) := by
  obtain ⟨ad, e, hB, hc⟩ := h.2 (by omega)
  exact ⟨ad, e, hB, hc k hk⟩

theorem rowsV_drop : ∀ (k : Nat) (l m : List Val), k ≤ l.length → k ≤ m.length → (∀ j, j < k → ordV (vget l j) (vget m j) = 0) → rowsV l m = rowsV (l.drop k) (m.drop k)
  | 0, _, _, _, _, _ => rfl
  | k + 1, [], _, h, _, _ => absurd h (by simp)
  | k + 1, _ :: _, [], _, h, _ => absurd h (by simp)
  | k + 1, a :: l, b :: m, h1, h2, h => by
    have h0 : ordV a b = 0 := h 0 (by omega)
    show (if ordV a b ≠ 0 then ordV a b else rowsV l m) = _
    rw [if_neg (by omega), rowsV_drop k l m (by simpa using h1) (by simpa using h2) (fun j hj => h (j + 1) (by omega))]; rfl

set_option maxHeartbeats 800000 in
theorem compareFunc_any (A B : Option Addr) (l m : List Val) (c c2 : Nat) (w : World) (hl : RowIs w w.heap.size A l) (hm : RowIs w w.heap.size B m) :
    Calls Tryd.prog 34 #[.slice A l.length c, .slice B m.length c2, .func (.func 12) #[] #[]] w fun e w' => e = .returned (.int .i64 (rowsV l m)) ∧ Below w.heap.size w w' := by
  have HL := Lib.hid hl; have HM := Lib.hid hm
  have h1 := hl.1; have h2 := hm.1
  clear hl hm
  go_enter Tryd.func34, Tryd.ntmps34
  go_wp2_with fail
  go_loopw [13] (fun i wr => ∃ k : Nat, k ≤ l.length ∧ k ≤ m.length ∧ i = .int .i64 k ∧ Hid (∀ j, j < k → ordV (vget l j) (vget m j) = 0) ∧ Hid (Below w.heap.size w wr)) (fun i _ => l.length - (intOf i).toNat)
  case atStart => exact ⟨0, Nat.zero_le _, Nat.zero_le _, rfl, Lib.hid (fun j h => absurd h (by omega)), Lib.hid (Below.refl _ _)⟩
  case round =>
    obtain ⟨k, hk1, hk2, rfl, HE, HB⟩ := hrel
    by_cases hlt : k < l.length
    · obtain ⟨ad, rfl, hbl, hc0, hc1, hc2⟩ := (HL.out.later HB.out).at_ hlt
      have hsz := HB.out.size
      by_cases hmt : k < m.length
      · obtain ⟨bd, rfl, hbb, hd0, hd1, hd2⟩ := (HM.out.later HB.out).at_ hmt
        have hg : decide (m.length ≤ k) = false := decide_eq_false (by omega)
        have hbs : (bd.add (k * 3)).block < wr.heap.size := by rw [add_block]; omega
        have G0 := fun o => (World.cell?_alloc_lt wr o (bd.add (k * 3)) hbs).trans hd0
        have G1 := fun o => (World.cell?_alloc_lt wr o ⟨(bd.add (k * 3)).block, (bd.add (k * 3)).off + 1, none⟩ hbs).trans hd1
        have G2 := fun o => (World.cell?_alloc_lt wr o ⟨(bd.add (k * 3)).block, (bd.add (k * 3)).off + 2, none⟩ hbs).trans hd2
        clear hd0 hd1 hd2
        generalize hx : vget l k = x at *
        generalize hy : vget m k = y at *
        have HX := Lib.hid hx; have HY := Lib.hid hy
        clear hx hy
        by_cases hz : ordV x y = 0
        · have HZ := Lib.hid hz; clear hz
          go_wp2_with fail
          refine (order_any _ _ _ _ _ _ _).mono ?_
          rintro e w1 ⟨rfl, hb⟩
          rw [show ordV ⟨x.k, x.n, x.s⟩ ⟨y.k, y.n, y.s⟩ = 0 from HZ.out]
          have HB1 := Lib.hid hb
          clear hb
          go_wp2_with fail
          go_roundw
          case rel =>
            refine ⟨k + 1, by omega, by omega, by go_num, Lib.hid (fun j hj => ?_), Lib.hid (HB.out.trans ?_)⟩
            · rcases Nat.lt_or_ge j k with h | h
              · exact HE.out j h
              · have : j = k := by omega
                subst this
                rw [HX.out, HY.out]; exact HZ.out
            · refine Below.mono ?_ hsz
              have hb := HB1.out
              ((repeat with_reducible first | exact Below.refl _ _ | apply b_alloc | apply b_drewN | apply b_drew | refine b_set ?_ ?_ _ | (refine bstep ?_ (by assumption))); (all_goals (simp; try omega)))
          case measure => simp [intOf]; omega
        · have hzz : (ordV x y != 0) = true := by simpa using hz
          have HZ := Lib.hid hz; clear hz
          have HR : Hid (rowsV l m = ordV x y) := Lib.hid (by
            rw [rowsV_drop k l m hk1 hk2 HE.out]
            rw [List.drop_eq_getElem_cons hlt, List.drop_eq_getElem_cons hmt]
            show (if ordV l[k] m[k] ≠ 0 then ordV l[k] m[k] else _) = _
            have e1 : l[k] = x := by rw [← HX.out]; simp [vget, hlt]
            have e2 : m[k] = y := by rw [← HY.out]; simp [vget, hmt]
            rw [e1, e2, if_pos HZ.out])
          go_wp2_with fail
          refine (order_any _ _ _ _ _ _ _).mono ?_
          rintro e w1 ⟨rfl, hb⟩
          rw [show ordV ⟨x.k, x.n, x.s⟩ ⟨y.k, y.n, y.s⟩ = ordV x y from rfl]
          have HB1 := Lib.hid hb
          clear hb
          go_wp2_with fail
          go_ret
          refine ⟨ret_int HR.out.symm, HB.out.trans (Below.mono ?_ hsz)⟩
          have hb := HB1.out
          ((repeat with_reducible first | exact Below.refl _ _ | apply b_alloc | apply b_drewN | apply b_drew | refine b_set ?_ ?_ _ | (refine bstep ?_ (by assumption))); (all_goals (simp; try omega)))
      · have hkm : k = m.length := by omega
        have hg : decide (m.length ≤ k) = true := decide_eq_true (by omega)
        have HR : Hid (rowsV l m = 1) := Lib.hid (by
          rw [rowsV_drop k l m hk1 hk2 HE.out, List.drop_eq_getElem_cons hlt, List.drop_eq_nil_of_le (show m.length ≤ k by omega)]; rfl)
        clear hkm
        go_wp2_with fail
        go_ret
        refine ⟨ret_int HR.out.symm, HB.out.trans (Below.mono ?_ hsz)⟩
        ((repeat with_reducible first | exact Below.refl _ _ | apply b_alloc | apply b_drewN | apply b_drew | refine b_set ?_ ?_ _ | (refine bstep ?_ (by assumption))); (all_goals (simp; try omega)))
    · have hkl : k = l.length := by omega
      have hkl2 : l.length ≤ k := by omega
      by_cases hmt : l.length < m.length
      · have HR : Hid (rowsV l m = -1) := Lib.hid (by
          rw [rowsV_drop k l m hk1 hk2 HE.out, hkl, List.drop_eq_nil_of_le (Nat.le_refl _), List.drop_eq_getElem_cons hmt]; rfl)
        clear hkl
        go_wp2_with fail
        go_ret
        exact ⟨ret_int HR.out.symm, HB.out⟩
      · have HR : Hid (rowsV l m = 0) := Lib.hid (by
          rw [rowsV_drop k l m hk1 hk2 HE.out, hkl, List.drop_eq_nil_of_le (Nat.le_refl _), List.drop_eq_nil_of_le (by omega)]; rfl)
        clear hkl
        go_wp2_with fail
        go_ret
        exact ⟨ret_int HR.out.symm, HB.out⟩

theorem rows_any (A B : Option Addr) (l m : List Val) (c c2 : Nat) (w : World) (hl : RowIs w w.heap.size A l) (hm : RowIs w w.heap.size B m) :
    Calls Tryd.prog 19 #[.slice A l.length c, .slice B m.length c2] w fun e w' => e = .returned (.int .i64 (rowsV l m)) ∧ Below w.heap.size w w' := by
  have HL := Lib.hid hl; have HM := Lib.hid hm
  clear hl hm
  go_enter Tryd.func19, Tryd.ntmps19
  go_wp2_with fail
  refine (compareFunc_any A B l m c c2 _ HL.out HM.out).mono ?_
  rintro e w1 ⟨rfl, hb⟩
  go_wp2_with fail
  go_ret
  exact ⟨rfl, hb⟩

end Go.Proofs.YtdldhlbnbffieaaDoor
