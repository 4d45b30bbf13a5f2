/-
  ValueTruths answers true (one of four cases).
-/
import Derived.Test.YtdldhlbnbffieaaGreatDoorV02Alive
import Derived.Test.YtdldhlbnbffieaaGreatDoorR02
import Derived.Test.YtdldhlbnbffieaaGreatDoorFaultA
namespace Go.Proofs.YtdldhlbnbffieaaGreatDoor
set_option linter.unusedSimpArgs false
set_option linter.unusedVariables false
open Go.RowKit

set_option maxRecDepth 100000 in
set_option maxHeartbeats 3200000 in
theorem truths_b (ak an bk bn xk xn yk yn zk zn : Int) (as' bs' xs ys zs : ByteArray) (p : Int) (w : World) (hl : Laid w) (h1 : as'.size ≤ 500) (h2 : bs'.size ≤ 500)
    (hand : andR ⟨ak, an, as'⟩ ⟨bk, bn, bs'⟩ = (⟨xk, xn, xs⟩, .fault 22 1 .none)) (hor : orR ⟨ak, an, as'⟩ ⟨bk, bn, bs'⟩ = (⟨yk, yn, ys⟩, .fault 22 1 .none)) (hnot : notR ⟨ak, an, as'⟩ = (⟨zk, zn, zs⟩, .none))
    (hp : truthN ak an as' = p) (hq : truthN bk bn bs' = (-2)) (ho1 : ofV (andN p (-2)) = ⟨xk, xn, xs⟩) (ho2 : ofV (orN p (-2)) = ⟨yk, yn, ys⟩) (ho3 : ofV (notN p) = ⟨zk, zn, zs⟩) (np : (p == -2) = false) (np2 : (p != -2) = true) :
    Calls Tryz.prog 4 #[.agg #[.int .i64 ak, .int .i64 an, .string as'], .agg #[.int .i64 bk, .int .i64 bn, .string bs']] w fun e w' => e = .returned (.bool true) ∧ Below w.heap.size w w' := by
  have HL := Lib.hid hl; have HAND := Lib.hid hand; have HOR := Lib.hid hor; have HNOT := Lib.hid hnot; have HP := Lib.hid hp; have HQ := Lib.hid hq
  have HO1 := Lib.hid ho1; have HO2 := Lib.hid ho2; have HO3 := Lib.hid ho3
  clear hl hand hor hnot hp hq ho1 ho2 ho3
  have g1 : decide ((500 : Int) < as'.size) = false := decide_eq_false (by omega)
  have g2 : decide ((500 : Int) < bs'.size) = false := decide_eq_false (by omega)
  go_enter Tryz.func4, Tryz.ntmps4
  have La : True := trivial
  have Lb : True := trivial
  have Ya : True := trivial
  have Yb : True := trivial
  have HBW : Hid (Below w.heap.size w w) := Lib.hid (Below.refl _ _)
  go_wp2_with fail
  refine (and_any ⟨ak, an, as'⟩ ⟨bk, bn, bs'⟩ _).mono ?_
  rintro e w1 ⟨v, rfl, ⟨ev, rfl, he⟩, hb⟩
  rw [HAND.out] at he ⊢
  unfold Val.enc
  dsimp only at he ⊢
  have HE1 := Lib.hid he
  obtain ⟨bHE1, rfl⟩ := he.open
  clear he
  replace Ya : ∀ o, w1.cell? ⟨w.heap.size, o, none⟩ = #[Value.int .i64 ak, .int .i64 an, .string as'][o]? := fun o => (hb.cell (p := ⟨w.heap.size, o, none⟩) (by (try simp only [World.size_alloc, World.size_setCell, World.size_drew]); omega)).trans (by simp [go_sem, *])
  replace Yb : ∀ o, w1.cell? ⟨w.heap.size + 1, o, none⟩ = #[Value.int .i64 bk, .int .i64 bn, .string bs'][o]? := fun o => (hb.cell (p := ⟨w.heap.size + 1, o, none⟩) (by (try simp only [World.size_alloc, World.size_setCell, World.size_drew]); omega)).trans (by simp [go_sem, *])
  have hz := hb.size
  (try simp only [World.size_alloc, World.size_setCell, World.size_drew] at hz)
  replace La : w.heap.size < w1.heap.size := by omega
  replace Lb : w.heap.size + 1 < w1.heap.size := by omega
  replace HBW : Hid (Below w.heap.size w w1) := Lib.hid (by refine bstep ?_ hb; (repeat with_reducible first | exact HBW.out | apply b_alloc | refine b_set ?_ ?_ _); all_goals (simp; try omega))
  clear hb hz
  go_wp2_with fail
  refine (or_any ⟨ak, an, as'⟩ ⟨bk, bn, bs'⟩ _).mono ?_
  rintro e w2 ⟨v, rfl, ⟨ev, rfl, he⟩, hb⟩
  rw [HOR.out] at he ⊢
  unfold Val.enc
  dsimp only at he ⊢
  have HE2 := Lib.hid he
  obtain ⟨bHE2, rfl⟩ := he.open
  clear he
  have Lx : True := trivial
  have Yx : True := trivial
  replace Ya : ∀ o, w2.cell? ⟨w.heap.size, o, none⟩ = #[Value.int .i64 ak, .int .i64 an, .string as'][o]? := fun o => (hb.cell (p := ⟨w.heap.size, o, none⟩) (by (try simp only [World.size_alloc, World.size_setCell, World.size_drew]); omega)).trans (by simp [go_sem, *])
  replace Yb : ∀ o, w2.cell? ⟨w.heap.size + 1, o, none⟩ = #[Value.int .i64 bk, .int .i64 bn, .string bs'][o]? := fun o => (hb.cell (p := ⟨w.heap.size + 1, o, none⟩) (by (try simp only [World.size_alloc, World.size_setCell, World.size_drew]); omega)).trans (by simp [go_sem, *])
  replace Yx : ∀ o, w2.cell? ⟨w1.heap.size, o, none⟩ = #[Value.int .i64 xk, .int .i64 xn, .string xs][o]? := fun o => (hb.cell (p := ⟨w1.heap.size, o, none⟩) (by (try simp only [World.size_alloc, World.size_setCell, World.size_drew]); omega)).trans (by simp [go_sem, *])
  have hz := hb.size
  (try simp only [World.size_alloc, World.size_setCell, World.size_drew] at hz)
  replace La : w.heap.size < w2.heap.size := by omega
  replace Lb : w.heap.size + 1 < w2.heap.size := by omega
  replace Lx : w1.heap.size < w2.heap.size := by omega
  replace HE1 := Lib.hid (ErrIs.later hb (ErrIs.later (by (repeat with_reducible first | exact Below.refl _ _ | apply b_alloc)) HE1.out))
  replace HBW : Hid (Below w.heap.size w w2) := Lib.hid (by refine bstep ?_ hb; (repeat with_reducible first | exact HBW.out | apply b_alloc | refine b_set ?_ ?_ _); all_goals (simp; try omega))
  clear hb hz
  go_wp2_with fail
  refine (not_any ⟨ak, an, as'⟩ _).mono ?_
  rintro e w3 ⟨v, rfl, ⟨ev, rfl, he⟩, hb⟩
  rw [HNOT.out] at he ⊢
  unfold Val.enc
  dsimp only at he ⊢
  obtain rfl : ev = .nilIface := he
  have Ly : True := trivial
  have Yy : True := trivial
  replace Ya : ∀ o, w3.cell? ⟨w.heap.size, o, none⟩ = #[Value.int .i64 ak, .int .i64 an, .string as'][o]? := fun o => (hb.cell (p := ⟨w.heap.size, o, none⟩) (by (try simp only [World.size_alloc, World.size_setCell, World.size_drew]); omega)).trans (by simp [go_sem, *])
  replace Yb : ∀ o, w3.cell? ⟨w.heap.size + 1, o, none⟩ = #[Value.int .i64 bk, .int .i64 bn, .string bs'][o]? := fun o => (hb.cell (p := ⟨w.heap.size + 1, o, none⟩) (by (try simp only [World.size_alloc, World.size_setCell, World.size_drew]); omega)).trans (by simp [go_sem, *])
  replace Yx : ∀ o, w3.cell? ⟨w1.heap.size, o, none⟩ = #[Value.int .i64 xk, .int .i64 xn, .string xs][o]? := fun o => (hb.cell (p := ⟨w1.heap.size, o, none⟩) (by (try simp only [World.size_alloc, World.size_setCell, World.size_drew]); omega)).trans (by simp [go_sem, *])
  replace Yy : ∀ o, w3.cell? ⟨w2.heap.size, o, none⟩ = #[Value.int .i64 yk, .int .i64 yn, .string ys][o]? := fun o => (hb.cell (p := ⟨w2.heap.size, o, none⟩) (by (try simp only [World.size_alloc, World.size_setCell, World.size_drew]); omega)).trans (by simp [go_sem, *])
  have hz := hb.size
  (try simp only [World.size_alloc, World.size_setCell, World.size_drew] at hz)
  replace La : w.heap.size < w3.heap.size := by omega
  replace Lb : w.heap.size + 1 < w3.heap.size := by omega
  replace Lx : w1.heap.size < w3.heap.size := by omega
  replace Ly : w2.heap.size < w3.heap.size := by omega
  replace HE1 := Lib.hid (ErrIs.later hb (ErrIs.later (by (repeat with_reducible first | exact Below.refl _ _ | apply b_alloc)) HE1.out))
  replace HE2 := Lib.hid (ErrIs.later hb (ErrIs.later (by (repeat with_reducible first | exact Below.refl _ _ | apply b_alloc)) HE2.out))
  replace HBW : Hid (Below w.heap.size w w3) := Lib.hid (by refine bstep ?_ hb; (repeat with_reducible first | exact HBW.out | apply b_alloc | refine b_set ?_ ?_ _); all_goals (simp; try omega))
  clear hb hz
  have M1 := Lx
  have M2 := Ly
  go_wp2_with fail
  refine (ref_truth _ _ _ _).mono ?_
  rintro e w4 ⟨rfl, hb⟩
  rw [HP.out]
  have Lz : True := trivial
  have Yz : True := trivial
  replace Ya : ∀ o, w4.cell? ⟨w.heap.size, o, none⟩ = #[Value.int .i64 ak, .int .i64 an, .string as'][o]? := fun o => (hb.cell (p := ⟨w.heap.size, o, none⟩) (by (try simp only [World.size_alloc, World.size_setCell, World.size_drew]); omega)).trans (by simp [go_sem, *])
  replace Yb : ∀ o, w4.cell? ⟨w.heap.size + 1, o, none⟩ = #[Value.int .i64 bk, .int .i64 bn, .string bs'][o]? := fun o => (hb.cell (p := ⟨w.heap.size + 1, o, none⟩) (by (try simp only [World.size_alloc, World.size_setCell, World.size_drew]); omega)).trans (by simp [go_sem, *])
  replace Yx : ∀ o, w4.cell? ⟨w1.heap.size, o, none⟩ = #[Value.int .i64 xk, .int .i64 xn, .string xs][o]? := fun o => (hb.cell (p := ⟨w1.heap.size, o, none⟩) (by (try simp only [World.size_alloc, World.size_setCell, World.size_drew]); omega)).trans (by simp [go_sem, *])
  replace Yy : ∀ o, w4.cell? ⟨w2.heap.size, o, none⟩ = #[Value.int .i64 yk, .int .i64 yn, .string ys][o]? := fun o => (hb.cell (p := ⟨w2.heap.size, o, none⟩) (by (try simp only [World.size_alloc, World.size_setCell, World.size_drew]); omega)).trans (by simp [go_sem, *])
  replace Yz : ∀ o, w4.cell? ⟨w3.heap.size, o, none⟩ = #[Value.int .i64 zk, .int .i64 zn, .string zs][o]? := fun o => (hb.cell (p := ⟨w3.heap.size, o, none⟩) (by (try simp only [World.size_alloc, World.size_setCell, World.size_drew]); omega)).trans (by simp [go_sem, *])
  have hz := hb.size
  (try simp only [World.size_alloc, World.size_setCell, World.size_drew] at hz)
  replace La : w.heap.size < w4.heap.size := by omega
  replace Lb : w.heap.size + 1 < w4.heap.size := by omega
  replace Lx : w1.heap.size < w4.heap.size := by omega
  replace Ly : w2.heap.size < w4.heap.size := by omega
  replace Lz : w3.heap.size < w4.heap.size := by omega
  replace HE1 := Lib.hid (ErrIs.later hb (ErrIs.later (by (repeat with_reducible first | exact Below.refl _ _ | apply b_alloc)) HE1.out))
  replace HE2 := Lib.hid (ErrIs.later hb (ErrIs.later (by (repeat with_reducible first | exact Below.refl _ _ | apply b_alloc)) HE2.out))
  replace HBW : Hid (Below w.heap.size w w4) := Lib.hid (by refine bstep ?_ hb; (repeat with_reducible first | exact HBW.out | apply b_alloc | refine b_set ?_ ?_ _); all_goals (simp; try omega))
  clear hb hz
  go_wp2_with fail
  refine (ref_truth _ _ _ _).mono ?_
  rintro e w5 ⟨rfl, hb⟩
  rw [HQ.out]
  replace Ya : ∀ o, w5.cell? ⟨w.heap.size, o, none⟩ = #[Value.int .i64 ak, .int .i64 an, .string as'][o]? := fun o => (hb.cell (p := ⟨w.heap.size, o, none⟩) (by (try simp only [World.size_alloc, World.size_setCell, World.size_drew]); omega)).trans (by simp [go_sem, *])
  replace Yb : ∀ o, w5.cell? ⟨w.heap.size + 1, o, none⟩ = #[Value.int .i64 bk, .int .i64 bn, .string bs'][o]? := fun o => (hb.cell (p := ⟨w.heap.size + 1, o, none⟩) (by (try simp only [World.size_alloc, World.size_setCell, World.size_drew]); omega)).trans (by simp [go_sem, *])
  replace Yx : ∀ o, w5.cell? ⟨w1.heap.size, o, none⟩ = #[Value.int .i64 xk, .int .i64 xn, .string xs][o]? := fun o => (hb.cell (p := ⟨w1.heap.size, o, none⟩) (by (try simp only [World.size_alloc, World.size_setCell, World.size_drew]); omega)).trans (by simp [go_sem, *])
  replace Yy : ∀ o, w5.cell? ⟨w2.heap.size, o, none⟩ = #[Value.int .i64 yk, .int .i64 yn, .string ys][o]? := fun o => (hb.cell (p := ⟨w2.heap.size, o, none⟩) (by (try simp only [World.size_alloc, World.size_setCell, World.size_drew]); omega)).trans (by simp [go_sem, *])
  replace Yz : ∀ o, w5.cell? ⟨w3.heap.size, o, none⟩ = #[Value.int .i64 zk, .int .i64 zn, .string zs][o]? := fun o => (hb.cell (p := ⟨w3.heap.size, o, none⟩) (by (try simp only [World.size_alloc, World.size_setCell, World.size_drew]); omega)).trans (by simp [go_sem, *])
  have hz := hb.size
  (try simp only [World.size_alloc, World.size_setCell, World.size_drew] at hz)
  replace La : w.heap.size < w5.heap.size := by omega
  replace Lb : w.heap.size + 1 < w5.heap.size := by omega
  replace Lx : w1.heap.size < w5.heap.size := by omega
  replace Ly : w2.heap.size < w5.heap.size := by omega
  replace Lz : w3.heap.size < w5.heap.size := by omega
  replace HE1 := Lib.hid (ErrIs.later hb (ErrIs.later (by (repeat with_reducible first | exact Below.refl _ _ | apply b_alloc)) HE1.out))
  replace HE2 := Lib.hid (ErrIs.later hb (ErrIs.later (by (repeat with_reducible first | exact Below.refl _ _ | apply b_alloc)) HE2.out))
  replace HBW : Hid (Below w.heap.size w w5) := Lib.hid (by refine bstep ?_ hb; (repeat with_reducible first | exact HBW.out | apply b_alloc | refine b_set ?_ ?_ _); all_goals (simp; try omega))
  clear hb hz
  go_wp2_with fail
  refine (code_any (.fault 22 1 .none) _ _ (HL.out.later HBW.out) HE1.out).mono ?_
  rintro e w6 ⟨rfl, hb⟩
  simp only [codeE, atE]
  replace Ya : ∀ o, w6.cell? ⟨w.heap.size, o, none⟩ = #[Value.int .i64 ak, .int .i64 an, .string as'][o]? := fun o => (hb.cell (p := ⟨w.heap.size, o, none⟩) (by (try simp only [World.size_alloc, World.size_setCell, World.size_drew]); omega)).trans (by simp [go_sem, *])
  replace Yb : ∀ o, w6.cell? ⟨w.heap.size + 1, o, none⟩ = #[Value.int .i64 bk, .int .i64 bn, .string bs'][o]? := fun o => (hb.cell (p := ⟨w.heap.size + 1, o, none⟩) (by (try simp only [World.size_alloc, World.size_setCell, World.size_drew]); omega)).trans (by simp [go_sem, *])
  replace Yx : ∀ o, w6.cell? ⟨w1.heap.size, o, none⟩ = #[Value.int .i64 xk, .int .i64 xn, .string xs][o]? := fun o => (hb.cell (p := ⟨w1.heap.size, o, none⟩) (by (try simp only [World.size_alloc, World.size_setCell, World.size_drew]); omega)).trans (by simp [go_sem, *])
  replace Yy : ∀ o, w6.cell? ⟨w2.heap.size, o, none⟩ = #[Value.int .i64 yk, .int .i64 yn, .string ys][o]? := fun o => (hb.cell (p := ⟨w2.heap.size, o, none⟩) (by (try simp only [World.size_alloc, World.size_setCell, World.size_drew]); omega)).trans (by simp [go_sem, *])
  replace Yz : ∀ o, w6.cell? ⟨w3.heap.size, o, none⟩ = #[Value.int .i64 zk, .int .i64 zn, .string zs][o]? := fun o => (hb.cell (p := ⟨w3.heap.size, o, none⟩) (by (try simp only [World.size_alloc, World.size_setCell, World.size_drew]); omega)).trans (by simp [go_sem, *])
  have hz := hb.size
  (try simp only [World.size_alloc, World.size_setCell, World.size_drew] at hz)
  replace La : w.heap.size < w6.heap.size := by omega
  replace Lb : w.heap.size + 1 < w6.heap.size := by omega
  replace Lx : w1.heap.size < w6.heap.size := by omega
  replace Ly : w2.heap.size < w6.heap.size := by omega
  replace Lz : w3.heap.size < w6.heap.size := by omega
  replace HE1 := Lib.hid (ErrIs.later hb (ErrIs.later (by (repeat with_reducible first | exact Below.refl _ _ | apply b_alloc)) HE1.out))
  replace HE2 := Lib.hid (ErrIs.later hb (ErrIs.later (by (repeat with_reducible first | exact Below.refl _ _ | apply b_alloc)) HE2.out))
  replace HBW : Hid (Below w.heap.size w w6) := Lib.hid (by refine bstep ?_ hb; (repeat with_reducible first | exact HBW.out | apply b_alloc | refine b_set ?_ ?_ _); all_goals (simp; try omega))
  clear hb hz
  go_wp2_with fail
  refine (at_any (.fault 22 1 .none) _ _ (HL.out.later HBW.out) HE1.out).mono ?_
  rintro e w7 ⟨rfl, hb⟩
  simp only [codeE, atE]
  replace Ya : ∀ o, w7.cell? ⟨w.heap.size, o, none⟩ = #[Value.int .i64 ak, .int .i64 an, .string as'][o]? := fun o => (hb.cell (p := ⟨w.heap.size, o, none⟩) (by (try simp only [World.size_alloc, World.size_setCell, World.size_drew]); omega)).trans (by simp [go_sem, *])
  replace Yb : ∀ o, w7.cell? ⟨w.heap.size + 1, o, none⟩ = #[Value.int .i64 bk, .int .i64 bn, .string bs'][o]? := fun o => (hb.cell (p := ⟨w.heap.size + 1, o, none⟩) (by (try simp only [World.size_alloc, World.size_setCell, World.size_drew]); omega)).trans (by simp [go_sem, *])
  replace Yx : ∀ o, w7.cell? ⟨w1.heap.size, o, none⟩ = #[Value.int .i64 xk, .int .i64 xn, .string xs][o]? := fun o => (hb.cell (p := ⟨w1.heap.size, o, none⟩) (by (try simp only [World.size_alloc, World.size_setCell, World.size_drew]); omega)).trans (by simp [go_sem, *])
  replace Yy : ∀ o, w7.cell? ⟨w2.heap.size, o, none⟩ = #[Value.int .i64 yk, .int .i64 yn, .string ys][o]? := fun o => (hb.cell (p := ⟨w2.heap.size, o, none⟩) (by (try simp only [World.size_alloc, World.size_setCell, World.size_drew]); omega)).trans (by simp [go_sem, *])
  replace Yz : ∀ o, w7.cell? ⟨w3.heap.size, o, none⟩ = #[Value.int .i64 zk, .int .i64 zn, .string zs][o]? := fun o => (hb.cell (p := ⟨w3.heap.size, o, none⟩) (by (try simp only [World.size_alloc, World.size_setCell, World.size_drew]); omega)).trans (by simp [go_sem, *])
  have hz := hb.size
  (try simp only [World.size_alloc, World.size_setCell, World.size_drew] at hz)
  replace La : w.heap.size < w7.heap.size := by omega
  replace Lb : w.heap.size + 1 < w7.heap.size := by omega
  replace Lx : w1.heap.size < w7.heap.size := by omega
  replace Ly : w2.heap.size < w7.heap.size := by omega
  replace Lz : w3.heap.size < w7.heap.size := by omega
  replace HE1 := Lib.hid (ErrIs.later hb (ErrIs.later (by (repeat with_reducible first | exact Below.refl _ _ | apply b_alloc)) HE1.out))
  replace HE2 := Lib.hid (ErrIs.later hb (ErrIs.later (by (repeat with_reducible first | exact Below.refl _ _ | apply b_alloc)) HE2.out))
  replace HBW : Hid (Below w.heap.size w w7) := Lib.hid (by refine bstep ?_ hb; (repeat with_reducible first | exact HBW.out | apply b_alloc | refine b_set ?_ ?_ _); all_goals (simp; try omega))
  clear hb hz
  go_wp2_with fail
  refine (code_any (.fault 22 1 .none) _ _ (HL.out.later HBW.out) HE2.out).mono ?_
  rintro e w8 ⟨rfl, hb⟩
  simp only [codeE, atE]
  replace Ya : ∀ o, w8.cell? ⟨w.heap.size, o, none⟩ = #[Value.int .i64 ak, .int .i64 an, .string as'][o]? := fun o => (hb.cell (p := ⟨w.heap.size, o, none⟩) (by (try simp only [World.size_alloc, World.size_setCell, World.size_drew]); omega)).trans (by simp [go_sem, *])
  replace Yb : ∀ o, w8.cell? ⟨w.heap.size + 1, o, none⟩ = #[Value.int .i64 bk, .int .i64 bn, .string bs'][o]? := fun o => (hb.cell (p := ⟨w.heap.size + 1, o, none⟩) (by (try simp only [World.size_alloc, World.size_setCell, World.size_drew]); omega)).trans (by simp [go_sem, *])
  replace Yx : ∀ o, w8.cell? ⟨w1.heap.size, o, none⟩ = #[Value.int .i64 xk, .int .i64 xn, .string xs][o]? := fun o => (hb.cell (p := ⟨w1.heap.size, o, none⟩) (by (try simp only [World.size_alloc, World.size_setCell, World.size_drew]); omega)).trans (by simp [go_sem, *])
  replace Yy : ∀ o, w8.cell? ⟨w2.heap.size, o, none⟩ = #[Value.int .i64 yk, .int .i64 yn, .string ys][o]? := fun o => (hb.cell (p := ⟨w2.heap.size, o, none⟩) (by (try simp only [World.size_alloc, World.size_setCell, World.size_drew]); omega)).trans (by simp [go_sem, *])
  replace Yz : ∀ o, w8.cell? ⟨w3.heap.size, o, none⟩ = #[Value.int .i64 zk, .int .i64 zn, .string zs][o]? := fun o => (hb.cell (p := ⟨w3.heap.size, o, none⟩) (by (try simp only [World.size_alloc, World.size_setCell, World.size_drew]); omega)).trans (by simp [go_sem, *])
  have hz := hb.size
  (try simp only [World.size_alloc, World.size_setCell, World.size_drew] at hz)
  replace La : w.heap.size < w8.heap.size := by omega
  replace Lb : w.heap.size + 1 < w8.heap.size := by omega
  replace Lx : w1.heap.size < w8.heap.size := by omega
  replace Ly : w2.heap.size < w8.heap.size := by omega
  replace Lz : w3.heap.size < w8.heap.size := by omega
  replace HE1 := Lib.hid (ErrIs.later hb (ErrIs.later (by (repeat with_reducible first | exact Below.refl _ _ | apply b_alloc)) HE1.out))
  replace HE2 := Lib.hid (ErrIs.later hb (ErrIs.later (by (repeat with_reducible first | exact Below.refl _ _ | apply b_alloc)) HE2.out))
  replace HBW : Hid (Below w.heap.size w w8) := Lib.hid (by refine bstep ?_ hb; (repeat with_reducible first | exact HBW.out | apply b_alloc | refine b_set ?_ ?_ _); all_goals (simp; try omega))
  clear hb hz
  go_wp2_with fail
  refine (at_any (.fault 22 1 .none) _ _ (HL.out.later HBW.out) HE2.out).mono ?_
  rintro e w9 ⟨rfl, hb⟩
  simp only [codeE, atE]
  replace Ya : ∀ o, w9.cell? ⟨w.heap.size, o, none⟩ = #[Value.int .i64 ak, .int .i64 an, .string as'][o]? := fun o => (hb.cell (p := ⟨w.heap.size, o, none⟩) (by (try simp only [World.size_alloc, World.size_setCell, World.size_drew]); omega)).trans (by simp [go_sem, *])
  replace Yb : ∀ o, w9.cell? ⟨w.heap.size + 1, o, none⟩ = #[Value.int .i64 bk, .int .i64 bn, .string bs'][o]? := fun o => (hb.cell (p := ⟨w.heap.size + 1, o, none⟩) (by (try simp only [World.size_alloc, World.size_setCell, World.size_drew]); omega)).trans (by simp [go_sem, *])
  replace Yx : ∀ o, w9.cell? ⟨w1.heap.size, o, none⟩ = #[Value.int .i64 xk, .int .i64 xn, .string xs][o]? := fun o => (hb.cell (p := ⟨w1.heap.size, o, none⟩) (by (try simp only [World.size_alloc, World.size_setCell, World.size_drew]); omega)).trans (by simp [go_sem, *])
  replace Yy : ∀ o, w9.cell? ⟨w2.heap.size, o, none⟩ = #[Value.int .i64 yk, .int .i64 yn, .string ys][o]? := fun o => (hb.cell (p := ⟨w2.heap.size, o, none⟩) (by (try simp only [World.size_alloc, World.size_setCell, World.size_drew]); omega)).trans (by simp [go_sem, *])
  replace Yz : ∀ o, w9.cell? ⟨w3.heap.size, o, none⟩ = #[Value.int .i64 zk, .int .i64 zn, .string zs][o]? := fun o => (hb.cell (p := ⟨w3.heap.size, o, none⟩) (by (try simp only [World.size_alloc, World.size_setCell, World.size_drew]); omega)).trans (by simp [go_sem, *])
  have hz := hb.size
  (try simp only [World.size_alloc, World.size_setCell, World.size_drew] at hz)
  replace La : w.heap.size < w9.heap.size := by omega
  replace Lb : w.heap.size + 1 < w9.heap.size := by omega
  replace Lx : w1.heap.size < w9.heap.size := by omega
  replace Ly : w2.heap.size < w9.heap.size := by omega
  replace Lz : w3.heap.size < w9.heap.size := by omega
  replace HE1 := Lib.hid (ErrIs.later hb (ErrIs.later (by (repeat with_reducible first | exact Below.refl _ _ | apply b_alloc)) HE1.out))
  replace HE2 := Lib.hid (ErrIs.later hb (ErrIs.later (by (repeat with_reducible first | exact Below.refl _ _ | apply b_alloc)) HE2.out))
  replace HBW : Hid (Below w.heap.size w w9) := Lib.hid (by refine bstep ?_ hb; (repeat with_reducible first | exact HBW.out | apply b_alloc | refine b_set ?_ ?_ _); all_goals (simp; try omega))
  clear hb hz
  go_wp2_with fail
  have Cx0 := Yx 0
  have Cx1 := Yx 1
  have Cx2 := Yx 2
  have Cy0 := Yy 0
  have Cy1 := Yy 1
  have Cy2 := Yy 2
  have Cz0 := Yz 0
  have Cz1 := Yz 1
  have Cz2 := Yz 2
  simp at Cx0 Cx1 Cx2 Cy0 Cy1 Cy2 Cz0 Cz1 Cz2
  have CD : Hid (Below w.heap.size w w9.drew) := Lib.hid HBW.out.drew
  go_region_held3 (fun w' => w'.cell? ⟨w1.heap.size, 0, none⟩ = some (.int .i64 xk) ∧ w'.cell? ⟨w1.heap.size, 1, none⟩ = some (.int .i64 xn) ∧ w'.cell? ⟨w1.heap.size, 2, none⟩ = some (.string xs) ∧ w'.cell? ⟨w2.heap.size, 0, none⟩ = some (.int .i64 yk) ∧ w'.cell? ⟨w2.heap.size, 1, none⟩ = some (.int .i64 yn) ∧ w'.cell? ⟨w2.heap.size, 2, none⟩ = some (.string ys) ∧ w'.cell? ⟨w3.heap.size, 0, none⟩ = some (.int .i64 zk) ∧ w'.cell? ⟨w3.heap.size, 1, none⟩ = some (.int .i64 zn) ∧ w'.cell? ⟨w3.heap.size, 2, none⟩ = some (.string zs) ∧ w3.heap.size < w'.heap.size ∧ Hid (Below w.heap.size w w')) (first | go_keep | assumption | (go_split_ands; (repeat' (with_reducible apply And.intro)); all_goals assumption) | (go_split_ands; refine ⟨?_, ?_, ?_, ?_, ?_, ?_, ?_, ?_, ?_, ?_, ?_⟩; (rw [hb.cell (p := ⟨w1.heap.size, 0, none⟩) (by simp; omega)]; assumption); (rw [hb.cell (p := ⟨w1.heap.size, 1, none⟩) (by simp; omega)]; assumption); (rw [hb.cell (p := ⟨w1.heap.size, 2, none⟩) (by simp; omega)]; assumption); (rw [hb.cell (p := ⟨w2.heap.size, 0, none⟩) (by simp; omega)]; assumption); (rw [hb.cell (p := ⟨w2.heap.size, 1, none⟩) (by simp; omega)]; assumption); (rw [hb.cell (p := ⟨w2.heap.size, 2, none⟩) (by simp; omega)]; assumption); (rw [hb.cell (p := ⟨w3.heap.size, 0, none⟩) (by simp; omega)]; assumption); (rw [hb.cell (p := ⟨w3.heap.size, 1, none⟩) (by simp; omega)]; assumption); (rw [hb.cell (p := ⟨w3.heap.size, 2, none⟩) (by simp; omega)]; assumption); (have := hb.size; omega); exact Lib.hid (bstep (Hid.out (by assumption)) hb))) (first | (go_at_call 5; go_split_ands; refine (alive02 _ (HL.out.later (Hid.out (by assumption)))).mono ?_; rintro e u1 ⟨rfl, hb⟩) | (go_at_call 17; go_split_ands; refine (ref_and _ _ _).mono ?_; rintro e u1 ⟨rfl, rfl⟩) | (go_at_call 18; go_split_ands; refine (ref_or _ _ _).mono ?_; rintro e u1 ⟨rfl, rfl⟩) | (go_at_call 19; go_split_ands; refine (ref_not _ _).mono ?_; rintro e u1 ⟨rfl, rfl⟩) | (go_at_call 16; go_split_ands; refine (ref_of _ _).mono ?_; rintro e u1 ⟨rfl, hb⟩; first | rw [HO1.out] | rw [HO2.out] | rw [HO3.out]))
  go_split_ands
  have HB1 : Hid (Below w.heap.size w u1) := by assumption
  go_wp2_with fail
  go_ret
  exact ⟨rfl, HB1.out⟩

end Go.Proofs.YtdldhlbnbffieaaGreatDoor
