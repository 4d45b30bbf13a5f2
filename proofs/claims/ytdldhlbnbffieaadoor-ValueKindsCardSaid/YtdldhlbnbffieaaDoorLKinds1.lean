/-
  ValueKinds answers true: the two ways on which the first is not Null.
-/
import Derived.Test.YtdldhlbnbffieaaDoorLKinds
namespace Go.Proofs.YtdldhlbnbffieaaDoor
set_option linter.unusedSimpArgs false
set_option linter.unusedVariables false
open Go.RowKit

set_option maxRecDepth 100000 in
set_option maxHeartbeats 3200000 in
theorem kinds_lt1 (ak an bk bn : Int) (as' bs' : ByteArray) (w : World) (hl : Laid w) (h1 : ¬ (500 : Int) < as'.size) (h2 : ¬ (500 : Int) < bs'.size) (ha : rightB ak an as' = true) (hb : rightB bk bn bs' = true)
    (ha0 : -9223372036854775808 ≤ an) (ha1 : an ≤ 9223372036854775807) (hb0 : -9223372036854775808 ≤ bn) (hb1 : bn ≤ 9223372036854775807) (hk : ¬ ak = bk) (hlt : ak < bk) (hz : ¬ ak = 0) :
    Calls Tryd.prog 4 #[.agg #[.int .i64 ak, .int .i64 an, .string as'], .agg #[.int .i64 bk, .int .i64 bn, .string bs']] w fun e w' => e = .returned (.bool true) ∧ Below w.heap.size w w' := by
  have HL := Lib.hid hl; clear hl
  have HA := Lib.hid ha; have HB := Lib.hid hb; have HA0 := Lib.hid ha0; have HA1 := Lib.hid ha1; have HBB0 := Lib.hid hb0; have HBB1 := Lib.hid hb1
  clear ha hb ha0 ha1 hb0 hb1
  have hord : ordV ⟨ak, an, as'⟩ ⟨bk, bn, bs'⟩ = -1 := by simp [ordV, or3, cmpI]; omega
  have HO := Lib.hid hord; clear hord
  have HZ := Lib.hid hz
  have hd : decide (ak < bk) = true := decide_eq_true hlt
  clear hz
  go_enter Tryd.func4, Tryd.ntmps4
  go_wp2_with (first | (go_at_call 11; refine (right_any _ _ _ _).mono ?_; rintro e w1 ⟨rfl, hb⟩; (first | rw [HA.out] | rw [HB.out]); have hz := hb.size; (try simp only [World.size_alloc, World.size_setCell, World.size_drew] at hz); (try (have z0 : w.heap.size < w1.heap.size := (by omega); have y0 := fun o => hb.cell (p := ⟨w.heap.size, o, none⟩) (by (try simp only [World.size_alloc, World.size_setCell, World.size_drew]); omega); have x0 := fun o => hb.frozen (p := ⟨w.heap.size, o, none⟩) (by (try simp only [World.size_alloc, World.size_setCell, World.size_drew]); omega); have q0 := tag_below hb (w.heap.size) (by (try simp only [World.size_alloc, World.size_setCell, World.size_drew]); omega); (try simp [go_sem] at y0); (try simp [go_sem] at x0); (try simp [tag_alloc, tag_set, tag_drew, tagObj] at q0))); (try (have z1 : w.heap.size + 1 < w1.heap.size := (by omega); have y1 := fun o => hb.cell (p := ⟨w.heap.size + 1, o, none⟩) (by (try simp only [World.size_alloc, World.size_setCell, World.size_drew]); omega); have x1 := fun o => hb.frozen (p := ⟨w.heap.size + 1, o, none⟩) (by (try simp only [World.size_alloc, World.size_setCell, World.size_drew]); omega); have q1 := tag_below hb (w.heap.size + 1) (by (try simp only [World.size_alloc, World.size_setCell, World.size_drew]); omega); (try simp [go_sem] at y1); (try simp [go_sem] at x1); (try simp [tag_alloc, tag_set, tag_drew, tagObj] at q1))); (try (have z2 : w.heap.size + 1 + 1 < w1.heap.size := (by omega); have y2 := fun o => hb.cell (p := ⟨w.heap.size + 1 + 1, o, none⟩) (by (try simp only [World.size_alloc, World.size_setCell, World.size_drew]); omega); have x2 := fun o => hb.frozen (p := ⟨w.heap.size + 1 + 1, o, none⟩) (by (try simp only [World.size_alloc, World.size_setCell, World.size_drew]); omega); have q2 := tag_below hb (w.heap.size + 1 + 1) (by (try simp only [World.size_alloc, World.size_setCell, World.size_drew]); omega); (try simp [go_sem] at y2); (try simp [go_sem] at x2); (try simp [tag_alloc, tag_set, tag_drew, tagObj] at q2))); (try (have z3 : w.heap.size + 1 + 1 + 1 < w1.heap.size := (by omega); have y3 := fun o => hb.cell (p := ⟨w.heap.size + 1 + 1 + 1, o, none⟩) (by (try simp only [World.size_alloc, World.size_setCell, World.size_drew]); omega); have x3 := fun o => hb.frozen (p := ⟨w.heap.size + 1 + 1 + 1, o, none⟩) (by (try simp only [World.size_alloc, World.size_setCell, World.size_drew]); omega); have q3 := tag_below hb (w.heap.size + 1 + 1 + 1) (by (try simp only [World.size_alloc, World.size_setCell, World.size_drew]); omega); (try simp [go_sem] at y3); (try simp [go_sem] at x3); (try simp [tag_alloc, tag_set, tag_drew, tagObj] at q3))); (try (have z4 : w.heap.size + 1 + 1 + 1 + 1 < w1.heap.size := (by omega); have y4 := fun o => hb.cell (p := ⟨w.heap.size + 1 + 1 + 1 + 1, o, none⟩) (by (try simp only [World.size_alloc, World.size_setCell, World.size_drew]); omega); have x4 := fun o => hb.frozen (p := ⟨w.heap.size + 1 + 1 + 1 + 1, o, none⟩) (by (try simp only [World.size_alloc, World.size_setCell, World.size_drew]); omega); have q4 := tag_below hb (w.heap.size + 1 + 1 + 1 + 1) (by (try simp only [World.size_alloc, World.size_setCell, World.size_drew]); omega); (try simp [go_sem] at y4); (try simp [go_sem] at x4); (try simp [tag_alloc, tag_set, tag_drew, tagObj] at q4))); (try (have z5 : w.heap.size + 1 + 1 + 1 + 1 + 1 < w1.heap.size := (by omega); have y5 := fun o => hb.cell (p := ⟨w.heap.size + 1 + 1 + 1 + 1 + 1, o, none⟩) (by (try simp only [World.size_alloc, World.size_setCell, World.size_drew]); omega); have x5 := fun o => hb.frozen (p := ⟨w.heap.size + 1 + 1 + 1 + 1 + 1, o, none⟩) (by (try simp only [World.size_alloc, World.size_setCell, World.size_drew]); omega); have q5 := tag_below hb (w.heap.size + 1 + 1 + 1 + 1 + 1) (by (try simp only [World.size_alloc, World.size_setCell, World.size_drew]); omega); (try simp [go_sem] at y5); (try simp [go_sem] at x5); (try simp [tag_alloc, tag_set, tag_drew, tagObj] at q5))); (try (have z6 : w.heap.size + 1 + 1 + 1 + 1 + 1 + 1 < w1.heap.size := (by omega); have y6 := fun o => hb.cell (p := ⟨w.heap.size + 1 + 1 + 1 + 1 + 1 + 1, o, none⟩) (by (try simp only [World.size_alloc, World.size_setCell, World.size_drew]); omega); have x6 := fun o => hb.frozen (p := ⟨w.heap.size + 1 + 1 + 1 + 1 + 1 + 1, o, none⟩) (by (try simp only [World.size_alloc, World.size_setCell, World.size_drew]); omega); have q6 := tag_below hb (w.heap.size + 1 + 1 + 1 + 1 + 1 + 1) (by (try simp only [World.size_alloc, World.size_setCell, World.size_drew]); omega); (try simp [go_sem] at y6); (try simp [go_sem] at x6); (try simp [tag_alloc, tag_set, tag_drew, tagObj] at q6))); (try (have z7 : w.heap.size + 1 + 1 + 1 + 1 + 1 + 1 + 1 < w1.heap.size := (by omega); have y7 := fun o => hb.cell (p := ⟨w.heap.size + 1 + 1 + 1 + 1 + 1 + 1 + 1, o, none⟩) (by (try simp only [World.size_alloc, World.size_setCell, World.size_drew]); omega); have x7 := fun o => hb.frozen (p := ⟨w.heap.size + 1 + 1 + 1 + 1 + 1 + 1 + 1, o, none⟩) (by (try simp only [World.size_alloc, World.size_setCell, World.size_drew]); omega); have q7 := tag_below hb (w.heap.size + 1 + 1 + 1 + 1 + 1 + 1 + 1) (by (try simp only [World.size_alloc, World.size_setCell, World.size_drew]); omega); (try simp [go_sem] at y7); (try simp [go_sem] at x7); (try simp [tag_alloc, tag_set, tag_drew, tagObj] at q7))); obtain ⟨hc, hf⟩ := bcell hb; have ht := tag_below hb))
  refine (order_any _ _ _ _ _ _ _).mono ?_
  rintro e w1 ⟨rfl, hb⟩
  rw [HO.out]
  have hz := hb.size; (try simp only [World.size_alloc, World.size_setCell, World.size_drew] at hz); (try (have z0 : w.heap.size < w1.heap.size := (by omega); have y0 := fun o => hb.cell (p := ⟨w.heap.size, o, none⟩) (by (try simp only [World.size_alloc, World.size_setCell, World.size_drew]); omega); have x0 := fun o => hb.frozen (p := ⟨w.heap.size, o, none⟩) (by (try simp only [World.size_alloc, World.size_setCell, World.size_drew]); omega); have q0 := tag_below hb (w.heap.size) (by (try simp only [World.size_alloc, World.size_setCell, World.size_drew]); omega); (try simp [go_sem] at y0); (try simp [go_sem] at x0); (try simp [tag_alloc, tag_set, tag_drew, tagObj] at q0))); (try (have z1 : w.heap.size + 1 < w1.heap.size := (by omega); have y1 := fun o => hb.cell (p := ⟨w.heap.size + 1, o, none⟩) (by (try simp only [World.size_alloc, World.size_setCell, World.size_drew]); omega); have x1 := fun o => hb.frozen (p := ⟨w.heap.size + 1, o, none⟩) (by (try simp only [World.size_alloc, World.size_setCell, World.size_drew]); omega); have q1 := tag_below hb (w.heap.size + 1) (by (try simp only [World.size_alloc, World.size_setCell, World.size_drew]); omega); (try simp [go_sem] at y1); (try simp [go_sem] at x1); (try simp [tag_alloc, tag_set, tag_drew, tagObj] at q1))); (try (have z2 : w.heap.size + 1 + 1 < w1.heap.size := (by omega); have y2 := fun o => hb.cell (p := ⟨w.heap.size + 1 + 1, o, none⟩) (by (try simp only [World.size_alloc, World.size_setCell, World.size_drew]); omega); have x2 := fun o => hb.frozen (p := ⟨w.heap.size + 1 + 1, o, none⟩) (by (try simp only [World.size_alloc, World.size_setCell, World.size_drew]); omega); have q2 := tag_below hb (w.heap.size + 1 + 1) (by (try simp only [World.size_alloc, World.size_setCell, World.size_drew]); omega); (try simp [go_sem] at y2); (try simp [go_sem] at x2); (try simp [tag_alloc, tag_set, tag_drew, tagObj] at q2))); (try (have z3 : w.heap.size + 1 + 1 + 1 < w1.heap.size := (by omega); have y3 := fun o => hb.cell (p := ⟨w.heap.size + 1 + 1 + 1, o, none⟩) (by (try simp only [World.size_alloc, World.size_setCell, World.size_drew]); omega); have x3 := fun o => hb.frozen (p := ⟨w.heap.size + 1 + 1 + 1, o, none⟩) (by (try simp only [World.size_alloc, World.size_setCell, World.size_drew]); omega); have q3 := tag_below hb (w.heap.size + 1 + 1 + 1) (by (try simp only [World.size_alloc, World.size_setCell, World.size_drew]); omega); (try simp [go_sem] at y3); (try simp [go_sem] at x3); (try simp [tag_alloc, tag_set, tag_drew, tagObj] at q3))); (try (have z4 : w.heap.size + 1 + 1 + 1 + 1 < w1.heap.size := (by omega); have y4 := fun o => hb.cell (p := ⟨w.heap.size + 1 + 1 + 1 + 1, o, none⟩) (by (try simp only [World.size_alloc, World.size_setCell, World.size_drew]); omega); have x4 := fun o => hb.frozen (p := ⟨w.heap.size + 1 + 1 + 1 + 1, o, none⟩) (by (try simp only [World.size_alloc, World.size_setCell, World.size_drew]); omega); have q4 := tag_below hb (w.heap.size + 1 + 1 + 1 + 1) (by (try simp only [World.size_alloc, World.size_setCell, World.size_drew]); omega); (try simp [go_sem] at y4); (try simp [go_sem] at x4); (try simp [tag_alloc, tag_set, tag_drew, tagObj] at q4))); (try (have z5 : w.heap.size + 1 + 1 + 1 + 1 + 1 < w1.heap.size := (by omega); have y5 := fun o => hb.cell (p := ⟨w.heap.size + 1 + 1 + 1 + 1 + 1, o, none⟩) (by (try simp only [World.size_alloc, World.size_setCell, World.size_drew]); omega); have x5 := fun o => hb.frozen (p := ⟨w.heap.size + 1 + 1 + 1 + 1 + 1, o, none⟩) (by (try simp only [World.size_alloc, World.size_setCell, World.size_drew]); omega); have q5 := tag_below hb (w.heap.size + 1 + 1 + 1 + 1 + 1) (by (try simp only [World.size_alloc, World.size_setCell, World.size_drew]); omega); (try simp [go_sem] at y5); (try simp [go_sem] at x5); (try simp [tag_alloc, tag_set, tag_drew, tagObj] at q5))); (try (have z6 : w.heap.size + 1 + 1 + 1 + 1 + 1 + 1 < w1.heap.size := (by omega); have y6 := fun o => hb.cell (p := ⟨w.heap.size + 1 + 1 + 1 + 1 + 1 + 1, o, none⟩) (by (try simp only [World.size_alloc, World.size_setCell, World.size_drew]); omega); have x6 := fun o => hb.frozen (p := ⟨w.heap.size + 1 + 1 + 1 + 1 + 1 + 1, o, none⟩) (by (try simp only [World.size_alloc, World.size_setCell, World.size_drew]); omega); have q6 := tag_below hb (w.heap.size + 1 + 1 + 1 + 1 + 1 + 1) (by (try simp only [World.size_alloc, World.size_setCell, World.size_drew]); omega); (try simp [go_sem] at y6); (try simp [go_sem] at x6); (try simp [tag_alloc, tag_set, tag_drew, tagObj] at q6))); (try (have z7 : w.heap.size + 1 + 1 + 1 + 1 + 1 + 1 + 1 < w1.heap.size := (by omega); have y7 := fun o => hb.cell (p := ⟨w.heap.size + 1 + 1 + 1 + 1 + 1 + 1 + 1, o, none⟩) (by (try simp only [World.size_alloc, World.size_setCell, World.size_drew]); omega); have x7 := fun o => hb.frozen (p := ⟨w.heap.size + 1 + 1 + 1 + 1 + 1 + 1 + 1, o, none⟩) (by (try simp only [World.size_alloc, World.size_setCell, World.size_drew]); omega); have q7 := tag_below hb (w.heap.size + 1 + 1 + 1 + 1 + 1 + 1 + 1) (by (try simp only [World.size_alloc, World.size_setCell, World.size_drew]); omega); (try simp [go_sem] at y7); (try simp [go_sem] at x7); (try simp [tag_alloc, tag_set, tag_drew, tagObj] at q7))); obtain ⟨hc, hf⟩ := bcell hb; have ht := tag_below hb
  go_wp2_with fail
  have c0 : ∀ o, w1.cell? ⟨w.heap.size, o, none⟩ = #[Value.int .i64 ak, .int .i64 an, .string as'][o]? := fun o => by simp [go_sem, *]
  have c1 : ∀ o, w1.cell? ⟨w.heap.size + 1, o, none⟩ = #[Value.int .i64 bk, .int .i64 bn, .string bs'][o]? := fun o => by simp [go_sem, *]
  have hbw : Below w.heap.size w w1 := by ((repeat with_reducible first | exact Below.refl _ _ | apply b_alloc | apply b_drewN | apply b_drew | refine b_set ?_ ?_ _ | (refine bstep ?_ (by assumption))); (all_goals (simp; try omega)))
  have C7 : w.heap.size + 1 < w1.heap.size := by omega
  have C0 := c0 0; have C1 := c0 1; have C2 := c0 2; have C3 := c1 0; have C4 := c1 1; have C5 := c1 2
  simp at C0 C1 C2 C3 C4 C5
  have CB : Hid (Below w.heap.size w w1.drew) := Lib.hid hbw.drew
  have EB : Hid (Below w.heap.size w w1) := Lib.hid hbw
  clear c0 c1 hbw
  obtain ⟨ta, hta⟩ : ∃ t : ByteArray, t.data.toList = textL ak an as' := ⟨⟨(textL ak an as').toArray⟩, by simp⟩
  obtain ⟨tb, htb⟩ : ∃ t : ByteArray, t.data.toList = textL bk bn bs' := ⟨⟨(textL bk bn bs').toArray⟩, by simp⟩
  have hne : (ta.toList == tb.toList) = false := by rw [toList_beq, ByteArray.toList_eq, hta, htb, decide_eq_false (fun h => hk (text_inj HA.out HA0.out HA1.out HB.out HBB0.out HBB1.out h).1)]
  have HTA := Lib.hid hta; have HTB := Lib.hid htb
  clear hta htb
  have hzn : (ak != 0) = true := by simp [HZ.out]
  refine wp_region_noPanic ?_
  refine wp_region_held_drew (S := (fun w' => w'.cell? ⟨w.heap.size, 0, none⟩ = some (.int .i64 ak) ∧ w'.cell? ⟨w.heap.size, 1, none⟩ = some (.int .i64 an) ∧ w'.cell? ⟨w.heap.size, 2, none⟩ = some (.string as') ∧ w'.cell? ⟨w.heap.size + 1, 0, none⟩ = some (.int .i64 bk) ∧ w'.cell? ⟨w.heap.size + 1, 1, none⟩ = some (.int .i64 bn) ∧ w'.cell? ⟨w.heap.size + 1, 2, none⟩ = some (.string bs') ∧ w.heap.size + 1 < w'.heap.size ∧ Hid (Below w.heap.size w w'))) (by kernel_rfl) ⟨C0, C1, C2, C3, C4, C5, C7, CB⟩ (fun hHeld => ?_)
  refine wpAnyH_ready (rs := [0]) (by kernel_rfl) (by simp) ?_
  refine AllReadyH.cons (o := { dst := some 37, op := Op.call { callee := Callee.value (Operand.func 8), args := #[], argTypes := #[] }, type := 4, pos := "law.go:147", after := #[], guard := none }) rfl (fun K hK => ?_) AllReadyH.nil
  go_simp
  (go_at_call 8; go_split_ands; refine (alive02 _ (HL.out.later (Hid.out (by assumption)))).mono ?_; rintro e w1 ⟨rfl, hb⟩)
  refine hK.out _ _ ?_ (fun hHeld => ?_)
  · (go_split_ands; refine ⟨?_, ?_, ?_, ?_, ?_, ?_, ?_, ?_⟩; (rw [hb.cell (by simp; omega)]; assumption); (rw [hb.cell (by simp; omega)]; assumption); (rw [hb.cell (by simp; omega)]; assumption); (rw [hb.cell (by simp; omega)]; assumption); (rw [hb.cell (by simp; omega)]; assumption); (rw [hb.cell (by simp; omega)]; assumption); (have := hb.size; omega); exact Lib.hid (bstep (Hid.out (by assumption)) hb))
  clear hK K
  (try simp only [Act.put, List.setIfInBounds_toArray, List.set_cons_zero, List.set_cons_succ])
  refine wpAnyH_take (i := 1) (oi := { dst := some 38, op := Op.move (Operand.tmp 37), type := 4, pos := "law.go:147", after := #[{ on := 0, ground := Ground.data }, { on := 0, ground := Ground.chain }], guard := none }) (v := ?_) rfl (by kernel_rfl) (by kernel_rfl) (by kernel_rfl) (fun _ _ _ h => h) ?_ (by assumption) ?_
  rotate_left
  · first | (refine Or.inl ⟨by rfl, ?_⟩; intro w hSw; (try dsimp only at hSw); go_simp; (try with_reducible rfl); done) | exact Or.inr ⟨by rfl, rfl⟩
  (try simp only [Act.put, List.setIfInBounds_toArray, List.set_cons_zero, List.set_cons_succ])
  refine wpAnyH_take (i := 2) (oi := { dst := some 39, op := Op.move (Operand.tmp 5), type := 3, pos := "law.go:147", after := #[{ on := 1, ground := Ground.guard }], guard := some (1, true) }) (v := ?_) rfl (by kernel_rfl) (by kernel_rfl) (by kernel_rfl) (fun _ _ _ h => h) ?_ (by assumption) ?_
  rotate_left
  · first | (refine Or.inl ⟨by rfl, ?_⟩; intro w hSw; (try dsimp only at hSw); go_simp; (try with_reducible rfl); done) | exact Or.inr ⟨by rfl, rfl⟩
  (try simp only [Act.put, List.setIfInBounds_toArray, List.set_cons_zero, List.set_cons_succ])
  refine wpAnyH_take (i := 3) (oi := { dst := some 40, op := Op.binOp BinOp.lss 3 (Operand.tmp 39) (Operand.const (Value.int IntKind.i64 0)) 3, type := 4, pos := "law.go:147", after := #[{ on := 2, ground := Ground.data }, { on := 1, ground := Ground.guard }], guard := some (1, true) }) (v := ?_) rfl (by kernel_rfl) (by kernel_rfl) (by kernel_rfl) (fun _ _ _ h => h) ?_ (by assumption) ?_
  rotate_left
  · first | (refine Or.inl ⟨by rfl, ?_⟩; intro w hSw; (try dsimp only at hSw); go_simp; (try with_reducible rfl); done) | exact Or.inr ⟨by rfl, rfl⟩
  (try simp only [Act.put, List.setIfInBounds_toArray, List.set_cons_zero, List.set_cons_succ])
  refine wpAnyH_take (i := 4) (oi := { dst := some 41, op := Op.fieldAddr 24 (Operand.tmp 2) 0, type := 0, pos := "law.go:147", after := #[{ on := 1, ground := Ground.guard }], guard := some (1, true) }) (v := ?_) rfl (by kernel_rfl) (by kernel_rfl) (by kernel_rfl) (fun _ _ _ h => h) ?_ (by assumption) ?_
  rotate_left
  · first | (refine Or.inl ⟨by rfl, ?_⟩; intro w hSw; (try dsimp only at hSw); go_simp; (try with_reducible rfl); done) | exact Or.inr ⟨by rfl, rfl⟩
  (try simp only [Act.put, List.setIfInBounds_toArray, List.set_cons_zero, List.set_cons_succ])
  refine wpAnyH_take (i := 5) (oi := { dst := some 42, op := Op.load 22 (Operand.tmp 41), type := 22, pos := "law.go:147", after := #[{ on := 4, ground := Ground.data }, { on := 1, ground := Ground.guard }], guard := some (1, true) }) (v := ?_) rfl (by kernel_rfl) (by kernel_rfl) (by kernel_rfl) (fun _ _ _ h => h) ?_ (by assumption) ?_
  rotate_left
  · first | (refine Or.inl ⟨by rfl, ?_⟩; intro w hSw; (try dsimp only at hSw); go_simp; (try with_reducible rfl); done) | exact Or.inr ⟨by rfl, rfl⟩
  (try simp only [Act.put, List.setIfInBounds_toArray, List.set_cons_zero, List.set_cons_succ])
  refine wpAnyH_take (i := 6) (oi := { dst := some 43, op := Op.fieldAddr 24 (Operand.tmp 3) 0, type := 0, pos := "law.go:147", after := #[{ on := 1, ground := Ground.guard }], guard := some (1, true) }) (v := ?_) rfl (by kernel_rfl) (by kernel_rfl) (by kernel_rfl) (fun _ _ _ h => h) ?_ (by assumption) ?_
  rotate_left
  · first | (refine Or.inl ⟨by rfl, ?_⟩; intro w hSw; (try dsimp only at hSw); go_simp; (try with_reducible rfl); done) | exact Or.inr ⟨by rfl, rfl⟩
  (try simp only [Act.put, List.setIfInBounds_toArray, List.set_cons_zero, List.set_cons_succ])
  refine wpAnyH_take (i := 7) (oi := { dst := some 44, op := Op.load 22 (Operand.tmp 43), type := 22, pos := "law.go:147", after := #[{ on := 6, ground := Ground.data }, { on := 1, ground := Ground.guard }], guard := some (1, true) }) (v := ?_) rfl (by kernel_rfl) (by kernel_rfl) (by kernel_rfl) (fun _ _ _ h => h) ?_ (by assumption) ?_
  rotate_left
  · first | (refine Or.inl ⟨by rfl, ?_⟩; intro w hSw; (try dsimp only at hSw); go_simp; (try with_reducible rfl); done) | exact Or.inr ⟨by rfl, rfl⟩
  (try simp only [Act.put, List.setIfInBounds_toArray, List.set_cons_zero, List.set_cons_succ])
  refine wpAnyH_take (i := 8) (oi := { dst := some 45, op := Op.binOp BinOp.lss 22 (Operand.tmp 42) (Operand.tmp 44) 22, type := 4, pos := "law.go:147", after := #[{ on := 5, ground := Ground.data }, { on := 7, ground := Ground.data }, { on := 1, ground := Ground.guard }], guard := some (1, true) }) (v := ?_) rfl (by kernel_rfl) (by kernel_rfl) (by kernel_rfl) (fun _ _ _ h => h) ?_ (by assumption) ?_
  rotate_left
  · first | (refine Or.inl ⟨by rfl, ?_⟩; intro w hSw; (try dsimp only at hSw); go_simp; (try with_reducible rfl); done) | exact Or.inr ⟨by rfl, rfl⟩
  (try simp only [Act.put, List.setIfInBounds_toArray, List.set_cons_zero, List.set_cons_succ])
  refine wpAnyH_take (i := 9) (oi := { dst := some 46, op := Op.binOp BinOp.eql 4 (Operand.tmp 40) (Operand.tmp 45) 4, type := 4, pos := "law.go:147", after := #[{ on := 3, ground := Ground.data }, { on := 8, ground := Ground.data }, { on := 1, ground := Ground.guard }], guard := some (1, true) }) (v := ?_) rfl (by kernel_rfl) (by kernel_rfl) (by kernel_rfl) (fun _ _ _ h => h) ?_ (by assumption) ?_
  rotate_left
  · first | (refine Or.inl ⟨by rfl, ?_⟩; intro w hSw; (try dsimp only at hSw); go_simp; (try with_reducible rfl); done) | exact Or.inr ⟨by rfl, rfl⟩
  (try simp only [Act.put, List.setIfInBounds_toArray, List.set_cons_zero, List.set_cons_succ])
  refine wpAnyH_take (i := 10) (oi := { dst := some 47, op := Op.pick (Operand.tmp 38) (Operand.tmp 46) (Operand.const (Value.bool false)), type := 4, pos := "law.go:147", after := #[{ on := 1, ground := Ground.data }, { on := 9, ground := Ground.data }], guard := none }) (v := ?_) rfl (by kernel_rfl) (by kernel_rfl) (by kernel_rfl) (fun _ _ _ h => h) ?_ (by assumption) ?_
  rotate_left
  · first | (refine Or.inl ⟨by rfl, ?_⟩; intro w hSw; (try dsimp only at hSw); go_simp; (try with_reducible rfl); done) | exact Or.inr ⟨by rfl, rfl⟩
  (try simp only [Act.put, List.setIfInBounds_toArray, List.set_cons_zero, List.set_cons_succ])
  refine wpAnyH_take (i := 11) (oi := { dst := some 48, op := Op.move (Operand.tmp 47), type := 4, pos := "law.go:147", after := #[{ on := 10, ground := Ground.data }, { on := 1, ground := Ground.chain }], guard := none }) (v := ?_) rfl (by kernel_rfl) (by kernel_rfl) (by kernel_rfl) (fun _ _ _ h => h) ?_ (by assumption) ?_
  rotate_left
  · first | (refine Or.inl ⟨by rfl, ?_⟩; intro w hSw; (try dsimp only at hSw); go_simp; (try with_reducible rfl); done) | exact Or.inr ⟨by rfl, rfl⟩
  (try simp only [Act.put, List.setIfInBounds_toArray, List.set_cons_zero, List.set_cons_succ])
  refine wpAnyH_take (i := 12) (oi := { dst := some 49, op := Op.move (Operand.tmp 5), type := 3, pos := "law.go:147", after := #[{ on := 11, ground := Ground.guard }], guard := some (11, true) }) (v := ?_) rfl (by kernel_rfl) (by kernel_rfl) (by kernel_rfl) (fun _ _ _ h => h) ?_ (by assumption) ?_
  rotate_left
  · first | (refine Or.inl ⟨by rfl, ?_⟩; intro w hSw; (try dsimp only at hSw); go_simp; (try with_reducible rfl); done) | exact Or.inr ⟨by rfl, rfl⟩
  (try simp only [Act.put, List.setIfInBounds_toArray, List.set_cons_zero, List.set_cons_succ])
  refine wpAnyH_take (i := 13) (oi := { dst := some 50, op := Op.binOp BinOp.neq 3 (Operand.tmp 49) (Operand.const (Value.int IntKind.i64 0)) 3, type := 4, pos := "law.go:147", after := #[{ on := 12, ground := Ground.data }, { on := 11, ground := Ground.guard }], guard := some (11, true) }) (v := ?_) rfl (by kernel_rfl) (by kernel_rfl) (by kernel_rfl) (fun _ _ _ h => h) ?_ (by assumption) ?_
  rotate_left
  · first | (refine Or.inl ⟨by rfl, ?_⟩; intro w hSw; (try dsimp only at hSw); go_simp; (try with_reducible rfl); done) | exact Or.inr ⟨by rfl, rfl⟩
  (try simp only [Act.put, List.setIfInBounds_toArray, List.set_cons_zero, List.set_cons_succ])
  refine wpAnyH_take (i := 14) (oi := { dst := some 51, op := Op.pick (Operand.tmp 48) (Operand.tmp 50) (Operand.const (Value.bool false)), type := 4, pos := "law.go:147", after := #[{ on := 11, ground := Ground.data }, { on := 13, ground := Ground.data }], guard := none }) (v := ?_) rfl (by kernel_rfl) (by kernel_rfl) (by kernel_rfl) (fun _ _ _ h => h) ?_ (by assumption) ?_
  rotate_left
  · first | (refine Or.inl ⟨by rfl, ?_⟩; intro w hSw; (try dsimp only at hSw); go_simp; (try with_reducible rfl); done) | exact Or.inr ⟨by rfl, rfl⟩
  (try simp only [Act.put, List.setIfInBounds_toArray, List.set_cons_zero, List.set_cons_succ])
  refine wpAnyH_take (i := 15) (oi := { dst := some 52, op := Op.move (Operand.tmp 51), type := 4, pos := "law.go:147", after := #[{ on := 14, ground := Ground.data }, { on := 11, ground := Ground.chain }], guard := none }) (v := ?_) rfl (by kernel_rfl) (by kernel_rfl) (by kernel_rfl) (fun _ _ _ h => h) ?_ (by assumption) ?_
  rotate_left
  · first | (refine Or.inl ⟨by rfl, ?_⟩; intro w hSw; (try dsimp only at hSw); go_simp; (try with_reducible rfl); done) | exact Or.inr ⟨by rfl, rfl⟩
  (try simp only [Act.put, List.setIfInBounds_toArray, List.set_cons_zero, List.set_cons_succ])
  refine wpAnyH_take (i := 16) (oi := { dst := some 53, op := Op.load 24 (Operand.tmp 2), type := 24, pos := "law.go:147", after := #[{ on := 15, ground := Ground.guard }], guard := some (15, true) }) (v := ?_) rfl (by kernel_rfl) (by kernel_rfl) (by kernel_rfl) (fun _ _ _ h => h) ?_ (by assumption) ?_
  rotate_left
  · first | (refine Or.inl ⟨by rfl, ?_⟩; intro w hSw; (try dsimp only at hSw); go_simp; (try with_reducible rfl); done) | exact Or.inr ⟨by rfl, rfl⟩
  (try simp only [Act.put, List.setIfInBounds_toArray, List.set_cons_zero, List.set_cons_succ])
  refine wpAnyH_take (i := 18) (oi := { dst := some 55, op := Op.load 24 (Operand.tmp 3), type := 24, pos := "law.go:147", after := #[{ on := 15, ground := Ground.guard }], guard := some (15, true) }) (v := ?_) rfl (by kernel_rfl) (by kernel_rfl) (by kernel_rfl) (fun _ _ _ h => h) ?_ (by assumption) ?_
  rotate_left
  · first | (refine Or.inl ⟨by rfl, ?_⟩; intro w hSw; (try dsimp only at hSw); go_simp; (try with_reducible rfl); done) | exact Or.inr ⟨by rfl, rfl⟩
  (try simp only [Act.put, List.setIfInBounds_toArray, List.set_cons_zero, List.set_cons_succ])
  refine wpAnyH_ready (rs := [17]) (by kernel_rfl) (by simp) ?_
  refine AllReadyH.cons (o := { dst := some 54, op := Op.call { callee := Callee.value (Operand.func 10), args := #[Operand.tmp 53], argTypes := #[24] }, type := 9, pos := "law.go:147", after := #[{ on := 16, ground := Ground.data }, { on := 15, ground := Ground.chain }, { on := 15, ground := Ground.guard }], guard := some (15, true) }) rfl (fun K hK => ?_) AllReadyH.nil
  go_simp
  (go_at_call_of 10 (Value.agg #[.int .i64 ak, .int .i64 an, .string as']); go_split_ands; refine (text_any ak an as' _ (HL.out.later (Hid.out (by assumption))) HA0.out HA1.out).mono ?_; rintro e w1 ⟨v, rfl, ⟨ra, rfl, hr⟩, hb⟩; obtain rfl : ra = ta := ba_of_list (hr.trans HTA.out.symm); clear hr)
  refine hK.out _ _ ?_ (fun hHeld => ?_)
  · (go_split_ands; refine ⟨?_, ?_, ?_, ?_, ?_, ?_, ?_, ?_⟩; (rw [hb.cell (by simp; omega)]; assumption); (rw [hb.cell (by simp; omega)]; assumption); (rw [hb.cell (by simp; omega)]; assumption); (rw [hb.cell (by simp; omega)]; assumption); (rw [hb.cell (by simp; omega)]; assumption); (rw [hb.cell (by simp; omega)]; assumption); (have := hb.size; omega); exact Lib.hid (bstep (Hid.out (by assumption)) hb))
  clear hK K
  (try simp only [Act.put, List.setIfInBounds_toArray, List.set_cons_zero, List.set_cons_succ])
  refine wpAnyH_ready (rs := [19]) (by kernel_rfl) (by simp) ?_
  refine AllReadyH.cons (o := { dst := some 56, op := Op.call { callee := Callee.value (Operand.func 10), args := #[Operand.tmp 55], argTypes := #[24] }, type := 9, pos := "law.go:147", after := #[{ on := 18, ground := Ground.data }, { on := 17, ground := Ground.chain }, { on := 15, ground := Ground.guard }], guard := some (15, true) }) rfl (fun K hK => ?_) AllReadyH.nil
  go_simp
  (go_at_call_of 10 (Value.agg #[.int .i64 bk, .int .i64 bn, .string bs']); go_split_ands; refine (text_any bk bn bs' _ (HL.out.later (Hid.out (by assumption))) HBB0.out HBB1.out).mono ?_; rintro e w1 ⟨v, rfl, ⟨rb, rfl, hr⟩, hb⟩; obtain rfl : rb = tb := ba_of_list (hr.trans HTB.out.symm); clear hr)
  refine hK.out _ _ ?_ (fun hHeld => ?_)
  · (go_split_ands; refine ⟨?_, ?_, ?_, ?_, ?_, ?_, ?_, ?_⟩; (rw [hb.cell (by simp; omega)]; assumption); (rw [hb.cell (by simp; omega)]; assumption); (rw [hb.cell (by simp; omega)]; assumption); (rw [hb.cell (by simp; omega)]; assumption); (rw [hb.cell (by simp; omega)]; assumption); (rw [hb.cell (by simp; omega)]; assumption); (have := hb.size; omega); exact Lib.hid (bstep (Hid.out (by assumption)) hb))
  clear hK K
  (try simp only [Act.put, List.setIfInBounds_toArray, List.set_cons_zero, List.set_cons_succ])
  refine wpAnyH_take (i := 20) (oi := { dst := some 57, op := Op.binOp BinOp.neq 9 (Operand.tmp 54) (Operand.tmp 56) 9, type := 4, pos := "law.go:147", after := #[{ on := 17, ground := Ground.data }, { on := 19, ground := Ground.data }, { on := 15, ground := Ground.guard }], guard := some (15, true) }) (v := ?_) rfl (by kernel_rfl) (by kernel_rfl) (by kernel_rfl) (fun _ _ _ h => h) ?_ (by assumption) ?_
  rotate_left
  · first | (refine Or.inl ⟨by rfl, ?_⟩; intro w hSw; (try dsimp only at hSw); go_simp; (try with_reducible rfl); done) | exact Or.inr ⟨by rfl, rfl⟩
  (try simp only [Act.put, List.setIfInBounds_toArray, List.set_cons_zero, List.set_cons_succ])
  refine wpAnyH_take (i := 21) (oi := { dst := some 58, op := Op.pick (Operand.tmp 52) (Operand.tmp 57) (Operand.const (Value.bool false)), type := 4, pos := "law.go:147", after := #[{ on := 15, ground := Ground.data }, { on := 20, ground := Ground.data }], guard := none }) (v := ?_) rfl (by kernel_rfl) (by kernel_rfl) (by kernel_rfl) (fun _ _ _ h => h) ?_ (by assumption) ?_
  rotate_left
  · first | (refine Or.inl ⟨by rfl, ?_⟩; intro w hSw; (try dsimp only at hSw); go_simp; (try with_reducible rfl); done) | exact Or.inr ⟨by rfl, rfl⟩
  (try simp only [Act.put, List.setIfInBounds_toArray, List.set_cons_zero, List.set_cons_succ])
  refine wpAnyH_take (i := 22) (oi := { dst := some 59, op := Op.move (Operand.tmp 58), type := 4, pos := "law.go:147", after := #[{ on := 21, ground := Ground.data }, { on := 19, ground := Ground.chain }], guard := none }) (v := ?_) rfl (by kernel_rfl) (by kernel_rfl) (by kernel_rfl) (fun _ _ _ h => h) ?_ (by assumption) ?_
  rotate_left
  · first | (refine Or.inl ⟨by rfl, ?_⟩; intro w hSw; (try dsimp only at hSw); go_simp; (try with_reducible rfl); done) | exact Or.inr ⟨by rfl, rfl⟩
  (try simp only [Act.put, List.setIfInBounds_toArray, List.set_cons_zero, List.set_cons_succ])
  refine wpAnyH_take (i := 23) (oi := { dst := some 60, op := Op.fieldAddr 24 (Operand.tmp 2) 0, type := 0, pos := "law.go:147", after := #[{ on := 22, ground := Ground.guard }], guard := some (22, true) }) (v := ?_) rfl (by kernel_rfl) (by kernel_rfl) (by kernel_rfl) (fun _ _ _ h => h) ?_ (by assumption) ?_
  rotate_left
  · first | (refine Or.inl ⟨by rfl, ?_⟩; intro w hSw; (try dsimp only at hSw); go_simp; (try with_reducible rfl); done) | exact Or.inr ⟨by rfl, rfl⟩
  (try simp only [Act.put, List.setIfInBounds_toArray, List.set_cons_zero, List.set_cons_succ])
  refine wpAnyH_take (i := 24) (oi := { dst := some 61, op := Op.load 22 (Operand.tmp 60), type := 22, pos := "law.go:147", after := #[{ on := 23, ground := Ground.data }, { on := 22, ground := Ground.guard }], guard := some (22, true) }) (v := ?_) rfl (by kernel_rfl) (by kernel_rfl) (by kernel_rfl) (fun _ _ _ h => h) ?_ (by assumption) ?_
  rotate_left
  · first | (refine Or.inl ⟨by rfl, ?_⟩; intro w hSw; (try dsimp only at hSw); go_simp; (try with_reducible rfl); done) | exact Or.inr ⟨by rfl, rfl⟩
  (try simp only [Act.put, List.setIfInBounds_toArray, List.set_cons_zero, List.set_cons_succ])
  refine wpAnyH_take (i := 25) (oi := { dst := some 62, op := Op.binOp BinOp.neq 22 (Operand.tmp 61) (Operand.const (Value.int IntKind.i64 0)) 22, type := 4, pos := "law.go:147", after := #[{ on := 24, ground := Ground.data }, { on := 22, ground := Ground.guard }], guard := some (22, true) }) (v := ?_) rfl (by kernel_rfl) (by kernel_rfl) (by kernel_rfl) (fun _ _ _ h => h) ?_ (by assumption) ?_
  rotate_left
  · first | (refine Or.inl ⟨by rfl, ?_⟩; intro w hSw; (try dsimp only at hSw); go_simp; (try with_reducible rfl); done) | exact Or.inr ⟨by rfl, rfl⟩
  (try simp only [Act.put, List.setIfInBounds_toArray, List.set_cons_zero, List.set_cons_succ])
  refine wpAnyH_take (i := 26) (oi := { dst := some 63, op := Op.move (Operand.tmp 62), type := 4, pos := "law.go:147", after := #[{ on := 25, ground := Ground.data }, { on := 22, ground := Ground.chain }, { on := 22, ground := Ground.guard }], guard := some (22, true) }) (v := ?_) rfl (by kernel_rfl) (by kernel_rfl) (by kernel_rfl) (fun _ _ _ h => h) ?_ (by assumption) ?_
  rotate_left
  · first | (refine Or.inl ⟨by rfl, ?_⟩; intro w hSw; (try dsimp only at hSw); go_simp; (try with_reducible rfl); done) | exact Or.inr ⟨by rfl, rfl⟩
  (try simp only [Act.put, List.setIfInBounds_toArray, List.set_cons_zero, List.set_cons_succ])
  refine wpAnyH_take (i := 27) (oi := { dst := some 64, op := Op.move (Operand.tmp 5), type := 3, pos := "law.go:147", after := #[{ on := 26, ground := Ground.guard }], guard := some (26, false) }) (v := undef) rfl (by kernel_rfl) (by kernel_rfl) (by kernel_rfl) (fun _ _ _ h => h) (Or.inr ⟨by rfl, rfl⟩) (by assumption) ?_
  (try simp only [Act.put, List.setIfInBounds_toArray, List.set_cons_zero, List.set_cons_succ])
  refine wpAnyH_take (i := 28) (oi := { dst := some 65, op := Op.binOp BinOp.lss 3 (Operand.tmp 64) (Operand.const (Value.int IntKind.i64 0)) 3, type := 4, pos := "law.go:147", after := #[{ on := 27, ground := Ground.data }, { on := 26, ground := Ground.guard }], guard := some (26, false) }) (v := undef) rfl (by kernel_rfl) (by kernel_rfl) (by kernel_rfl) (fun _ _ _ h => h) (Or.inr ⟨by rfl, rfl⟩) (by assumption) ?_
  (try simp only [Act.put, List.setIfInBounds_toArray, List.set_cons_zero, List.set_cons_succ])
  refine wpAnyH_take (i := 29) (oi := { dst := some 66, op := Op.pick (Operand.tmp 63) (Operand.const (Value.bool true)) (Operand.tmp 65), type := 4, pos := "law.go:147", after := #[{ on := 26, ground := Ground.data }, { on := 28, ground := Ground.data }, { on := 22, ground := Ground.guard }], guard := some (22, true) }) (v := ?_) rfl (by kernel_rfl) (by kernel_rfl) (by kernel_rfl) (fun _ _ _ h => h) ?_ (by assumption) ?_
  rotate_left
  · first | (refine Or.inl ⟨by rfl, ?_⟩; intro w hSw; (try dsimp only at hSw); go_simp; (try with_reducible rfl); done) | exact Or.inr ⟨by rfl, rfl⟩
  (try simp only [Act.put, List.setIfInBounds_toArray, List.set_cons_zero, List.set_cons_succ])
  refine wpAnyH_take (i := 30) (oi := { dst := some 67, op := Op.pick (Operand.tmp 59) (Operand.tmp 66) (Operand.const (Value.bool false)), type := 4, pos := "law.go:147", after := #[{ on := 22, ground := Ground.data }, { on := 29, ground := Ground.data }], guard := none }) (v := ?_) rfl (by kernel_rfl) (by kernel_rfl) (by kernel_rfl) (fun _ _ _ h => h) ?_ (by assumption) ?_
  rotate_left
  · first | (refine Or.inl ⟨by rfl, ?_⟩; intro w hSw; (try dsimp only at hSw); go_simp; (try with_reducible rfl); done) | exact Or.inr ⟨by rfl, rfl⟩
  (try simp only [Act.put, List.setIfInBounds_toArray, List.set_cons_zero, List.set_cons_succ])
  refine wpAnyH_take (i := 31) (oi := { dst := some 4, op := Op.assign (Operand.tmp 67), type := 4, pos := "law.go:147", after := #[{ on := 30, ground := Ground.data }, { on := 26, ground := Ground.chain }, { on := 0, ground := Ground.phase }, { on := 1, ground := Ground.phase }, { on := 2, ground := Ground.phase }, { on := 3, ground := Ground.phase }, { on := 4, ground := Ground.phase }, { on := 5, ground := Ground.phase }, { on := 6, ground := Ground.phase }, { on := 7, ground := Ground.phase }, { on := 8, ground := Ground.phase }, { on := 9, ground := Ground.phase }, { on := 10, ground := Ground.phase }, { on := 11, ground := Ground.phase }, { on := 12, ground := Ground.phase }, { on := 13, ground := Ground.phase }, { on := 14, ground := Ground.phase }, { on := 15, ground := Ground.phase }, { on := 16, ground := Ground.phase }, { on := 17, ground := Ground.phase }, { on := 18, ground := Ground.phase }, { on := 19, ground := Ground.phase }, { on := 20, ground := Ground.phase }, { on := 21, ground := Ground.phase }, { on := 22, ground := Ground.phase }, { on := 23, ground := Ground.phase }, { on := 24, ground := Ground.phase }, { on := 25, ground := Ground.phase }, { on := 26, ground := Ground.phase }, { on := 27, ground := Ground.phase }, { on := 28, ground := Ground.phase }, { on := 29, ground := Ground.phase }, { on := 30, ground := Ground.phase }], guard := none }) (v := ?_) rfl (by kernel_rfl) (by kernel_rfl) (by kernel_rfl) (fun _ _ _ h => h) ?_ (by assumption) ?_
  rotate_left
  · first | (refine Or.inl ⟨by rfl, ?_⟩; intro w hSw; (try dsimp only at hSw); go_simp; (try with_reducible rfl); done) | exact Or.inr ⟨by rfl, rfl⟩
  (try simp only [Act.put, List.setIfInBounds_toArray, List.set_cons_zero, List.set_cons_succ])
  refine wpAnyH_done (by kernel_rfl) ?_ _
  refine NoPanic.normal ?_
  go_split_ands
  have HBW : Hid (Below w.heap.size w w1) := by assumption
  go_wp2
  go_ret
  exact ⟨rfl, HBW.out⟩

set_option maxRecDepth 100000 in
set_option maxHeartbeats 3200000 in
theorem kinds_gt (ak an bk bn : Int) (as' bs' : ByteArray) (w : World) (hl : Laid w) (h1 : ¬ (500 : Int) < as'.size) (h2 : ¬ (500 : Int) < bs'.size) (ha : rightB ak an as' = true) (hb : rightB bk bn bs' = true)
    (ha0 : -9223372036854775808 ≤ an) (ha1 : an ≤ 9223372036854775807) (hb0 : -9223372036854775808 ≤ bn) (hb1 : bn ≤ 9223372036854775807) (hk : ¬ ak = bk) (hgt : ¬ ak < bk) (hz : ¬ ak = 0) :
    Calls Tryd.prog 4 #[.agg #[.int .i64 ak, .int .i64 an, .string as'], .agg #[.int .i64 bk, .int .i64 bn, .string bs']] w fun e w' => e = .returned (.bool true) ∧ Below w.heap.size w w' := by
  have HL := Lib.hid hl; clear hl
  have HA := Lib.hid ha; have HB := Lib.hid hb; have HA0 := Lib.hid ha0; have HA1 := Lib.hid ha1; have HBB0 := Lib.hid hb0; have HBB1 := Lib.hid hb1
  clear ha hb ha0 ha1 hb0 hb1
  have hord : ordV ⟨ak, an, as'⟩ ⟨bk, bn, bs'⟩ = 1 := by simp [ordV, or3, cmpI]; omega
  have HO := Lib.hid hord; clear hord
  have HZ := Lib.hid hz
  have hd : decide (ak < bk) = false := decide_eq_false hgt
  clear hz hgt
  go_enter Tryd.func4, Tryd.ntmps4
  go_wp2_with (first | (go_at_call 11; refine (right_any _ _ _ _).mono ?_; rintro e w1 ⟨rfl, hb⟩; (first | rw [HA.out] | rw [HB.out]); have hz := hb.size; (try simp only [World.size_alloc, World.size_setCell, World.size_drew] at hz); (try (have z0 : w.heap.size < w1.heap.size := (by omega); have y0 := fun o => hb.cell (p := ⟨w.heap.size, o, none⟩) (by (try simp only [World.size_alloc, World.size_setCell, World.size_drew]); omega); have x0 := fun o => hb.frozen (p := ⟨w.heap.size, o, none⟩) (by (try simp only [World.size_alloc, World.size_setCell, World.size_drew]); omega); have q0 := tag_below hb (w.heap.size) (by (try simp only [World.size_alloc, World.size_setCell, World.size_drew]); omega); (try simp [go_sem] at y0); (try simp [go_sem] at x0); (try simp [tag_alloc, tag_set, tag_drew, tagObj] at q0))); (try (have z1 : w.heap.size + 1 < w1.heap.size := (by omega); have y1 := fun o => hb.cell (p := ⟨w.heap.size + 1, o, none⟩) (by (try simp only [World.size_alloc, World.size_setCell, World.size_drew]); omega); have x1 := fun o => hb.frozen (p := ⟨w.heap.size + 1, o, none⟩) (by (try simp only [World.size_alloc, World.size_setCell, World.size_drew]); omega); have q1 := tag_below hb (w.heap.size + 1) (by (try simp only [World.size_alloc, World.size_setCell, World.size_drew]); omega); (try simp [go_sem] at y1); (try simp [go_sem] at x1); (try simp [tag_alloc, tag_set, tag_drew, tagObj] at q1))); (try (have z2 : w.heap.size + 1 + 1 < w1.heap.size := (by omega); have y2 := fun o => hb.cell (p := ⟨w.heap.size + 1 + 1, o, none⟩) (by (try simp only [World.size_alloc, World.size_setCell, World.size_drew]); omega); have x2 := fun o => hb.frozen (p := ⟨w.heap.size + 1 + 1, o, none⟩) (by (try simp only [World.size_alloc, World.size_setCell, World.size_drew]); omega); have q2 := tag_below hb (w.heap.size + 1 + 1) (by (try simp only [World.size_alloc, World.size_setCell, World.size_drew]); omega); (try simp [go_sem] at y2); (try simp [go_sem] at x2); (try simp [tag_alloc, tag_set, tag_drew, tagObj] at q2))); (try (have z3 : w.heap.size + 1 + 1 + 1 < w1.heap.size := (by omega); have y3 := fun o => hb.cell (p := ⟨w.heap.size + 1 + 1 + 1, o, none⟩) (by (try simp only [World.size_alloc, World.size_setCell, World.size_drew]); omega); have x3 := fun o => hb.frozen (p := ⟨w.heap.size + 1 + 1 + 1, o, none⟩) (by (try simp only [World.size_alloc, World.size_setCell, World.size_drew]); omega); have q3 := tag_below hb (w.heap.size + 1 + 1 + 1) (by (try simp only [World.size_alloc, World.size_setCell, World.size_drew]); omega); (try simp [go_sem] at y3); (try simp [go_sem] at x3); (try simp [tag_alloc, tag_set, tag_drew, tagObj] at q3))); (try (have z4 : w.heap.size + 1 + 1 + 1 + 1 < w1.heap.size := (by omega); have y4 := fun o => hb.cell (p := ⟨w.heap.size + 1 + 1 + 1 + 1, o, none⟩) (by (try simp only [World.size_alloc, World.size_setCell, World.size_drew]); omega); have x4 := fun o => hb.frozen (p := ⟨w.heap.size + 1 + 1 + 1 + 1, o, none⟩) (by (try simp only [World.size_alloc, World.size_setCell, World.size_drew]); omega); have q4 := tag_below hb (w.heap.size + 1 + 1 + 1 + 1) (by (try simp only [World.size_alloc, World.size_setCell, World.size_drew]); omega); (try simp [go_sem] at y4); (try simp [go_sem] at x4); (try simp [tag_alloc, tag_set, tag_drew, tagObj] at q4))); (try (have z5 : w.heap.size + 1 + 1 + 1 + 1 + 1 < w1.heap.size := (by omega); have y5 := fun o => hb.cell (p := ⟨w.heap.size + 1 + 1 + 1 + 1 + 1, o, none⟩) (by (try simp only [World.size_alloc, World.size_setCell, World.size_drew]); omega); have x5 := fun o => hb.frozen (p := ⟨w.heap.size + 1 + 1 + 1 + 1 + 1, o, none⟩) (by (try simp only [World.size_alloc, World.size_setCell, World.size_drew]); omega); have q5 := tag_below hb (w.heap.size + 1 + 1 + 1 + 1 + 1) (by (try simp only [World.size_alloc, World.size_setCell, World.size_drew]); omega); (try simp [go_sem] at y5); (try simp [go_sem] at x5); (try simp [tag_alloc, tag_set, tag_drew, tagObj] at q5))); (try (have z6 : w.heap.size + 1 + 1 + 1 + 1 + 1 + 1 < w1.heap.size := (by omega); have y6 := fun o => hb.cell (p := ⟨w.heap.size + 1 + 1 + 1 + 1 + 1 + 1, o, none⟩) (by (try simp only [World.size_alloc, World.size_setCell, World.size_drew]); omega); have x6 := fun o => hb.frozen (p := ⟨w.heap.size + 1 + 1 + 1 + 1 + 1 + 1, o, none⟩) (by (try simp only [World.size_alloc, World.size_setCell, World.size_drew]); omega); have q6 := tag_below hb (w.heap.size + 1 + 1 + 1 + 1 + 1 + 1) (by (try simp only [World.size_alloc, World.size_setCell, World.size_drew]); omega); (try simp [go_sem] at y6); (try simp [go_sem] at x6); (try simp [tag_alloc, tag_set, tag_drew, tagObj] at q6))); (try (have z7 : w.heap.size + 1 + 1 + 1 + 1 + 1 + 1 + 1 < w1.heap.size := (by omega); have y7 := fun o => hb.cell (p := ⟨w.heap.size + 1 + 1 + 1 + 1 + 1 + 1 + 1, o, none⟩) (by (try simp only [World.size_alloc, World.size_setCell, World.size_drew]); omega); have x7 := fun o => hb.frozen (p := ⟨w.heap.size + 1 + 1 + 1 + 1 + 1 + 1 + 1, o, none⟩) (by (try simp only [World.size_alloc, World.size_setCell, World.size_drew]); omega); have q7 := tag_below hb (w.heap.size + 1 + 1 + 1 + 1 + 1 + 1 + 1) (by (try simp only [World.size_alloc, World.size_setCell, World.size_drew]); omega); (try simp [go_sem] at y7); (try simp [go_sem] at x7); (try simp [tag_alloc, tag_set, tag_drew, tagObj] at q7))); obtain ⟨hc, hf⟩ := bcell hb; have ht := tag_below hb))
  refine (order_any _ _ _ _ _ _ _).mono ?_
  rintro e w1 ⟨rfl, hb⟩
  rw [HO.out]
  have hz := hb.size; (try simp only [World.size_alloc, World.size_setCell, World.size_drew] at hz); (try (have z0 : w.heap.size < w1.heap.size := (by omega); have y0 := fun o => hb.cell (p := ⟨w.heap.size, o, none⟩) (by (try simp only [World.size_alloc, World.size_setCell, World.size_drew]); omega); have x0 := fun o => hb.frozen (p := ⟨w.heap.size, o, none⟩) (by (try simp only [World.size_alloc, World.size_setCell, World.size_drew]); omega); have q0 := tag_below hb (w.heap.size) (by (try simp only [World.size_alloc, World.size_setCell, World.size_drew]); omega); (try simp [go_sem] at y0); (try simp [go_sem] at x0); (try simp [tag_alloc, tag_set, tag_drew, tagObj] at q0))); (try (have z1 : w.heap.size + 1 < w1.heap.size := (by omega); have y1 := fun o => hb.cell (p := ⟨w.heap.size + 1, o, none⟩) (by (try simp only [World.size_alloc, World.size_setCell, World.size_drew]); omega); have x1 := fun o => hb.frozen (p := ⟨w.heap.size + 1, o, none⟩) (by (try simp only [World.size_alloc, World.size_setCell, World.size_drew]); omega); have q1 := tag_below hb (w.heap.size + 1) (by (try simp only [World.size_alloc, World.size_setCell, World.size_drew]); omega); (try simp [go_sem] at y1); (try simp [go_sem] at x1); (try simp [tag_alloc, tag_set, tag_drew, tagObj] at q1))); (try (have z2 : w.heap.size + 1 + 1 < w1.heap.size := (by omega); have y2 := fun o => hb.cell (p := ⟨w.heap.size + 1 + 1, o, none⟩) (by (try simp only [World.size_alloc, World.size_setCell, World.size_drew]); omega); have x2 := fun o => hb.frozen (p := ⟨w.heap.size + 1 + 1, o, none⟩) (by (try simp only [World.size_alloc, World.size_setCell, World.size_drew]); omega); have q2 := tag_below hb (w.heap.size + 1 + 1) (by (try simp only [World.size_alloc, World.size_setCell, World.size_drew]); omega); (try simp [go_sem] at y2); (try simp [go_sem] at x2); (try simp [tag_alloc, tag_set, tag_drew, tagObj] at q2))); (try (have z3 : w.heap.size + 1 + 1 + 1 < w1.heap.size := (by omega); have y3 := fun o => hb.cell (p := ⟨w.heap.size + 1 + 1 + 1, o, none⟩) (by (try simp only [World.size_alloc, World.size_setCell, World.size_drew]); omega); have x3 := fun o => hb.frozen (p := ⟨w.heap.size + 1 + 1 + 1, o, none⟩) (by (try simp only [World.size_alloc, World.size_setCell, World.size_drew]); omega); have q3 := tag_below hb (w.heap.size + 1 + 1 + 1) (by (try simp only [World.size_alloc, World.size_setCell, World.size_drew]); omega); (try simp [go_sem] at y3); (try simp [go_sem] at x3); (try simp [tag_alloc, tag_set, tag_drew, tagObj] at q3))); (try (have z4 : w.heap.size + 1 + 1 + 1 + 1 < w1.heap.size := (by omega); have y4 := fun o => hb.cell (p := ⟨w.heap.size + 1 + 1 + 1 + 1, o, none⟩) (by (try simp only [World.size_alloc, World.size_setCell, World.size_drew]); omega); have x4 := fun o => hb.frozen (p := ⟨w.heap.size + 1 + 1 + 1 + 1, o, none⟩) (by (try simp only [World.size_alloc, World.size_setCell, World.size_drew]); omega); have q4 := tag_below hb (w.heap.size + 1 + 1 + 1 + 1) (by (try simp only [World.size_alloc, World.size_setCell, World.size_drew]); omega); (try simp [go_sem] at y4); (try simp [go_sem] at x4); (try simp [tag_alloc, tag_set, tag_drew, tagObj] at q4))); (try (have z5 : w.heap.size + 1 + 1 + 1 + 1 + 1 < w1.heap.size := (by omega); have y5 := fun o => hb.cell (p := ⟨w.heap.size + 1 + 1 + 1 + 1 + 1, o, none⟩) (by (try simp only [World.size_alloc, World.size_setCell, World.size_drew]); omega); have x5 := fun o => hb.frozen (p := ⟨w.heap.size + 1 + 1 + 1 + 1 + 1, o, none⟩) (by (try simp only [World.size_alloc, World.size_setCell, World.size_drew]); omega); have q5 := tag_below hb (w.heap.size + 1 + 1 + 1 + 1 + 1) (by (try simp only [World.size_alloc, World.size_setCell, World.size_drew]); omega); (try simp [go_sem] at y5); (try simp [go_sem] at x5); (try simp [tag_alloc, tag_set, tag_drew, tagObj] at q5))); (try (have z6 : w.heap.size + 1 + 1 + 1 + 1 + 1 + 1 < w1.heap.size := (by omega); have y6 := fun o => hb.cell (p := ⟨w.heap.size + 1 + 1 + 1 + 1 + 1 + 1, o, none⟩) (by (try simp only [World.size_alloc, World.size_setCell, World.size_drew]); omega); have x6 := fun o => hb.frozen (p := ⟨w.heap.size + 1 + 1 + 1 + 1 + 1 + 1, o, none⟩) (by (try simp only [World.size_alloc, World.size_setCell, World.size_drew]); omega); have q6 := tag_below hb (w.heap.size + 1 + 1 + 1 + 1 + 1 + 1) (by (try simp only [World.size_alloc, World.size_setCell, World.size_drew]); omega); (try simp [go_sem] at y6); (try simp [go_sem] at x6); (try simp [tag_alloc, tag_set, tag_drew, tagObj] at q6))); (try (have z7 : w.heap.size + 1 + 1 + 1 + 1 + 1 + 1 + 1 < w1.heap.size := (by omega); have y7 := fun o => hb.cell (p := ⟨w.heap.size + 1 + 1 + 1 + 1 + 1 + 1 + 1, o, none⟩) (by (try simp only [World.size_alloc, World.size_setCell, World.size_drew]); omega); have x7 := fun o => hb.frozen (p := ⟨w.heap.size + 1 + 1 + 1 + 1 + 1 + 1 + 1, o, none⟩) (by (try simp only [World.size_alloc, World.size_setCell, World.size_drew]); omega); have q7 := tag_below hb (w.heap.size + 1 + 1 + 1 + 1 + 1 + 1 + 1) (by (try simp only [World.size_alloc, World.size_setCell, World.size_drew]); omega); (try simp [go_sem] at y7); (try simp [go_sem] at x7); (try simp [tag_alloc, tag_set, tag_drew, tagObj] at q7))); obtain ⟨hc, hf⟩ := bcell hb; have ht := tag_below hb
  go_wp2_with fail
  have c0 : ∀ o, w1.cell? ⟨w.heap.size, o, none⟩ = #[Value.int .i64 ak, .int .i64 an, .string as'][o]? := fun o => by simp [go_sem, *]
  have c1 : ∀ o, w1.cell? ⟨w.heap.size + 1, o, none⟩ = #[Value.int .i64 bk, .int .i64 bn, .string bs'][o]? := fun o => by simp [go_sem, *]
  have hbw : Below w.heap.size w w1 := by ((repeat with_reducible first | exact Below.refl _ _ | apply b_alloc | apply b_drewN | apply b_drew | refine b_set ?_ ?_ _ | (refine bstep ?_ (by assumption))); (all_goals (simp; try omega)))
  have C7 : w.heap.size + 1 < w1.heap.size := by omega
  have C0 := c0 0; have C1 := c0 1; have C2 := c0 2; have C3 := c1 0; have C4 := c1 1; have C5 := c1 2
  simp at C0 C1 C2 C3 C4 C5
  have CB : Hid (Below w.heap.size w w1.drew) := Lib.hid hbw.drew
  have EB : Hid (Below w.heap.size w w1) := Lib.hid hbw
  clear c0 c1 hbw
  obtain ⟨ta, hta⟩ : ∃ t : ByteArray, t.data.toList = textL ak an as' := ⟨⟨(textL ak an as').toArray⟩, by simp⟩
  obtain ⟨tb, htb⟩ : ∃ t : ByteArray, t.data.toList = textL bk bn bs' := ⟨⟨(textL bk bn bs').toArray⟩, by simp⟩
  have hne : (ta.toList == tb.toList) = false := by rw [toList_beq, ByteArray.toList_eq, hta, htb, decide_eq_false (fun h => hk (text_inj HA.out HA0.out HA1.out HB.out HBB0.out HBB1.out h).1)]
  have HTA := Lib.hid hta; have HTB := Lib.hid htb
  clear hta htb
  have hzn : (ak != 0) = true := by simp [HZ.out]
  refine wp_region_noPanic ?_
  refine wp_region_held_drew (S := (fun w' => w'.cell? ⟨w.heap.size, 0, none⟩ = some (.int .i64 ak) ∧ w'.cell? ⟨w.heap.size, 1, none⟩ = some (.int .i64 an) ∧ w'.cell? ⟨w.heap.size, 2, none⟩ = some (.string as') ∧ w'.cell? ⟨w.heap.size + 1, 0, none⟩ = some (.int .i64 bk) ∧ w'.cell? ⟨w.heap.size + 1, 1, none⟩ = some (.int .i64 bn) ∧ w'.cell? ⟨w.heap.size + 1, 2, none⟩ = some (.string bs') ∧ w.heap.size + 1 < w'.heap.size ∧ Hid (Below w.heap.size w w'))) (by kernel_rfl) ⟨C0, C1, C2, C3, C4, C5, C7, CB⟩ (fun hHeld => ?_)
  refine wpAnyH_ready (rs := [0]) (by kernel_rfl) (by simp) ?_
  refine AllReadyH.cons (o := { dst := some 37, op := Op.call { callee := Callee.value (Operand.func 8), args := #[], argTypes := #[] }, type := 4, pos := "law.go:147", after := #[], guard := none }) rfl (fun K hK => ?_) AllReadyH.nil
  go_simp
  (go_at_call 8; go_split_ands; refine (alive02 _ (HL.out.later (Hid.out (by assumption)))).mono ?_; rintro e w1 ⟨rfl, hb⟩)
  refine hK.out _ _ ?_ (fun hHeld => ?_)
  · (go_split_ands; refine ⟨?_, ?_, ?_, ?_, ?_, ?_, ?_, ?_⟩; (rw [hb.cell (by simp; omega)]; assumption); (rw [hb.cell (by simp; omega)]; assumption); (rw [hb.cell (by simp; omega)]; assumption); (rw [hb.cell (by simp; omega)]; assumption); (rw [hb.cell (by simp; omega)]; assumption); (rw [hb.cell (by simp; omega)]; assumption); (have := hb.size; omega); exact Lib.hid (bstep (Hid.out (by assumption)) hb))
  clear hK K
  (try simp only [Act.put, List.setIfInBounds_toArray, List.set_cons_zero, List.set_cons_succ])
  refine wpAnyH_take (i := 1) (oi := { dst := some 38, op := Op.move (Operand.tmp 37), type := 4, pos := "law.go:147", after := #[{ on := 0, ground := Ground.data }, { on := 0, ground := Ground.chain }], guard := none }) (v := ?_) rfl (by kernel_rfl) (by kernel_rfl) (by kernel_rfl) (fun _ _ _ h => h) ?_ (by assumption) ?_
  rotate_left
  · first | (refine Or.inl ⟨by rfl, ?_⟩; intro w hSw; (try dsimp only at hSw); go_simp; (try with_reducible rfl); done) | exact Or.inr ⟨by rfl, rfl⟩
  (try simp only [Act.put, List.setIfInBounds_toArray, List.set_cons_zero, List.set_cons_succ])
  refine wpAnyH_take (i := 2) (oi := { dst := some 39, op := Op.move (Operand.tmp 5), type := 3, pos := "law.go:147", after := #[{ on := 1, ground := Ground.guard }], guard := some (1, true) }) (v := ?_) rfl (by kernel_rfl) (by kernel_rfl) (by kernel_rfl) (fun _ _ _ h => h) ?_ (by assumption) ?_
  rotate_left
  · first | (refine Or.inl ⟨by rfl, ?_⟩; intro w hSw; (try dsimp only at hSw); go_simp; (try with_reducible rfl); done) | exact Or.inr ⟨by rfl, rfl⟩
  (try simp only [Act.put, List.setIfInBounds_toArray, List.set_cons_zero, List.set_cons_succ])
  refine wpAnyH_take (i := 3) (oi := { dst := some 40, op := Op.binOp BinOp.lss 3 (Operand.tmp 39) (Operand.const (Value.int IntKind.i64 0)) 3, type := 4, pos := "law.go:147", after := #[{ on := 2, ground := Ground.data }, { on := 1, ground := Ground.guard }], guard := some (1, true) }) (v := ?_) rfl (by kernel_rfl) (by kernel_rfl) (by kernel_rfl) (fun _ _ _ h => h) ?_ (by assumption) ?_
  rotate_left
  · first | (refine Or.inl ⟨by rfl, ?_⟩; intro w hSw; (try dsimp only at hSw); go_simp; (try with_reducible rfl); done) | exact Or.inr ⟨by rfl, rfl⟩
  (try simp only [Act.put, List.setIfInBounds_toArray, List.set_cons_zero, List.set_cons_succ])
  refine wpAnyH_take (i := 4) (oi := { dst := some 41, op := Op.fieldAddr 24 (Operand.tmp 2) 0, type := 0, pos := "law.go:147", after := #[{ on := 1, ground := Ground.guard }], guard := some (1, true) }) (v := ?_) rfl (by kernel_rfl) (by kernel_rfl) (by kernel_rfl) (fun _ _ _ h => h) ?_ (by assumption) ?_
  rotate_left
  · first | (refine Or.inl ⟨by rfl, ?_⟩; intro w hSw; (try dsimp only at hSw); go_simp; (try with_reducible rfl); done) | exact Or.inr ⟨by rfl, rfl⟩
  (try simp only [Act.put, List.setIfInBounds_toArray, List.set_cons_zero, List.set_cons_succ])
  refine wpAnyH_take (i := 5) (oi := { dst := some 42, op := Op.load 22 (Operand.tmp 41), type := 22, pos := "law.go:147", after := #[{ on := 4, ground := Ground.data }, { on := 1, ground := Ground.guard }], guard := some (1, true) }) (v := ?_) rfl (by kernel_rfl) (by kernel_rfl) (by kernel_rfl) (fun _ _ _ h => h) ?_ (by assumption) ?_
  rotate_left
  · first | (refine Or.inl ⟨by rfl, ?_⟩; intro w hSw; (try dsimp only at hSw); go_simp; (try with_reducible rfl); done) | exact Or.inr ⟨by rfl, rfl⟩
  (try simp only [Act.put, List.setIfInBounds_toArray, List.set_cons_zero, List.set_cons_succ])
  refine wpAnyH_take (i := 6) (oi := { dst := some 43, op := Op.fieldAddr 24 (Operand.tmp 3) 0, type := 0, pos := "law.go:147", after := #[{ on := 1, ground := Ground.guard }], guard := some (1, true) }) (v := ?_) rfl (by kernel_rfl) (by kernel_rfl) (by kernel_rfl) (fun _ _ _ h => h) ?_ (by assumption) ?_
  rotate_left
  · first | (refine Or.inl ⟨by rfl, ?_⟩; intro w hSw; (try dsimp only at hSw); go_simp; (try with_reducible rfl); done) | exact Or.inr ⟨by rfl, rfl⟩
  (try simp only [Act.put, List.setIfInBounds_toArray, List.set_cons_zero, List.set_cons_succ])
  refine wpAnyH_take (i := 7) (oi := { dst := some 44, op := Op.load 22 (Operand.tmp 43), type := 22, pos := "law.go:147", after := #[{ on := 6, ground := Ground.data }, { on := 1, ground := Ground.guard }], guard := some (1, true) }) (v := ?_) rfl (by kernel_rfl) (by kernel_rfl) (by kernel_rfl) (fun _ _ _ h => h) ?_ (by assumption) ?_
  rotate_left
  · first | (refine Or.inl ⟨by rfl, ?_⟩; intro w hSw; (try dsimp only at hSw); go_simp; (try with_reducible rfl); done) | exact Or.inr ⟨by rfl, rfl⟩
  (try simp only [Act.put, List.setIfInBounds_toArray, List.set_cons_zero, List.set_cons_succ])
  refine wpAnyH_take (i := 8) (oi := { dst := some 45, op := Op.binOp BinOp.lss 22 (Operand.tmp 42) (Operand.tmp 44) 22, type := 4, pos := "law.go:147", after := #[{ on := 5, ground := Ground.data }, { on := 7, ground := Ground.data }, { on := 1, ground := Ground.guard }], guard := some (1, true) }) (v := ?_) rfl (by kernel_rfl) (by kernel_rfl) (by kernel_rfl) (fun _ _ _ h => h) ?_ (by assumption) ?_
  rotate_left
  · first | (refine Or.inl ⟨by rfl, ?_⟩; intro w hSw; (try dsimp only at hSw); go_simp; (try with_reducible rfl); done) | exact Or.inr ⟨by rfl, rfl⟩
  (try simp only [Act.put, List.setIfInBounds_toArray, List.set_cons_zero, List.set_cons_succ])
  refine wpAnyH_take (i := 9) (oi := { dst := some 46, op := Op.binOp BinOp.eql 4 (Operand.tmp 40) (Operand.tmp 45) 4, type := 4, pos := "law.go:147", after := #[{ on := 3, ground := Ground.data }, { on := 8, ground := Ground.data }, { on := 1, ground := Ground.guard }], guard := some (1, true) }) (v := ?_) rfl (by kernel_rfl) (by kernel_rfl) (by kernel_rfl) (fun _ _ _ h => h) ?_ (by assumption) ?_
  rotate_left
  · first | (refine Or.inl ⟨by rfl, ?_⟩; intro w hSw; (try dsimp only at hSw); go_simp; (try with_reducible rfl); done) | exact Or.inr ⟨by rfl, rfl⟩
  (try simp only [Act.put, List.setIfInBounds_toArray, List.set_cons_zero, List.set_cons_succ])
  refine wpAnyH_take (i := 10) (oi := { dst := some 47, op := Op.pick (Operand.tmp 38) (Operand.tmp 46) (Operand.const (Value.bool false)), type := 4, pos := "law.go:147", after := #[{ on := 1, ground := Ground.data }, { on := 9, ground := Ground.data }], guard := none }) (v := ?_) rfl (by kernel_rfl) (by kernel_rfl) (by kernel_rfl) (fun _ _ _ h => h) ?_ (by assumption) ?_
  rotate_left
  · first | (refine Or.inl ⟨by rfl, ?_⟩; intro w hSw; (try dsimp only at hSw); go_simp; (try with_reducible rfl); done) | exact Or.inr ⟨by rfl, rfl⟩
  (try simp only [Act.put, List.setIfInBounds_toArray, List.set_cons_zero, List.set_cons_succ])
  refine wpAnyH_take (i := 11) (oi := { dst := some 48, op := Op.move (Operand.tmp 47), type := 4, pos := "law.go:147", after := #[{ on := 10, ground := Ground.data }, { on := 1, ground := Ground.chain }], guard := none }) (v := ?_) rfl (by kernel_rfl) (by kernel_rfl) (by kernel_rfl) (fun _ _ _ h => h) ?_ (by assumption) ?_
  rotate_left
  · first | (refine Or.inl ⟨by rfl, ?_⟩; intro w hSw; (try dsimp only at hSw); go_simp; (try with_reducible rfl); done) | exact Or.inr ⟨by rfl, rfl⟩
  (try simp only [Act.put, List.setIfInBounds_toArray, List.set_cons_zero, List.set_cons_succ])
  refine wpAnyH_take (i := 12) (oi := { dst := some 49, op := Op.move (Operand.tmp 5), type := 3, pos := "law.go:147", after := #[{ on := 11, ground := Ground.guard }], guard := some (11, true) }) (v := ?_) rfl (by kernel_rfl) (by kernel_rfl) (by kernel_rfl) (fun _ _ _ h => h) ?_ (by assumption) ?_
  rotate_left
  · first | (refine Or.inl ⟨by rfl, ?_⟩; intro w hSw; (try dsimp only at hSw); go_simp; (try with_reducible rfl); done) | exact Or.inr ⟨by rfl, rfl⟩
  (try simp only [Act.put, List.setIfInBounds_toArray, List.set_cons_zero, List.set_cons_succ])
  refine wpAnyH_take (i := 13) (oi := { dst := some 50, op := Op.binOp BinOp.neq 3 (Operand.tmp 49) (Operand.const (Value.int IntKind.i64 0)) 3, type := 4, pos := "law.go:147", after := #[{ on := 12, ground := Ground.data }, { on := 11, ground := Ground.guard }], guard := some (11, true) }) (v := ?_) rfl (by kernel_rfl) (by kernel_rfl) (by kernel_rfl) (fun _ _ _ h => h) ?_ (by assumption) ?_
  rotate_left
  · first | (refine Or.inl ⟨by rfl, ?_⟩; intro w hSw; (try dsimp only at hSw); go_simp; (try with_reducible rfl); done) | exact Or.inr ⟨by rfl, rfl⟩
  (try simp only [Act.put, List.setIfInBounds_toArray, List.set_cons_zero, List.set_cons_succ])
  refine wpAnyH_take (i := 14) (oi := { dst := some 51, op := Op.pick (Operand.tmp 48) (Operand.tmp 50) (Operand.const (Value.bool false)), type := 4, pos := "law.go:147", after := #[{ on := 11, ground := Ground.data }, { on := 13, ground := Ground.data }], guard := none }) (v := ?_) rfl (by kernel_rfl) (by kernel_rfl) (by kernel_rfl) (fun _ _ _ h => h) ?_ (by assumption) ?_
  rotate_left
  · first | (refine Or.inl ⟨by rfl, ?_⟩; intro w hSw; (try dsimp only at hSw); go_simp; (try with_reducible rfl); done) | exact Or.inr ⟨by rfl, rfl⟩
  (try simp only [Act.put, List.setIfInBounds_toArray, List.set_cons_zero, List.set_cons_succ])
  refine wpAnyH_take (i := 15) (oi := { dst := some 52, op := Op.move (Operand.tmp 51), type := 4, pos := "law.go:147", after := #[{ on := 14, ground := Ground.data }, { on := 11, ground := Ground.chain }], guard := none }) (v := ?_) rfl (by kernel_rfl) (by kernel_rfl) (by kernel_rfl) (fun _ _ _ h => h) ?_ (by assumption) ?_
  rotate_left
  · first | (refine Or.inl ⟨by rfl, ?_⟩; intro w hSw; (try dsimp only at hSw); go_simp; (try with_reducible rfl); done) | exact Or.inr ⟨by rfl, rfl⟩
  (try simp only [Act.put, List.setIfInBounds_toArray, List.set_cons_zero, List.set_cons_succ])
  refine wpAnyH_take (i := 16) (oi := { dst := some 53, op := Op.load 24 (Operand.tmp 2), type := 24, pos := "law.go:147", after := #[{ on := 15, ground := Ground.guard }], guard := some (15, true) }) (v := ?_) rfl (by kernel_rfl) (by kernel_rfl) (by kernel_rfl) (fun _ _ _ h => h) ?_ (by assumption) ?_
  rotate_left
  · first | (refine Or.inl ⟨by rfl, ?_⟩; intro w hSw; (try dsimp only at hSw); go_simp; (try with_reducible rfl); done) | exact Or.inr ⟨by rfl, rfl⟩
  (try simp only [Act.put, List.setIfInBounds_toArray, List.set_cons_zero, List.set_cons_succ])
  refine wpAnyH_take (i := 18) (oi := { dst := some 55, op := Op.load 24 (Operand.tmp 3), type := 24, pos := "law.go:147", after := #[{ on := 15, ground := Ground.guard }], guard := some (15, true) }) (v := ?_) rfl (by kernel_rfl) (by kernel_rfl) (by kernel_rfl) (fun _ _ _ h => h) ?_ (by assumption) ?_
  rotate_left
  · first | (refine Or.inl ⟨by rfl, ?_⟩; intro w hSw; (try dsimp only at hSw); go_simp; (try with_reducible rfl); done) | exact Or.inr ⟨by rfl, rfl⟩
  (try simp only [Act.put, List.setIfInBounds_toArray, List.set_cons_zero, List.set_cons_succ])
  refine wpAnyH_ready (rs := [17]) (by kernel_rfl) (by simp) ?_
  refine AllReadyH.cons (o := { dst := some 54, op := Op.call { callee := Callee.value (Operand.func 10), args := #[Operand.tmp 53], argTypes := #[24] }, type := 9, pos := "law.go:147", after := #[{ on := 16, ground := Ground.data }, { on := 15, ground := Ground.chain }, { on := 15, ground := Ground.guard }], guard := some (15, true) }) rfl (fun K hK => ?_) AllReadyH.nil
  go_simp
  (go_at_call_of 10 (Value.agg #[.int .i64 ak, .int .i64 an, .string as']); go_split_ands; refine (text_any ak an as' _ (HL.out.later (Hid.out (by assumption))) HA0.out HA1.out).mono ?_; rintro e w1 ⟨v, rfl, ⟨ra, rfl, hr⟩, hb⟩; obtain rfl : ra = ta := ba_of_list (hr.trans HTA.out.symm); clear hr)
  refine hK.out _ _ ?_ (fun hHeld => ?_)
  · (go_split_ands; refine ⟨?_, ?_, ?_, ?_, ?_, ?_, ?_, ?_⟩; (rw [hb.cell (by simp; omega)]; assumption); (rw [hb.cell (by simp; omega)]; assumption); (rw [hb.cell (by simp; omega)]; assumption); (rw [hb.cell (by simp; omega)]; assumption); (rw [hb.cell (by simp; omega)]; assumption); (rw [hb.cell (by simp; omega)]; assumption); (have := hb.size; omega); exact Lib.hid (bstep (Hid.out (by assumption)) hb))
  clear hK K
  (try simp only [Act.put, List.setIfInBounds_toArray, List.set_cons_zero, List.set_cons_succ])
  refine wpAnyH_ready (rs := [19]) (by kernel_rfl) (by simp) ?_
  refine AllReadyH.cons (o := { dst := some 56, op := Op.call { callee := Callee.value (Operand.func 10), args := #[Operand.tmp 55], argTypes := #[24] }, type := 9, pos := "law.go:147", after := #[{ on := 18, ground := Ground.data }, { on := 17, ground := Ground.chain }, { on := 15, ground := Ground.guard }], guard := some (15, true) }) rfl (fun K hK => ?_) AllReadyH.nil
  go_simp
  (go_at_call_of 10 (Value.agg #[.int .i64 bk, .int .i64 bn, .string bs']); go_split_ands; refine (text_any bk bn bs' _ (HL.out.later (Hid.out (by assumption))) HBB0.out HBB1.out).mono ?_; rintro e w1 ⟨v, rfl, ⟨rb, rfl, hr⟩, hb⟩; obtain rfl : rb = tb := ba_of_list (hr.trans HTB.out.symm); clear hr)
  refine hK.out _ _ ?_ (fun hHeld => ?_)
  · (go_split_ands; refine ⟨?_, ?_, ?_, ?_, ?_, ?_, ?_, ?_⟩; (rw [hb.cell (by simp; omega)]; assumption); (rw [hb.cell (by simp; omega)]; assumption); (rw [hb.cell (by simp; omega)]; assumption); (rw [hb.cell (by simp; omega)]; assumption); (rw [hb.cell (by simp; omega)]; assumption); (rw [hb.cell (by simp; omega)]; assumption); (have := hb.size; omega); exact Lib.hid (bstep (Hid.out (by assumption)) hb))
  clear hK K
  (try simp only [Act.put, List.setIfInBounds_toArray, List.set_cons_zero, List.set_cons_succ])
  refine wpAnyH_take (i := 20) (oi := { dst := some 57, op := Op.binOp BinOp.neq 9 (Operand.tmp 54) (Operand.tmp 56) 9, type := 4, pos := "law.go:147", after := #[{ on := 17, ground := Ground.data }, { on := 19, ground := Ground.data }, { on := 15, ground := Ground.guard }], guard := some (15, true) }) (v := ?_) rfl (by kernel_rfl) (by kernel_rfl) (by kernel_rfl) (fun _ _ _ h => h) ?_ (by assumption) ?_
  rotate_left
  · first | (refine Or.inl ⟨by rfl, ?_⟩; intro w hSw; (try dsimp only at hSw); go_simp; (try with_reducible rfl); done) | exact Or.inr ⟨by rfl, rfl⟩
  (try simp only [Act.put, List.setIfInBounds_toArray, List.set_cons_zero, List.set_cons_succ])
  refine wpAnyH_take (i := 21) (oi := { dst := some 58, op := Op.pick (Operand.tmp 52) (Operand.tmp 57) (Operand.const (Value.bool false)), type := 4, pos := "law.go:147", after := #[{ on := 15, ground := Ground.data }, { on := 20, ground := Ground.data }], guard := none }) (v := ?_) rfl (by kernel_rfl) (by kernel_rfl) (by kernel_rfl) (fun _ _ _ h => h) ?_ (by assumption) ?_
  rotate_left
  · first | (refine Or.inl ⟨by rfl, ?_⟩; intro w hSw; (try dsimp only at hSw); go_simp; (try with_reducible rfl); done) | exact Or.inr ⟨by rfl, rfl⟩
  (try simp only [Act.put, List.setIfInBounds_toArray, List.set_cons_zero, List.set_cons_succ])
  refine wpAnyH_take (i := 22) (oi := { dst := some 59, op := Op.move (Operand.tmp 58), type := 4, pos := "law.go:147", after := #[{ on := 21, ground := Ground.data }, { on := 19, ground := Ground.chain }], guard := none }) (v := ?_) rfl (by kernel_rfl) (by kernel_rfl) (by kernel_rfl) (fun _ _ _ h => h) ?_ (by assumption) ?_
  rotate_left
  · first | (refine Or.inl ⟨by rfl, ?_⟩; intro w hSw; (try dsimp only at hSw); go_simp; (try with_reducible rfl); done) | exact Or.inr ⟨by rfl, rfl⟩
  (try simp only [Act.put, List.setIfInBounds_toArray, List.set_cons_zero, List.set_cons_succ])
  refine wpAnyH_take (i := 23) (oi := { dst := some 60, op := Op.fieldAddr 24 (Operand.tmp 2) 0, type := 0, pos := "law.go:147", after := #[{ on := 22, ground := Ground.guard }], guard := some (22, true) }) (v := ?_) rfl (by kernel_rfl) (by kernel_rfl) (by kernel_rfl) (fun _ _ _ h => h) ?_ (by assumption) ?_
  rotate_left
  · first | (refine Or.inl ⟨by rfl, ?_⟩; intro w hSw; (try dsimp only at hSw); go_simp; (try with_reducible rfl); done) | exact Or.inr ⟨by rfl, rfl⟩
  (try simp only [Act.put, List.setIfInBounds_toArray, List.set_cons_zero, List.set_cons_succ])
  refine wpAnyH_take (i := 24) (oi := { dst := some 61, op := Op.load 22 (Operand.tmp 60), type := 22, pos := "law.go:147", after := #[{ on := 23, ground := Ground.data }, { on := 22, ground := Ground.guard }], guard := some (22, true) }) (v := ?_) rfl (by kernel_rfl) (by kernel_rfl) (by kernel_rfl) (fun _ _ _ h => h) ?_ (by assumption) ?_
  rotate_left
  · first | (refine Or.inl ⟨by rfl, ?_⟩; intro w hSw; (try dsimp only at hSw); go_simp; (try with_reducible rfl); done) | exact Or.inr ⟨by rfl, rfl⟩
  (try simp only [Act.put, List.setIfInBounds_toArray, List.set_cons_zero, List.set_cons_succ])
  refine wpAnyH_take (i := 25) (oi := { dst := some 62, op := Op.binOp BinOp.neq 22 (Operand.tmp 61) (Operand.const (Value.int IntKind.i64 0)) 22, type := 4, pos := "law.go:147", after := #[{ on := 24, ground := Ground.data }, { on := 22, ground := Ground.guard }], guard := some (22, true) }) (v := ?_) rfl (by kernel_rfl) (by kernel_rfl) (by kernel_rfl) (fun _ _ _ h => h) ?_ (by assumption) ?_
  rotate_left
  · first | (refine Or.inl ⟨by rfl, ?_⟩; intro w hSw; (try dsimp only at hSw); go_simp; (try with_reducible rfl); done) | exact Or.inr ⟨by rfl, rfl⟩
  (try simp only [Act.put, List.setIfInBounds_toArray, List.set_cons_zero, List.set_cons_succ])
  refine wpAnyH_take (i := 26) (oi := { dst := some 63, op := Op.move (Operand.tmp 62), type := 4, pos := "law.go:147", after := #[{ on := 25, ground := Ground.data }, { on := 22, ground := Ground.chain }, { on := 22, ground := Ground.guard }], guard := some (22, true) }) (v := ?_) rfl (by kernel_rfl) (by kernel_rfl) (by kernel_rfl) (fun _ _ _ h => h) ?_ (by assumption) ?_
  rotate_left
  · first | (refine Or.inl ⟨by rfl, ?_⟩; intro w hSw; (try dsimp only at hSw); go_simp; (try with_reducible rfl); done) | exact Or.inr ⟨by rfl, rfl⟩
  (try simp only [Act.put, List.setIfInBounds_toArray, List.set_cons_zero, List.set_cons_succ])
  refine wpAnyH_take (i := 27) (oi := { dst := some 64, op := Op.move (Operand.tmp 5), type := 3, pos := "law.go:147", after := #[{ on := 26, ground := Ground.guard }], guard := some (26, false) }) (v := undef) rfl (by kernel_rfl) (by kernel_rfl) (by kernel_rfl) (fun _ _ _ h => h) (Or.inr ⟨by rfl, rfl⟩) (by assumption) ?_
  (try simp only [Act.put, List.setIfInBounds_toArray, List.set_cons_zero, List.set_cons_succ])
  refine wpAnyH_take (i := 28) (oi := { dst := some 65, op := Op.binOp BinOp.lss 3 (Operand.tmp 64) (Operand.const (Value.int IntKind.i64 0)) 3, type := 4, pos := "law.go:147", after := #[{ on := 27, ground := Ground.data }, { on := 26, ground := Ground.guard }], guard := some (26, false) }) (v := undef) rfl (by kernel_rfl) (by kernel_rfl) (by kernel_rfl) (fun _ _ _ h => h) (Or.inr ⟨by rfl, rfl⟩) (by assumption) ?_
  (try simp only [Act.put, List.setIfInBounds_toArray, List.set_cons_zero, List.set_cons_succ])
  refine wpAnyH_take (i := 29) (oi := { dst := some 66, op := Op.pick (Operand.tmp 63) (Operand.const (Value.bool true)) (Operand.tmp 65), type := 4, pos := "law.go:147", after := #[{ on := 26, ground := Ground.data }, { on := 28, ground := Ground.data }, { on := 22, ground := Ground.guard }], guard := some (22, true) }) (v := ?_) rfl (by kernel_rfl) (by kernel_rfl) (by kernel_rfl) (fun _ _ _ h => h) ?_ (by assumption) ?_
  rotate_left
  · first | (refine Or.inl ⟨by rfl, ?_⟩; intro w hSw; (try dsimp only at hSw); go_simp; (try with_reducible rfl); done) | exact Or.inr ⟨by rfl, rfl⟩
  (try simp only [Act.put, List.setIfInBounds_toArray, List.set_cons_zero, List.set_cons_succ])
  refine wpAnyH_take (i := 30) (oi := { dst := some 67, op := Op.pick (Operand.tmp 59) (Operand.tmp 66) (Operand.const (Value.bool false)), type := 4, pos := "law.go:147", after := #[{ on := 22, ground := Ground.data }, { on := 29, ground := Ground.data }], guard := none }) (v := ?_) rfl (by kernel_rfl) (by kernel_rfl) (by kernel_rfl) (fun _ _ _ h => h) ?_ (by assumption) ?_
  rotate_left
  · first | (refine Or.inl ⟨by rfl, ?_⟩; intro w hSw; (try dsimp only at hSw); go_simp; (try with_reducible rfl); done) | exact Or.inr ⟨by rfl, rfl⟩
  (try simp only [Act.put, List.setIfInBounds_toArray, List.set_cons_zero, List.set_cons_succ])
  refine wpAnyH_take (i := 31) (oi := { dst := some 4, op := Op.assign (Operand.tmp 67), type := 4, pos := "law.go:147", after := #[{ on := 30, ground := Ground.data }, { on := 26, ground := Ground.chain }, { on := 0, ground := Ground.phase }, { on := 1, ground := Ground.phase }, { on := 2, ground := Ground.phase }, { on := 3, ground := Ground.phase }, { on := 4, ground := Ground.phase }, { on := 5, ground := Ground.phase }, { on := 6, ground := Ground.phase }, { on := 7, ground := Ground.phase }, { on := 8, ground := Ground.phase }, { on := 9, ground := Ground.phase }, { on := 10, ground := Ground.phase }, { on := 11, ground := Ground.phase }, { on := 12, ground := Ground.phase }, { on := 13, ground := Ground.phase }, { on := 14, ground := Ground.phase }, { on := 15, ground := Ground.phase }, { on := 16, ground := Ground.phase }, { on := 17, ground := Ground.phase }, { on := 18, ground := Ground.phase }, { on := 19, ground := Ground.phase }, { on := 20, ground := Ground.phase }, { on := 21, ground := Ground.phase }, { on := 22, ground := Ground.phase }, { on := 23, ground := Ground.phase }, { on := 24, ground := Ground.phase }, { on := 25, ground := Ground.phase }, { on := 26, ground := Ground.phase }, { on := 27, ground := Ground.phase }, { on := 28, ground := Ground.phase }, { on := 29, ground := Ground.phase }, { on := 30, ground := Ground.phase }], guard := none }) (v := ?_) rfl (by kernel_rfl) (by kernel_rfl) (by kernel_rfl) (fun _ _ _ h => h) ?_ (by assumption) ?_
  rotate_left
  · first | (refine Or.inl ⟨by rfl, ?_⟩; intro w hSw; (try dsimp only at hSw); go_simp; (try with_reducible rfl); done) | exact Or.inr ⟨by rfl, rfl⟩
  (try simp only [Act.put, List.setIfInBounds_toArray, List.set_cons_zero, List.set_cons_succ])
  refine wpAnyH_done (by kernel_rfl) ?_ _
  refine NoPanic.normal ?_
  go_split_ands
  have HBW : Hid (Below w.heap.size w w1) := by assumption
  go_wp2
  go_ret
  exact ⟨rfl, HBW.out⟩

end Go.Proofs.YtdldhlbnbffieaaDoor
