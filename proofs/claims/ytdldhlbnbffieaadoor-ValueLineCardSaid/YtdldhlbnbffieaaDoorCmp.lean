/-
  The order of two values: what cmp's functions answer.
-/
import Derived.Test.YtdldhlbnbffieaaDoorV02
namespace Go.Proofs.YtdldhlbnbffieaaDoor
set_option linter.unusedSimpArgs false
set_option linter.unusedVariables false
open Go.RowKit

def cmpI (a b : Int) : Int := if a < b then -1 else if b < a then 1 else 0
def cmpS (a b : ByteArray) : Int := if Op.bytesLess a.toList b.toList = true then -1 else if a.toList = b.toList then 0 else 1
def or3 (x y z : Int) : Int := if x ≠ 0 then x else if y ≠ 0 then y else z
def ordV (a b : Val) : Int := or3 (cmpI a.k b.k) (cmpI a.n b.n) (cmpS a.s b.s)

theorem nan_kind (a : Int) (w : World) : Calls Tryd.prog 48 #[.int .i64 a] w fun e w' => e = .returned (.bool false) ∧ w' = w := by
  go_enter Tryd.func48, Tryd.ntmps48
  go_wp2
  go_ret
  exact ⟨rfl, rfl⟩
theorem nan_int (a : Int) (w : World) : Calls Tryd.prog 49 #[.int .i64 a] w fun e w' => e = .returned (.bool false) ∧ w' = w := by
  go_enter Tryd.func49, Tryd.ntmps49
  go_wp2
  go_ret
  exact ⟨rfl, rfl⟩
theorem nan_str (a : ByteArray) (w : World) : Calls Tryd.prog 50 #[.string a] w fun e w' => e = .returned (.bool false) ∧ w' = w := by
  go_enter Tryd.func50, Tryd.ntmps50
  go_wp2
  go_ret
  exact ⟨by simp, rfl⟩

theorem cmp_kind (a b : Int) (w : World) : Calls Tryd.prog 29 #[.int .i64 a, .int .i64 b] w fun e w' => e = .returned (.int .i64 (cmpI a b)) ∧ w' = w := by
  go_enter Tryd.func29, Tryd.ntmps29
  go_wp2_with (go_at_call 48; refine (nan_kind _ _).mono ?_; rintro e w2 ⟨rfl, rfl⟩)
  all_goals
    go_ret
    exact ⟨ret_int (by simp only [cmpI]; split <;> (try split) <;> omega), rfl⟩
theorem cmp_int (a b : Int) (w : World) : Calls Tryd.prog 30 #[.int .i64 a, .int .i64 b] w fun e w' => e = .returned (.int .i64 (cmpI a b)) ∧ w' = w := by
  go_enter Tryd.func30, Tryd.ntmps30
  go_wp2_with (go_at_call 49; refine (nan_int _ _).mono ?_; rintro e w2 ⟨rfl, rfl⟩)
  all_goals
    go_ret
    exact ⟨ret_int (by simp only [cmpI]; split <;> (try split) <;> omega), rfl⟩
theorem cmp_str (a b : ByteArray) (w : World) : Calls Tryd.prog 31 #[.string a, .string b] w fun e w' => e = .returned (.int .i64 (cmpS a b)) ∧ w' = w := by
  go_enter Tryd.func31, Tryd.ntmps31
  go_wp2_with (go_at_call 50; refine (nan_str _ _).mono ?_; rintro e w2 ⟨rfl, rfl⟩)
  all_goals
    go_ret
    exact ⟨ret_int (by simp_all [cmpS]), rfl⟩

theorem cmpI_le (a b : Int) : -1 ≤ cmpI a b ∧ cmpI a b ≤ 1 := by unfold cmpI; split <;> (try split) <;> decide
theorem cmpS_le (a b : ByteArray) : -1 ≤ cmpS a b ∧ cmpS a b ≤ 1 := by unfold cmpS; split <;> (try split) <;> decide
theorem ordV_le (a b : Val) : -1 ≤ ordV a b ∧ ordV a b ≤ 1 := by
  have h1 := cmpI_le a.k b.k
  have h2 := cmpI_le a.n b.n
  have h3 := cmpS_le a.s b.s
  unfold ordV or3
  split
  · exact h1
  · split
    · exact h2
    · exact h3

theorem or_three (x y z : Int) (p : Nat) (w : World) (c0 : w.cell? ⟨p, 0, none⟩ = some (.int .i64 x)) (c1 : w.cell? ⟨p, 1, none⟩ = some (.int .i64 y)) (c2 : w.cell? ⟨p, 2, none⟩ = some (.int .i64 z)) :
    Calls Tryd.prog 28 #[.slice (some ⟨p, 0, none⟩) 3 3] w fun e w' => e = .returned (.int .i64 (or3 x y z)) ∧ w' = w := by
  go_enter Tryd.func28, Tryd.ntmps28
  go_wp2_with fail
  go_loopw [8] (fun i wr => wr = w ∧ (i = .int .i64 0 ∨ (i = .int .i64 1 ∧ x = 0) ∨ (i = .int .i64 2 ∧ x = 0 ∧ y = 0) ∨ (i = .int .i64 3 ∧ x = 0 ∧ y = 0 ∧ z = 0))) (fun i _ => 3 - (intOf i).toNat)
  case atStart => exact ⟨rfl, Or.inl rfl⟩
  case round =>
    obtain ⟨rfl, hi⟩ := hrel
    rcases hi with rfl | ⟨rfl, rfl⟩ | ⟨rfl, rfl, rfl⟩ | ⟨rfl, rfl, rfl, rfl⟩
    · by_cases hx : x = 0
      · subst hx
        go_wp2
        go_roundw
        case rel => simp
        case measure => decide
      · go_wp2
        go_ret
        exact ⟨ret_int (by simp [or3, hx]), rfl⟩
    · by_cases hx : y = 0
      · subst hx
        go_wp2
        go_roundw
        case rel => simp
        case measure => decide
      · go_wp2
        go_ret
        exact ⟨ret_int (by simp [or3, hx]), rfl⟩
    · by_cases hx : z = 0
      · subst hx
        go_wp2
        go_roundw
        case rel => simp
        case measure => decide
      · go_wp2
        go_ret
        exact ⟨ret_int (by simp [or3, hx]), rfl⟩
    · go_wp2
      go_ret
      exact ⟨ret_int (by simp [or3]), rfl⟩

set_option maxRecDepth 100000 in
theorem order_any (ak an bk bn : Int) (as' bs' : ByteArray) (w : World) :
    Calls Tryd.prog 12 #[.agg #[.int .i64 ak, .int .i64 an, .string as'], .agg #[.int .i64 bk, .int .i64 bn, .string bs']] w fun e w' => e = .returned (.int .i64 (ordV ⟨ak, an, as'⟩ ⟨bk, bn, bs'⟩)) ∧ Below w.heap.size w w' := by
  go_enter Tryd.func12, Tryd.ntmps12
  go_wp2_with fail
  have c0 : ∀ o, ((w.alloc (Obj.cells #[.int .i64 ak, .int .i64 an, .string as'] 24)).alloc (Obj.cells #[.int .i64 bk, .int .i64 bn, .string bs'] 24)).cell? ⟨w.heap.size, o, none⟩ = #[Value.int .i64 ak, .int .i64 an, .string as'][o]? := fun o => by simp [go_sem]
  have c1 : ∀ o, ((w.alloc (Obj.cells #[.int .i64 ak, .int .i64 an, .string as'] 24)).alloc (Obj.cells #[.int .i64 bk, .int .i64 bn, .string bs'] 24)).cell? ⟨w.heap.size + 1, o, none⟩ = #[Value.int .i64 bk, .int .i64 bn, .string bs'][o]? := fun o => by simp [go_sem]
  have hbw : Below w.heap.size w ((w.alloc (Obj.cells #[.int .i64 ak, .int .i64 an, .string as'] 24)).alloc (Obj.cells #[.int .i64 bk, .int .i64 bn, .string bs'] 24)) := by ((repeat with_reducible first | exact Below.refl _ _ | apply b_alloc | apply b_drewN | apply b_drew | refine b_set ?_ ?_ _ | (refine bstep ?_ (by assumption))); (all_goals (simp; try omega)))
  have hsz : w.heap.size + 1 < ((w.alloc (Obj.cells #[.int .i64 ak, .int .i64 an, .string as'] 24)).alloc (Obj.cells #[.int .i64 bk, .int .i64 bn, .string bs'] 24)).heap.size := by simp
  generalize ((w.alloc (Obj.cells #[.int .i64 ak, .int .i64 an, .string as'] 24)).alloc (Obj.cells #[.int .i64 bk, .int .i64 bn, .string bs'] 24)) = w9 at c0 c1 hbw hsz ⊢
  have C0 := c0 0; have C1 := c0 1; have C2 := c0 2; have C3 := c1 0; have C4 := c1 1; have C5 := c1 2
  simp at C0 C1 C2 C3 C4 C5
  have CB : Hid (Below w.heap.size w w9.drew) := Lib.hid hbw.drew
  clear c0 c1 hbw
  go_region_held3 (fun w' => w'.cell? ⟨w.heap.size, 0, none⟩ = some (.int .i64 ak) ∧ w'.cell? ⟨w.heap.size, 1, none⟩ = some (.int .i64 an) ∧ w'.cell? ⟨w.heap.size, 2, none⟩ = some (.string as') ∧ w'.cell? ⟨w.heap.size + 1, 0, none⟩ = some (.int .i64 bk) ∧ w'.cell? ⟨w.heap.size + 1, 1, none⟩ = some (.int .i64 bn) ∧ w'.cell? ⟨w.heap.size + 1, 2, none⟩ = some (.string bs') ∧ w.heap.size + 1 < w'.heap.size ∧ Hid (Below w.heap.size w w')) (first | (go_split_ands; (repeat' (with_reducible apply And.intro)); all_goals (first | assumption | (rw [World.size_drew, World.size_alloc]; omega) | (rw [World.size_alloc]; omega) | exact Lib.hid (b_alloc (Hid.out (by assumption)) _) | exact Lib.hid (b_drew (b_alloc (Hid.out (by assumption)) _)) | (simp [go_sem, *]; done) | go_keep))) (first | (go_at_call 29; refine (cmp_kind _ _ _).mono ?_; rintro e w2 ⟨rfl, rfl⟩) | (go_at_call 30; refine (cmp_int _ _ _).mono ?_; rintro e w2 ⟨rfl, rfl⟩) | (go_at_call 31; refine (cmp_str _ _ _).mono ?_; rintro e w2 ⟨rfl, rfl⟩) | (go_at_call 28; go_split_ands; refine (or_three (cmpI ak bk) (cmpI an bn) (cmpS as' bs') _ _ (by simp [go_sem]) (by simp [go_sem]) (by simp [go_sem])).mono ?_; rintro e w2 ⟨rfl, rfl⟩))
  go_split_ands
  go_wp2
  go_ret
  exact ⟨ret_int rfl, Hid.out (by assumption)⟩

end Go.Proofs.YtdldhlbnbffieaaDoor
