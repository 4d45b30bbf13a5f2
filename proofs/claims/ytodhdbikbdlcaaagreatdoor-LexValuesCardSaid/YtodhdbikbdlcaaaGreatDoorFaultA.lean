/-
  The first code and place of an error.
-/
import Derived.Test.YtodhdbikbdlcaaaGreatDoorAsErr
import Derived.Test.YtodhdbikbdlcaaaGreatDoorLaid
namespace Go.Proofs.YtodhdbikbdlcaaaGreatDoor
set_option linter.unusedSimpArgs false
set_option linter.unusedVariables false
open Go.RowKit

def codeE : Err → Int
  | .none => 0
  | .fault c _ _ => c
def atE : Err → Int
  | .none => -1
  | .fault _ a _ => a

theorem first_nil (w : World) : Calls Tryz.prog 17 #[.nilIface] w fun e w' => e = .returned (.pointer none) ∧ Below w.heap.size w w' := by
  go_enter Tryz.func17, Tryz.ntmps17
  go_wp2_with (go_at_call 35; refine (as_nil _ _).mono ?_; rintro e w' ⟨rfl, rfl⟩)
  go_ret
  exact ⟨rfl, by ((repeat with_reducible first | exact Below.refl _ _ | apply b_alloc | apply b_drewN | apply b_drew | refine b_set ?_ ?_ _ | (refine bstep ?_ (by assumption))); (all_goals (simp; try omega)))⟩
set_option maxHeartbeats 800000 in
theorem first_hit (b : Addr) (w : World) (hl : Laid w) : Calls Tryz.prog 17 #[.iface 50 (.pointer (some b))] w fun e w' => e = .returned (.pointer (some b)) ∧ Below w.heap.size w w' := by
  have hA : (w.alloc (.cells #[.pointer none] 50)).cell? ⟨0, 0, none⟩ = some (.iface 121 (.agg #[.pointer (some ⟨10, 30, none⟩)])) := (hl.later (b_alloc (Below.refl _ _) _)).ety
  have hB : (w.alloc (.cells #[.pointer none] 50)).cell? ⟨w.heap.size, 0, none⟩ = some (.pointer none) := by simp
  have hC : (w.alloc (.cells #[.pointer none] 50)).frozen? ⟨w.heap.size, 0, none⟩ = false := by simp
  have HA := Lib.hid hA; have HB := Lib.hid hB; have HC := Lib.hid hC
  clear hA hB hC hl
  go_enter Tryz.func17, Tryz.ntmps17
  go_wp2_with fail
  refine (as_hit _ _ (.pointer none) _ HA.out HB.out HC.out).mono ?_
  rintro e w' ⟨rfl, rfl⟩
  go_wp2_with fail
  go_ret
  exact ⟨rfl, by ((repeat with_reducible first | exact Below.refl _ _ | apply b_alloc | apply b_drewN | apply b_drew | refine b_set ?_ ?_ _ | (refine bstep ?_ (by assumption))); (all_goals (simp; try omega)))⟩
theorem at_any (e : Err) (v : Value) (w : World) (hl : Laid w) (he : ErrIs w e v) : Calls Tryz.prog 8 #[v] w fun e' w' => e' = .returned (.int .i64 (atE e)) ∧ Below w.heap.size w w' := by
  cases e with
  | none =>
    obtain rfl : v = .nilIface := he
    clear hl
    go_enter Tryz.func8, Tryz.ntmps8
    go_wp2_with fail
    refine (first_nil _).mono ?_
    rintro e w1 ⟨rfl, hb⟩
    have HB := Lib.hid hb; clear hb
    go_wp2_with fail
    go_ret
    exact ⟨rfl, HB.out⟩
  | fault c a u =>
    obtain ⟨b, uv, rfl, hb0, _⟩ := he
    have hlt := lt_of_get hb0
    have hc : w.cell? ⟨b, 1, none⟩ = some (.int .i64 a) := by simp [World.cell?, hb0]
    have HC := Lib.hid hc; have HL := Lib.hid hl
    clear hb0 hl hc
    go_enter Tryz.func8, Tryz.ntmps8
    go_wp2_with fail
    refine (first_hit _ _ HL.out).mono ?_
    rintro e w1 ⟨rfl, hb⟩
    have hc1 : w1.cell? ⟨b, 1, none⟩ = some (.int .i64 a) := (hb.cell (p := ⟨b, 1, none⟩) hlt).trans HC.out
    have HB := Lib.hid hb; clear hb
    go_wp2_with fail
    go_ret
    exact ⟨rfl, HB.out⟩

end Go.Proofs.YtodhdbikbdlcaaaGreatDoor
