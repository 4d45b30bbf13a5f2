/-
  A byte's kind, and how many bytes at a text's beginning are of some kinds.
-/
import Derived.Test.YtodhdbikbdlcaaaGreatDoorPureLex2
namespace Go.Proofs.YtodhdbikbdlcaaaGreatDoor
set_option linter.unusedSimpArgs false
set_option linter.unusedVariables false
open Go.RowKit

theorem of_any (c : UInt8) (w : World) : Calls Tryz.prog 15 #[.int .u8 (c.toNat : Int)] w fun e w' => e = .returned (.int .i64 (ofB c : Nat)) ∧ w' = w := by
  have hc := c.toNat_lt
  go_enter Tryz.func15, Tryz.ntmps15
  go_wp2
  all_goals
    go_ret
    refine ⟨ret_int ?_, rfl⟩
    go_light
    try simp only [Bool.or_eq_true, Bool.and_eq_true, decide_eq_true_eq, Bool.or_eq_false_iff, Bool.and_eq_false_iff, decide_eq_false_iff_not, beq_iff_eq, beq_eq_false_iff_ne] at *
    unfold ofB
    (repeat' split) <;> omega
theorem fig_any (k : Int) (w : World) : Calls Tryz.prog 53 #[.int .i64 k] w fun e w' => e = .returned (.bool (k == 3)) ∧ w' = w := by
  go_enter Tryz.func53, Tryz.ntmps53
  go_wp2
  go_ret
  exact ⟨rfl, rfl⟩
theorem part_any (k : Int) (w : World) : Calls Tryz.prog 31 #[.int .i64 k] w fun e w' => e = .returned (.bool (decide (2 ≤ k))) ∧ w' = w := by
  go_enter Tryz.func31, Tryz.ntmps31
  go_wp2
  go_ret
  exact ⟨rfl, rfl⟩

theorem fig_cv {k : Nat} {b : Bool} (h : figK k = b) : (((k : Nat) : Int) == 3) = b := by
  rw [← h, Bool.eq_iff_iff]; unfold figK; simp; omega
theorem part_cv {k : Nat} {b : Bool} (h : partK k = b) : decide ((2 : Int) ≤ (k : Nat)) = b := by
  rw [← h, Bool.eq_iff_iff]; unfold partK; simp; omega

theorem span_fig (s : ByteArray) (w : World) (hs : s.size ≤ 9223372036854775807) : Calls Tryz.prog 30 #[.string s, .func (.func 53) #[] #[]] w fun e w' => e = .returned (.int .i64 (spanL figK s.data.toList : Nat)) ∧ w' = w := by
  go_enter Tryz.func30, Tryz.ntmps30
  go_wp2_with fail
  go_loop [5] (fun i => ∃ k : Nat, k ≤ s.size ∧ i = .int .i64 k ∧ Hid (spanL figK s.data.toList = k + spanL figK (s.data.toList.drop k))) (fun i => s.size - (intOf i).toNat)
  case atStart => exact ⟨0, Nat.zero_le _, rfl, Lib.hid (by simp)⟩
  case round =>
    obtain ⟨k, hk, rfl, HS⟩ := hrel
    by_cases hlt : k < s.size
    · have hd : s.data.toList.drop k = s[k] :: s.data.toList.drop (k + 1) := by
        rw [List.drop_eq_getElem_cons (by simpa using hlt)]; rfl
      have HD := Lib.hid hd; clear hd
      have hc := (s[k]).toNat_lt
      cases hp : figK (ofB s[k])
      · have HP := Lib.hid hp; clear hp
        go_wp2_with (first | (go_at_call 15; refine (of_any _ _).mono ?_; rintro e w2 ⟨rfl, rfl⟩) | (go_at_call 53; refine (fig_any _ _).mono ?_; rintro e w2 ⟨rfl, rfl⟩; rw [show (((ofB s[k] : Nat) : Int) == 3) = false from fig_cv HP.out]))
        go_ret
        refine ⟨ret_int ?_, rfl⟩
        rw [HS.out, HD.out]
        show (k : Int) = ((k + (if figK (ofB s[k]) = true then _ else 0) : Nat) : Int)
        rw [if_neg (by rw [HP.out]; decide)]; rfl
      · have HP := Lib.hid hp; clear hp
        go_wp2_with (first | (go_at_call 15; refine (of_any _ _).mono ?_; rintro e w2 ⟨rfl, rfl⟩) | (go_at_call 53; refine (fig_any _ _).mono ?_; rintro e w2 ⟨rfl, rfl⟩; rw [show (((ofB s[k] : Nat) : Int) == 3) = true from fig_cv HP.out]))
        go_round
        case rel =>
          refine ⟨k + 1, by omega, by go_num, Lib.hid ?_⟩
          rw [HS.out, HD.out]
          show k + (if figK (ofB s[k]) = true then spanL figK (s.data.toList.drop (k + 1)) + 1 else 0) = _
          rw [if_pos HP.out]; omega
        case measure => simp [intOf]; omega
    · go_wp2_with fail
      go_ret
      refine ⟨ret_int ?_, rfl⟩
      rw [HS.out, List.drop_eq_nil_of_le (by simp; omega)]; rfl

theorem span_part (s : ByteArray) (w : World) (hs : s.size ≤ 9223372036854775807) : Calls Tryz.prog 30 #[.string s, .func (.func 31) #[] #[]] w fun e w' => e = .returned (.int .i64 (spanL partK s.data.toList : Nat)) ∧ w' = w := by
  go_enter Tryz.func30, Tryz.ntmps30
  go_wp2_with fail
  go_loop [5] (fun i => ∃ k : Nat, k ≤ s.size ∧ i = .int .i64 k ∧ Hid (spanL partK s.data.toList = k + spanL partK (s.data.toList.drop k))) (fun i => s.size - (intOf i).toNat)
  case atStart => exact ⟨0, Nat.zero_le _, rfl, Lib.hid (by simp)⟩
  case round =>
    obtain ⟨k, hk, rfl, HS⟩ := hrel
    by_cases hlt : k < s.size
    · have hd : s.data.toList.drop k = s[k] :: s.data.toList.drop (k + 1) := by
        rw [List.drop_eq_getElem_cons (by simpa using hlt)]; rfl
      have HD := Lib.hid hd; clear hd
      have hc := (s[k]).toNat_lt
      cases hp : partK (ofB s[k])
      · have HP := Lib.hid hp; clear hp
        go_wp2_with (first | (go_at_call 15; refine (of_any _ _).mono ?_; rintro e w2 ⟨rfl, rfl⟩) | (go_at_call 31; refine (part_any _ _).mono ?_; rintro e w2 ⟨rfl, rfl⟩; rw [show decide ((2 : Int) ≤ (ofB s[k] : Nat)) = false from part_cv HP.out]))
        go_ret
        refine ⟨ret_int ?_, rfl⟩
        rw [HS.out, HD.out]
        show (k : Int) = ((k + (if partK (ofB s[k]) = true then _ else 0) : Nat) : Int)
        rw [if_neg (by rw [HP.out]; decide)]; rfl
      · have HP := Lib.hid hp; clear hp
        go_wp2_with (first | (go_at_call 15; refine (of_any _ _).mono ?_; rintro e w2 ⟨rfl, rfl⟩) | (go_at_call 31; refine (part_any _ _).mono ?_; rintro e w2 ⟨rfl, rfl⟩; rw [show decide ((2 : Int) ≤ (ofB s[k] : Nat)) = true from part_cv HP.out]))
        go_round
        case rel =>
          refine ⟨k + 1, by omega, by go_num, Lib.hid ?_⟩
          rw [HS.out, HD.out]
          show k + (if partK (ofB s[k]) = true then spanL partK (s.data.toList.drop (k + 1)) + 1 else 0) = _
          rw [if_pos HP.out]; omega
        case measure => simp [intOf]; omega
    · go_wp2_with fail
      go_ret
      refine ⟨ret_int ?_, rfl⟩
      rw [HS.out, List.drop_eq_nil_of_le (by simp; omega)]; rfl

end Go.Proofs.YtodhdbikbdlcaaaGreatDoor
