/-
  A number.
-/
import Derived.Test.YtodhdbikbdlcaaaGreatDoorLexS
namespace Go.Proofs.YtodhdbikbdlcaaaGreatDoor
set_option linter.unusedSimpArgs false
set_option linter.unusedVariables false
open Go.RowKit

theorem pre_dot (l : List UInt8) : Lib.hasPrefix l [46] = decide (l.head? = some 46) := by
  unfold Lib.hasPrefix
  cases l with
  | nil => rfl
  | cons c r =>
    simp only [List.isPrefixOf, Bool.and_true, List.head?_cons, Option.some.injEq]
    rw [Bool.eq_iff_iff, beq_iff_eq, decide_eq_true_eq]; exact ⟨Eq.symm, Eq.symm⟩


def zeroTok : Array Value := #[.int .i64 0, .string ⟨#[]⟩, .int .i64 0, .int .i64 0, .string ⟨#[]⟩, .int .i64 0]
/-- The result's own block still holds nothing. -/
structure TBox (w W : World) : Prop where
  cell : ∀ o, W.cell? ⟨w.heap.size, o, none⟩ = #[Value.int .i64 0, .string ⟨#[]⟩, .int .i64 0, .int .i64 0, .string ⟨#[]⟩, .int .i64 0][o]?
  free : ∀ o, W.frozen? ⟨w.heap.size, o, none⟩ = false
  lt : w.heap.size < W.heap.size
  below : Below w.heap.size w W
theorem TBox.new (w : World) : TBox w (w.alloc (Obj.cells #[.int .i64 0, .string ⟨#[]⟩, .int .i64 0, .int .i64 0, .string ⟨#[]⟩, .int .i64 0] 35)) :=
  ⟨fun o => by simp [go_sem], fun o => by simp [go_sem], by simp, b_alloc (Below.refl _ _) _⟩
theorem TBox.drewN {w W : World} (h : TBox w W) (n : Nat) : TBox w (W.drewN n) := ⟨h.cell, h.free, h.lt, b_drewN h.below n⟩
theorem TBox.later {w W W' : World} (h : TBox w W) (hb : Below W.heap.size W W') : TBox w W' :=
  ⟨fun o => (hb.cell (p := ⟨w.heap.size, o, none⟩) h.lt).trans (h.cell o), fun o => (hb.frozen (p := ⟨w.heap.size, o, none⟩) h.lt).trans (h.free o), Nat.lt_of_lt_of_le h.lt hb.size, bstep h.below hb⟩

set_option maxRecDepth 100000 in
set_option maxHeartbeats 1600000 in
theorem number_int (s : ByteArray) (w : World) (hl : Laid w) (hs : s.size ≤ 1000) (hd : (s.data.toList.drop (spanL figK s.data.toList)).head? ≠ some 46) :
    Calls Tryz.prog 32 #[.string s] w (RT w (numberT s.data.toList)) := by
  have HL := Lib.hid hl; clear hl
  have HT : Hid (numberT s.data.toList = tailT (s.data.toList.take (spanL figK s.data.toList)) (s.data.toList.take (spanL figK s.data.toList)) (s.data.toList.drop (spanL figK s.data.toList)) 2) := Lib.hid (if_neg hd)
  have hn := spanL_le figK s.data.toList
  rw [← Lib.size_eq] at hn
  obtain ⟨n, hnn⟩ : ∃ n, spanL figK s.data.toList = n := ⟨_, rfl⟩
  rw [hnn] at hn hd HT
  have HN := Lib.hid hnn; clear hnn
  have hni : (n : Int) ≤ s.size := by omega
  have HD : Hid (Lib.hasPrefix (s.extract n s.size).data.toList [46] = false) := Lib.hid (by rw [pre_dot, Lib.extract_to_end]; exact decide_eq_false hd)
  clear hd
  go_enter Tryz.func32, Tryz.ntmps32
  go_wp2_with fail
  refine (span_fig _ _ (by omega)).mono ?_
  rintro e w2 ⟨rfl, rfl⟩
  rw [HN.out]
  go_wp2_with fail
  go_quiet (fail)
  have HB := (TBox.new w).drewN nq
  generalize ((w.alloc (Obj.cells #[Value.int .i64 0, .string ⟨#[]⟩, .int .i64 0, .int .i64 0, .string ⟨#[]⟩, .int .i64 0] 35)).drewN nq) = w9 at HB ⊢
  obtain ⟨c0, f0, z0, b0⟩ := HB
  have HB := Lib.hid (TBox.mk c0 f0 z0 b0)
  clear b0
  go_wp2_with fail
  refine (Tryz.strings_HasPrefix _ _ _).mono ?_
  rintro e w2 ⟨rfl, rfl⟩
  rw [HD.out]
  go_wp2_with fail
  refine (Tryz.strings_HasPrefix _ _ _).mono ?_
  rintro e w2 ⟨rfl, rfl⟩
  rw [HD.out]
  go_wp2_with fail
  refine (span_part _ _ (by rw [ByteArray.size_extract]; omega)).mono ?_
  rintro e w2 ⟨rfl, rfl⟩
  rw [Lib.extract_to_end]
  by_cases hp : 0 < spanL partK (s.data.toList.drop n)
  · have HT2 : Hid (numberT s.data.toList = Tok.no) := Lib.hid (by rw [HT.out]; unfold tailT; rw [if_pos (.inr hp)])
    have hpi : (0 : Int) < (spanL partK (s.data.toList.drop n) : Nat) := by omega
    go_wp2_with fail
    rw [HT2.out]
    refine fin_t (v := Tok.no.enc) rfl ?_ rfl ?_
    · have b0 := HB.out.below
      ((repeat with_reducible first | exact Below.refl _ _ | apply b_alloc | apply b_drewN | apply b_drew | refine b_set ?_ ?_ _ | (refine bstep ?_ (by assumption))); (all_goals (simp; try omega)))
    · simp [results, Tryz.results32, go_sem, Tok.enc, Tok.no, *]
  · have hpi : spanL partK (s.data.toList.drop n) = 0 := by omega
    rw [hpi]
    clear hpi
    have HC : Hid (¬ ((s.data.toList.drop n).head? = some 46 ∨ 0 < spanL partK (s.data.toList.drop n))) := Lib.hid (by
      rintro (h | h)
      · have := HD.out
        rw [pre_dot, Lib.extract_to_end] at this
        exact of_decide_eq_false this h
      · exact hp h)
    clear hp
    go_wp2_with fail
    refine (parseInt_any _ _ (HL.out.later HB.out.below) (by rw [ByteArray.size_extract]; omega)).mono ?_
    rintro e w1 ⟨v, rfl, hv, hb⟩
    rw [show (s.extract 0 n).data.toList = s.data.toList.take n by rw [ext_pre]] at hv
    have HB1 := HB.out.later hb
    obtain ⟨c1, f1, z1, b1⟩ := HB1
    have HB1 := Lib.hid b1
    clear c0 f0 z0 hb b1
    cases hp : parseR (s.data.toList.take n) with
    | none =>
      rw [hp] at hv
      obtain ⟨n0, q0, rfl⟩ := hv
      have HT2 : Hid (numberT s.data.toList = Tok.no) := Lib.hid (by rw [HT.out]; unfold tailT; rw [if_neg HC.out, hp])
      clear hp
      go_wp2_with fail
      rw [HT2.out]
      refine fin_t (v := Tok.no.enc) rfl ?_ rfl ?_
      · have b0 := HB1.out
        ((repeat with_reducible first | exact Below.refl _ _ | apply b_alloc | apply b_drewN | apply b_drew | refine b_set ?_ ?_ _ | (refine bstep ?_ (by assumption))); (all_goals (simp; try omega)))
      · simp [results, Tryz.results32, go_sem, Tok.enc, Tok.no, *]
    | some n0 =>
      rw [hp] at hv
      subst hv
      have HT2 : Hid (numberT s.data.toList = ⟨2, s.data.toList.take n, 2, n0, [], 0⟩) := Lib.hid (by rw [HT.out]; unfold tailT; rw [if_neg HC.out, hp])
      clear hp
      go_wp2_with fail
      rw [HT2.out]
      refine fin_t (v := .agg #[.int .i64 2, .string (s.extract 0 n), .int .i64 2, .int .i64 n0, .string ⟨#[]⟩, .int .i64 0]) (by rw [ext_pre]; rfl) ?_ rfl ?_
      · have b0 := HB1.out
        ((repeat with_reducible first | exact Below.refl _ _ | apply b_alloc | apply b_drewN | apply b_drew | refine b_set ?_ ?_ _ | (refine bstep ?_ (by assumption))); (all_goals (simp; try omega)))
      · simp [results, Tryz.results32, go_sem, *]

end Go.Proofs.YtodhdbikbdlcaaaGreatDoor
