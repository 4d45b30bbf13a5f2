/-
  The token that a text begins with.
-/
import Derived.Test.YtodhdbikbdlcaaaGreatDoorLexD
namespace Go.Proofs.YtodhdbikbdlcaaaGreatDoor
set_option linter.unusedSimpArgs false
set_option linter.unusedVariables false
open Go.RowKit

theorem toLower_low (l : List UInt8) : Lib.toLowerA l = l.map lowB := by
  unfold Lib.toLowerA
  apply List.map_congr_left
  intro c _
  unfold Lib.lowerB Lib.isUpperB lowB
  simp [UInt8.le_iff_toNat_le]
theorem span_ascii : ∀ (l : List UInt8) (c : UInt8), c ∈ l.take (spanL partK l) → c.toNat < 128
  | [], c, h => by simp at h
  | d :: l, c, h => by
    unfold spanL at h
    by_cases hp : partK (ofB d) = true
    · rw [if_pos hp, List.take_succ_cons] at h
      rcases List.mem_cons.1 h with rfl | h
      · unfold partK at hp
        have : 2 ≤ ofB c := of_decide_eq_true hp
        unfold ofB at this
        (repeat' split at this) <;> omega
      · exact span_ascii l c h
    · rw [if_neg hp] at h; simp at h


theorem get_at (s : ByteArray) (i : Nat) (h : i < s.size) : s.data.toList[i]? = some s[i] := by
  rw [List.getElem?_eq_getElem (by rw [← Lib.size_eq]; exact h)]; rfl

set_option maxRecDepth 100000 in
set_option maxHeartbeats 1600000 in
theorem next_raw (s : ByteArray) (w : World) (hs : s.size ≤ 1000) (h0 : 0 < s.size) (h1 : 1 < s.size) (h2 : ofB s[0] = 2) (h3 : s[1] = 39) (h4 : s[0] = 120 ∨ s[0] = 88) : Calls Tryz.prog 16 #[.string s] w (RT w (nextT s.data.toList)) := by
  obtain ⟨t, ht⟩ : ∃ t, rawT s.data.toList = t := ⟨_, rfl⟩
  have HT : Hid (nextT s.data.toList = t) := Lib.hid (by
    rw [← ht]
    unfold nextT
    rw [head_at s h0]
    rw [if_pos h2, if_pos]
    unfold rawLike
    rw [head_at s h0, get_at s 1 h1, h3]
    rcases h4 with h | h <;> rw [h] <;> rfl)
  have HE := Lib.hid ht
  clear ht
  have hi0 : (0 : Int) < s.size := by omega
  have hc := (s[0]).toNat_lt
  have hi1 : (1 : Int) < s.size := by omega
  have hc1 := (s[1]).toNat_lt
  have g3 : ((s[1].toNat : Int) == 39) = true := by rw [h3]; rfl
  have HO := Lib.hid h2
  clear h2 h3
  rcases h4 with h | h
  · have g4 : ((s[0].toNat : Int) == 120) = true := by rw [h]; rfl
    clear h
    go_enter Tryz.func16, Tryz.ntmps16
    go_wp2_with (go_at_call 15; refine (of_any _ _).mono ?_; rintro e w2 ⟨rfl, rfl⟩; (rw [HO.out]))
    refine (raw_any _ _ hs (by omega)).mono ?_
    rintro e w1 ⟨rfl, hb⟩
    rw [HE.out]
    obtain ⟨c0, f0, z0, b0⟩ := (TBox.new w).later hb
    have HB := Lib.hid b0
    clear hb b0
    unfold Tok.enc
    go_wp2_with fail
    rw [HT.out]
    refine fin_t (v := t.enc) rfl ?_ rfl ?_
    · have b0 := HB.out
      ((repeat with_reducible first | exact Below.refl _ _ | apply b_alloc | apply b_drewN | apply b_drew | refine b_set ?_ ?_ _ | (refine bstep ?_ (by assumption))); (all_goals (simp; try omega)))
    · simp [results, Tryz.results16, go_sem, Tok.enc, *]
  · have g4 : ((s[0].toNat : Int) == 120) = false := by rw [h]; rfl
    have g5 : ((s[0].toNat : Int) == 88) = true := by rw [h]; rfl
    clear h
    go_enter Tryz.func16, Tryz.ntmps16
    go_wp2_with (go_at_call 15; refine (of_any _ _).mono ?_; rintro e w2 ⟨rfl, rfl⟩; (rw [HO.out]))
    refine (raw_any _ _ hs (by omega)).mono ?_
    rintro e w1 ⟨rfl, hb⟩
    rw [HE.out]
    obtain ⟨c0, f0, z0, b0⟩ := (TBox.new w).later hb
    have HB := Lib.hid b0
    clear hb b0
    unfold Tok.enc
    go_wp2_with fail
    rw [HT.out]
    refine fin_t (v := t.enc) rfl ?_ rfl ?_
    · have b0 := HB.out
      ((repeat with_reducible first | exact Below.refl _ _ | apply b_alloc | apply b_drewN | apply b_drew | refine b_set ?_ ?_ _ | (refine bstep ?_ (by assumption))); (all_goals (simp; try omega)))
    · simp [results, Tryz.results16, go_sem, Tok.enc, *]

set_option maxRecDepth 100000 in
set_option maxHeartbeats 1600000 in
theorem next_num (s : ByteArray) (w : World) (hl : Laid w) (hs : s.size ≤ 1000) (h0 : 0 < s.size) (h3 : ofB s[0] = 3) : Calls Tryz.prog 16 #[.string s] w (RT w (nextT s.data.toList)) := by
  obtain ⟨t, ht⟩ : ∃ t, numberT s.data.toList = t := ⟨_, rfl⟩
  have HT : Hid (nextT s.data.toList = t) := Lib.hid (by
    rw [← ht]
    unfold nextT
    rw [head_at s h0]
    rw [if_neg (by rw [h3]; decide), if_pos h3])
  have HE := Lib.hid ht
  clear ht
  have hi0 : (0 : Int) < s.size := by omega
  have hc := (s[0]).toNat_lt
  have HL := Lib.hid hl; clear hl
  have HO := Lib.hid h3
  clear h3
  go_enter Tryz.func16, Tryz.ntmps16
  go_wp2_with (go_at_call 15; refine (of_any _ _).mono ?_; rintro e w2 ⟨rfl, rfl⟩; (rw [HO.out]))
  refine (number_any _ _ (HL.out.later (b_alloc (Below.refl _ _) _)) hs).mono ?_
  rintro e w1 ⟨rfl, hb⟩
  rw [HE.out]
  obtain ⟨c0, f0, z0, b0⟩ := (TBox.new w).later hb
  have HB := Lib.hid b0
  clear hb b0
  unfold Tok.enc
  go_wp2_with fail
  rw [HT.out]
  refine fin_t (v := t.enc) rfl ?_ rfl ?_
  · have b0 := HB.out
    ((repeat with_reducible first | exact Below.refl _ _ | apply b_alloc | apply b_drewN | apply b_drew | refine b_set ?_ ?_ _ | (refine bstep ?_ (by assumption))); (all_goals (simp; try omega)))
  · simp [results, Tryz.results16, go_sem, Tok.enc, *]

set_option maxRecDepth 100000 in
set_option maxHeartbeats 1600000 in
theorem next_text (s : ByteArray) (w : World) (hs : s.size ≤ 1000) (h0 : 0 < s.size) (h2 : ¬ ofB s[0] = 2) (h3 : ¬ ofB s[0] = 3) (h4 : s[0] = 39) : Calls Tryz.prog 16 #[.string s] w (RT w (nextT s.data.toList)) := by
  obtain ⟨t, ht⟩ : ∃ t, textT s.data.toList = t := ⟨_, rfl⟩
  have HT : Hid (nextT s.data.toList = t) := Lib.hid (by
    rw [← ht]
    unfold nextT
    rw [head_at s h0]
    rw [if_neg h2, if_neg h3, if_pos h4])
  have HE := Lib.hid ht
  clear ht
  have hi0 : (0 : Int) < s.size := by omega
  have hc := (s[0]).toNat_lt
  have g2 : (((ofB s[0] : Nat) : Int) == 2) = false := beq_eq_false_iff_ne.2 (by omega)
  have g3 : (((ofB s[0] : Nat) : Int) == 3) = false := beq_eq_false_iff_ne.2 (by omega)
  have g4 : ((s[0].toNat : Int) == 39) = true := by rw [h4]; rfl
  clear h4 h2 h3
  go_enter Tryz.func16, Tryz.ntmps16
  go_wp2_with (go_at_call 15; refine (of_any _ _).mono ?_; rintro e w2 ⟨rfl, rfl⟩)
  refine (text_tok _ _ hs).mono ?_
  rintro e w1 ⟨rfl, hb⟩
  rw [HE.out]
  obtain ⟨c0, f0, z0, b0⟩ := (TBox.new w).later hb
  have HB := Lib.hid b0
  clear hb b0
  unfold Tok.enc
  go_wp2_with fail
  rw [HT.out]
  refine fin_t (v := t.enc) rfl ?_ rfl ?_
  · have b0 := HB.out
    ((repeat with_reducible first | exact Below.refl _ _ | apply b_alloc | apply b_drewN | apply b_drew | refine b_set ?_ ?_ _ | (refine bstep ?_ (by assumption))); (all_goals (simp; try omega)))
  · simp [results, Tryz.results16, go_sem, Tok.enc, *]

set_option maxRecDepth 100000 in
set_option maxHeartbeats 1600000 in
theorem next_sign (s : ByteArray) (w : World) (hs : s.size ≤ 1000) (h0 : 0 < s.size) (h2 : ¬ ofB s[0] = 2) (h3 : ¬ ofB s[0] = 3) (h4 : ¬ s[0] = 39) : Calls Tryz.prog 16 #[.string s] w (RT w (nextT s.data.toList)) := by
  obtain ⟨t, ht⟩ : ∃ t, signT s.data.toList = t := ⟨_, rfl⟩
  have HT : Hid (nextT s.data.toList = t) := Lib.hid (by
    rw [← ht]
    unfold nextT
    rw [head_at s h0]
    rw [if_neg h2, if_neg h3, if_neg h4])
  have HE := Lib.hid ht
  clear ht
  have hi0 : (0 : Int) < s.size := by omega
  have hc := (s[0]).toNat_lt
  have g2 : (((ofB s[0] : Nat) : Int) == 2) = false := beq_eq_false_iff_ne.2 (by omega)
  have g3 : (((ofB s[0] : Nat) : Int) == 3) = false := beq_eq_false_iff_ne.2 (by omega)
  have g4 : ((s[0].toNat : Int) == 39) = false := beq_eq_false_iff_ne.2 (fun e => h4 (UInt8.toNat_inj.1 (by show s[0].toNat = 39; omega)))
  clear h4 h2 h3
  go_enter Tryz.func16, Tryz.ntmps16
  go_wp2_with (go_at_call 15; refine (of_any _ _).mono ?_; rintro e w2 ⟨rfl, rfl⟩)
  refine (sign_any _ _ (by omega)).mono ?_
  rintro e w1 ⟨rfl, hb⟩
  rw [HE.out]
  obtain ⟨c0, f0, z0, b0⟩ := (TBox.new w).later hb
  have HB := Lib.hid b0
  clear hb b0
  unfold Tok.enc
  go_wp2_with fail
  rw [HT.out]
  refine fin_t (v := t.enc) rfl ?_ rfl ?_
  · have b0 := HB.out
    ((repeat with_reducible first | exact Below.refl _ _ | apply b_alloc | apply b_drewN | apply b_drew | refine b_set ?_ ?_ _ | (refine bstep ?_ (by assumption))); (all_goals (simp; try omega)))
  · simp [results, Tryz.results16, go_sem, Tok.enc, *]

/-- How it is known that no bytes stand there. -/
def NoRaw (s : ByteArray) : Prop := s.size = 1 ∨ (∃ h : 1 < s.size, ¬ s[1] = 39) ∨ (∃ h : 1 < s.size, s[1] = 39 ∧ ¬ s[0] = 120 ∧ ¬ s[0] = 88)
set_option maxRecDepth 100000 in
set_option maxHeartbeats 1600000 in
theorem next_word (s : ByteArray) (w : World) (hs : s.size ≤ 1000) (h0 : 0 < s.size) (h2 : ofB s[0] = 2) (hn : NoRaw s) : Calls Tryz.prog 16 #[.string s] w (RT w (nextT s.data.toList)) := by
  obtain ⟨m, hm⟩ : ∃ m, spanL partK s.data.toList = m := ⟨_, rfl⟩
  have hml := spanL_le partK s.data.toList
  rw [hm, ← Lib.size_eq] at hml
  have hmi : (m : Int) ≤ s.size := by omega
  have hasc := span_ascii s.data.toList
  rw [hm] at hasc
  have HA : Hid (∀ (j : Nat) (b : UInt8), (s.extract 0 m).data.toList[j]? = some b → b.toNat < 128) := Lib.hid (fun j b h => by
    rw [ext_pre] at h
    exact hasc b (List.mem_of_getElem? h))
  have HX : Hid (Lib.toLowerA (s.extract 0 m).data.toList = (s.data.toList.take m).map lowB) := Lib.hid (by rw [toLower_low, ext_pre])
  clear hasc
  have HT : Hid (nextT s.data.toList = ⟨1, (s.data.toList.take m).map lowB, 0, 0, [], 0⟩) := Lib.hid (by
    unfold nextT
    rw [head_at s h0, if_pos h2, if_neg, hm]
    unfold rawLike
    rw [head_at s h0]
    intro h
    rw [Bool.and_eq_true, Bool.or_eq_true, beq_iff_eq, beq_iff_eq, beq_iff_eq] at h
    rcases hn with hz | ⟨h1, h3⟩ | ⟨h1, h3, h4, h5⟩
    · have := h.2
      rw [List.getElem?_eq_none (by rw [← Lib.size_eq]; omega)] at this
      cases this
    · have := h.2
      rw [get_at s 1 h1] at this
      exact h3 (Option.some.inj this)
    · rcases h.1 with h' | h'
      · exact h4 h'
      · exact h5 h')
  have HM := Lib.hid hm; clear hm
  have HO := Lib.hid h2; clear h2
  have hi0 : (0 : Int) < s.size := by omega
  have hc := (s[0]).toNat_lt
  rcases hn with hz | ⟨h1, h3⟩ | ⟨h1, h3, h4, h5⟩
  · have hg : decide ((1 : Int) < s.size) = false := decide_eq_false (by omega)
    clear hz
    go_enter Tryz.func16, Tryz.ntmps16
    go_wp2_with (first | (go_at_call 15; refine (of_any _ _).mono ?_; rintro e w2 ⟨rfl, rfl⟩; (rw [HO.out])) | (go_at_call 30; refine (span_part _ _ (by omega)).mono ?_; rintro e w2 ⟨rfl, rfl⟩; (rw [HM.out])))
    refine (Tryz.strings_ToLower_ascii _ _ (by rw [ByteArray.size_extract]; omega) HA.out).mono ?_
    rintro e w1 ⟨rfl, hb⟩
    rw [HX.out]
    obtain ⟨c0, f0, z0, b0⟩ := (TBox.new w).later hb
    have HB := Lib.hid b0
    clear hb b0
    go_wp2_with fail
    rw [HT.out]
    refine fin_t (v := .agg #[.int .i64 1, .string ⟨((s.data.toList.take m).map lowB).toArray⟩, .int .i64 0, .int .i64 0, .string ⟨#[]⟩, .int .i64 0]) rfl ?_ rfl ?_
    · have b0 := HB.out
      ((repeat with_reducible first | exact Below.refl _ _ | apply b_alloc | apply b_drewN | apply b_drew | refine b_set ?_ ?_ _ | (refine bstep ?_ (by assumption))); (all_goals (simp; try omega)))
    · simp [results, Tryz.results16, go_sem, *]
  · have hi1 : (1 : Int) < s.size := by omega
    have hc1 := (s[1]).toNat_lt
    have g3 : ((s[1].toNat : Int) == 39) = false := beq_eq_false_iff_ne.2 (fun e => h3 (UInt8.toNat_inj.1 (by show s[1].toNat = 39; omega)))
    clear h3
    go_enter Tryz.func16, Tryz.ntmps16
    go_wp2_with (first | (go_at_call 15; refine (of_any _ _).mono ?_; rintro e w2 ⟨rfl, rfl⟩; (rw [HO.out])) | (go_at_call 30; refine (span_part _ _ (by omega)).mono ?_; rintro e w2 ⟨rfl, rfl⟩; (rw [HM.out])))
    refine (Tryz.strings_ToLower_ascii _ _ (by rw [ByteArray.size_extract]; omega) HA.out).mono ?_
    rintro e w1 ⟨rfl, hb⟩
    rw [HX.out]
    obtain ⟨c0, f0, z0, b0⟩ := (TBox.new w).later hb
    have HB := Lib.hid b0
    clear hb b0
    go_wp2_with fail
    rw [HT.out]
    refine fin_t (v := .agg #[.int .i64 1, .string ⟨((s.data.toList.take m).map lowB).toArray⟩, .int .i64 0, .int .i64 0, .string ⟨#[]⟩, .int .i64 0]) rfl ?_ rfl ?_
    · have b0 := HB.out
      ((repeat with_reducible first | exact Below.refl _ _ | apply b_alloc | apply b_drewN | apply b_drew | refine b_set ?_ ?_ _ | (refine bstep ?_ (by assumption))); (all_goals (simp; try omega)))
    · simp [results, Tryz.results16, go_sem, *]
  · have hi1 : (1 : Int) < s.size := by omega
    have hc1 := (s[1]).toNat_lt
    have g3 : ((s[1].toNat : Int) == 39) = true := by rw [h3]; rfl
    have g4 : ((s[0].toNat : Int) == 120) = false := beq_eq_false_iff_ne.2 (fun e => h4 (UInt8.toNat_inj.1 (by show s[0].toNat = 120; omega)))
    have g5 : ((s[0].toNat : Int) == 88) = false := beq_eq_false_iff_ne.2 (fun e => h5 (UInt8.toNat_inj.1 (by show s[0].toNat = 88; omega)))
    clear h3 h4 h5
    go_enter Tryz.func16, Tryz.ntmps16
    go_wp2_with (first | (go_at_call 15; refine (of_any _ _).mono ?_; rintro e w2 ⟨rfl, rfl⟩; (rw [HO.out])) | (go_at_call 30; refine (span_part _ _ (by omega)).mono ?_; rintro e w2 ⟨rfl, rfl⟩; (rw [HM.out])))
    refine (Tryz.strings_ToLower_ascii _ _ (by rw [ByteArray.size_extract]; omega) HA.out).mono ?_
    rintro e w1 ⟨rfl, hb⟩
    rw [HX.out]
    obtain ⟨c0, f0, z0, b0⟩ := (TBox.new w).later hb
    have HB := Lib.hid b0
    clear hb b0
    go_wp2_with fail
    rw [HT.out]
    refine fin_t (v := .agg #[.int .i64 1, .string ⟨((s.data.toList.take m).map lowB).toArray⟩, .int .i64 0, .int .i64 0, .string ⟨#[]⟩, .int .i64 0]) rfl ?_ rfl ?_
    · have b0 := HB.out
      ((repeat with_reducible first | exact Below.refl _ _ | apply b_alloc | apply b_drewN | apply b_drew | refine b_set ?_ ?_ _ | (refine bstep ?_ (by assumption))); (all_goals (simp; try omega)))
    · simp [results, Tryz.results16, go_sem, *]

theorem next_any (s : ByteArray) (w : World) (hl : Laid w) (hs : s.size ≤ 1000) (h0 : 0 < s.size) : Calls Tryz.prog 16 #[.string s] w (RT w (nextT s.data.toList)) := by
  by_cases h2 : ofB s[0] = 2
  · by_cases h1 : 1 < s.size
    · by_cases h3 : s[1] = 39
      · by_cases h4 : s[0] = 120 ∨ s[0] = 88
        · exact next_raw s w hs h0 h1 h2 h3 h4
        · exact next_word s w hs h0 h2 (.inr (.inr ⟨h1, h3, fun h => h4 (.inl h), fun h => h4 (.inr h)⟩))
      · exact next_word s w hs h0 h2 (.inr (.inl ⟨h1, h3⟩))
    · exact next_word s w hs h0 h2 (.inl (by omega))
  · by_cases h3 : ofB s[0] = 3
    · exact next_num s w hl hs h0 h3
    · by_cases h4 : s[0] = 39
      · exact next_text s w hs h0 h2 h3 h4
      · exact next_sign s w hs h0 h2 h3 h4

end Go.Proofs.YtodhdbikbdlcaaaGreatDoor
