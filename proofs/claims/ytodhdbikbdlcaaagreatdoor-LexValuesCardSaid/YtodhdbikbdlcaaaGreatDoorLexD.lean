/-
  A number with a point.
-/
import Derived.Test.YtodhdbikbdlcaaaGreatDoorLexN
namespace Go.Proofs.YtodhdbikbdlcaaaGreatDoor
set_option linter.unusedSimpArgs false
set_option linter.unusedVariables false
open Go.RowKit

set_option maxRecDepth 100000 in
set_option maxHeartbeats 3200000 in
theorem number_dec (s : ByteArray) (w : World) (hl : Laid w) (hs : s.size ≤ 1000) (hd : (s.data.toList.drop (spanL figK s.data.toList)).head? = some 46) :
    Calls Tryz.prog 32 #[.string s] w (RT w (numberT s.data.toList)) := by
  have HL := Lib.hid hl; clear hl
  have HT : Hid (numberT s.data.toList = decT s.data.toList (spanL figK s.data.toList)) := Lib.hid (if_pos hd)
  have hn1 := head46_len hd
  rw [← Lib.size_eq] at hn1
  have hk := spanL_le figK (s.data.toList.drop (spanL figK s.data.toList + 1))
  rw [List.length_drop, ← Lib.size_eq] at hk
  obtain ⟨n, hnn⟩ : ∃ n, spanL figK s.data.toList = n := ⟨_, rfl⟩
  rw [hnn] at hn1 hd HT hk
  have HN := Lib.hid hnn; clear hnn
  obtain ⟨k, hkk⟩ : ∃ k, spanL figK (s.data.toList.drop (n + 1)) = k := ⟨_, rfl⟩
  rw [hkk] at hk
  have hn : n ≤ s.size := by omega
  have hni : (n : Int) ≤ s.size := by omega
  obtain ⟨R, hR⟩ : ∃ R, s.extract n s.size = R := ⟨_, rfl⟩
  have hRl : R.data.toList = s.data.toList.drop n := by rw [← hR, Lib.extract_to_end]
  have hRz : R.size + n = s.size := by rw [← hR, ByteArray.size_extract]; omega
  have HR := Lib.hid hR; clear hR
  have HD : Hid (Lib.hasPrefix R.data.toList [46] = true) := Lib.hid (by rw [pre_dot, hRl]; exact decide_eq_true hd)
  have HR1 : Hid ((R.extract 1 R.size).data.toList = s.data.toList.drop (n + 1)) := Lib.hid (by rw [Lib.extract_to_end, hRl, List.drop_drop])
  have HRX : ∀ k : Nat, Hid ((R.extract (1 + k) R.size).data.toList = s.data.toList.drop (n + 1 + k)) := fun k => Lib.hid (by rw [Lib.extract_to_end, hRl, List.drop_drop, Nat.add_assoc])
  have HRX := Lib.hid HRX
  have HRL := Lib.hid hRl
  clear hd hRl
  have hr1 : (1 : Int) ≤ R.size := by omega
  have hr1' : 1 ≤ R.size := by omega
  go_enter Tryz.func32, Tryz.ntmps32
  go_wp2_with fail
  refine (span_fig _ _ (by omega)).mono ?_
  rintro e w2 ⟨rfl, rfl⟩
  rw [HN.out]
  go_wp2_with fail
  go_quiet (fail)
  have HB := (TBox.new w).drewN nq
  generalize ((w.alloc (Obj.cells #[Value.int .i64 0, .string ⟨#[]⟩, .int .i64 0, .int .i64 0, .string ⟨#[]⟩, .int .i64 0] 35)).drewN nq) = w9 at HB ⊢
  rw [HR.out]
  obtain ⟨c0, f0, z0, b0⟩ := HB
  have HB := Lib.hid (TBox.mk c0 f0 z0 b0)
  clear b0
  go_wp2_with fail
  refine (Tryz.strings_HasPrefix _ _ _).mono ?_
  rintro e w2 ⟨rfl, rfl⟩
  rw [HD.out]
  go_wp2_with fail
  refine (span_fig _ _ (by simp only [ByteArray.size_extract]; omega)).mono ?_
  rintro e w2 ⟨rfl, rfl⟩
  rw [HR1.out, hkk]
  have HK := Lib.hid hkk; clear hkk
  by_cases hb : k = 0 ∨ 4 < k
  · have HT2 : Hid (numberT s.data.toList = Tok.no) := Lib.hid (by rw [HT.out]; unfold decT; simp only [HK.out]; rw [if_pos hb])
    by_cases h0 : k = 0
    · clear hb
      subst h0
      go_wp2_with fail
      rw [HT2.out]
      refine fin_t (v := Tok.no.enc) rfl ?_ rfl ?_
      · have b0 := HB.out.below
        ((repeat with_reducible first | exact Below.refl _ _ | apply b_alloc | apply b_drewN | apply b_drew | refine b_set ?_ ?_ _ | (refine bstep ?_ (by assumption))); (all_goals (simp; try omega)))
      · simp [results, Tryz.results32, go_sem, Tok.enc, Tok.no, *]
    · have h4 : 4 < k := by omega
      have h4i : (4 : Int) < k := by omega
      have h0b : ((k : Int) == 0) = false := beq_eq_false_iff_ne.2 (by omega)
      clear hb h0
      go_wp2_with fail
      rw [HT2.out]
      refine fin_t (v := Tok.no.enc) rfl ?_ rfl ?_
      · have b0 := HB.out.below
        ((repeat with_reducible first | exact Below.refl _ _ | apply b_alloc | apply b_drewN | apply b_drew | refine b_set ?_ ?_ _ | (refine bstep ?_ (by assumption))); (all_goals (simp; try omega)))
      · simp [results, Tryz.results32, go_sem, Tok.enc, Tok.no, *]
  · have h0b : ((k : Int) == 0) = false := beq_eq_false_iff_ne.2 (by omega)
    have h4d : decide ((4 : Int) < k) = false := decide_eq_false (by omega)
    have h4 : k ≤ 4 := by omega
    have hk0 : 1 ≤ k := by omega
    have hka : 1 + k ≤ R.size := by omega
    have HBB := Lib.hid hb; clear hb
    have a1 : (0 : Int) ≤ 1 + (k : Int) := by omega
    have a2 : (1 : Int) ≤ 1 + (k : Int) := by omega
    have a3 : (1 : Int) + (k : Int) ≤ R.size := by omega
    have a4 : 1 ≤ 1 + k := by omega
    have a5 : ((1 : Int) + (k : Int)).toNat = 1 + k := by omega
    have a6 : IntKind.i64.wrap (1 + (k : Int)) = 1 + (k : Int) := IntWalk.i64_in _ (by omega)
    have a7 : IntKind.i64.wrap (4 - (k : Int)) = 4 - (k : Int) := IntWalk.i64_in _ (by omega)
    go_wp2_with fail
    go_region_with ((go_at_call 12; refine (repeat_int _ _ _ (by decide) (by omega) (by omega)).mono ?_; rintro e w1 ⟨v, rfl, ⟨r, rfl, hr⟩, hb⟩; have hr2 : r.data.toList = List.replicate (4 - k) 48 := (by rw [hr]; exact (repeatL_one 48 _).trans (by congr 1; omega)); clear hr; have hrz : r.size ≤ 10 := (by rw [Lib.size_eq, hr2, List.length_replicate]; omega); have HRR := Lib.hid hr2; clear hr2))
    obtain ⟨c1, f1, z1, b1⟩ := TBox.later (HB.out.drewN 1) hb
    have HB1 := Lib.hid (TBox.mk c1 f1 z1 b1)
    clear c0 f0 z0 hb b1 c1 f1
    have d1 : IntKind.i64.wrap ((n : Int) + 1) = (n : Int) + 1 := IntWalk.i64_in _ (by omega)
    have d2 : IntKind.i64.wrap ((n : Int) + 1 + (k : Int)) = (n : Int) + 1 + (k : Int) := IntWalk.i64_in _ (by omega)
    go_wp2_with fail
    go_quiet (fail)
    clear d1 d2
    obtain ⟨c1, f1, z1, b1⟩ := HB1.out.drewN nq
    have HB2 := Lib.hid (TBox.mk c1 f1 z1 b1)
    clear HB1 b1
    generalize w1.drewN nq = w3 at c1 f1 z1 HB2 ⊢
    have hz3 : (s.extract 0 n ++ (R.extract 1 (1 + k) ++ r)).size ≤ 100000 := by
      rw [ByteArray.size_append, ByteArray.size_append, ByteArray.size_extract, ByteArray.size_extract]; omega
    have HF : Hid ((s.extract 0 n ++ (R.extract 1 (1 + k) ++ r)).data.toList = s.data.toList.take n ++ ((s.data.toList.drop (n + 1)).take k ++ List.replicate (4 - k) 48)) := Lib.hid (by
      have e2 : (R.extract 1 (1 + k)).data.toList = (s.data.toList.drop (n + 1)).take k := by
        rw [Lib.extract_data, HRL.out, List.drop_drop, show 1 + k - 1 = k by omega]
      rw [data_append, data_append, e2, HRR.out, ext_pre])
    generalize s.extract 0 n ++ (R.extract 1 (1 + k) ++ r) = F at hz3 HF ⊢
    go_wp2_with fail
    have HT3 : Hid (numberT s.data.toList = tailT (s.data.toList.take (n + 1 + k)) (s.data.toList.take n ++ ((s.data.toList.drop (n + 1)).take k ++ List.replicate (4 - k) 48)) (s.data.toList.drop (n + 1 + k)) 3) := Lib.hid (by
      rw [HT.out]; unfold decT; simp only [HK.out]; rw [if_neg HBB.out])
    have hnk : n + 1 + k ≤ s.size := by omega
    refine (Tryz.strings_HasPrefix _ _ _).mono ?_
    rintro e w4 ⟨rfl, rfl⟩
    rw [(HRX.out k).out, pre_dot]
    by_cases hdot : (s.data.toList.drop (n + 1 + k)).head? = some 46
    · have HT4 : Hid (numberT s.data.toList = Tok.no) := Lib.hid (by rw [HT3.out]; unfold tailT; rw [if_pos (.inl hdot)])
      rw [decide_eq_true hdot]
      clear hdot
      go_wp2_with fail
      rw [HT4.out]
      refine fin_t (v := Tok.no.enc) rfl ?_ rfl ?_
      · have b0 := HB2.out.below
        ((repeat with_reducible first | exact Below.refl _ _ | apply b_alloc | apply b_drewN | apply b_drew | refine b_set ?_ ?_ _ | (refine bstep ?_ (by assumption))); (all_goals (simp; try omega)))
      · simp [results, Tryz.results32, go_sem, Tok.enc, Tok.no, *]
    · rw [decide_eq_false hdot]
      have HDT := Lib.hid hdot; clear hdot
      go_wp2_with fail
      refine (span_part _ _ (by rw [ByteArray.size_extract]; omega)).mono ?_
      rintro e w4 ⟨rfl, rfl⟩
      rw [(HRX.out k).out]
      by_cases hp : 0 < spanL partK (s.data.toList.drop (n + 1 + k))
      · have HT4 : Hid (numberT s.data.toList = Tok.no) := Lib.hid (by rw [HT3.out]; unfold tailT; rw [if_pos (.inr hp)])
        have hpi : (0 : Int) < (spanL partK (s.data.toList.drop (n + 1 + k)) : Nat) := by omega
        go_wp2_with fail
        rw [HT4.out]
        refine fin_t (v := Tok.no.enc) rfl ?_ rfl ?_
        · have b0 := HB2.out.below
          ((repeat with_reducible first | exact Below.refl _ _ | apply b_alloc | apply b_drewN | apply b_drew | refine b_set ?_ ?_ _ | (refine bstep ?_ (by assumption))); (all_goals (simp; try omega)))
        · simp [results, Tryz.results32, go_sem, Tok.enc, Tok.no, *]
      · have hpi : spanL partK (s.data.toList.drop (n + 1 + k)) = 0 := by omega
        rw [hpi]
        clear hpi
        have HC : Hid (¬ ((s.data.toList.drop (n + 1 + k)).head? = some 46 ∨ 0 < spanL partK (s.data.toList.drop (n + 1 + k)))) := Lib.hid (by
          rintro (h | h)
          · exact HDT.out h
          · exact hp h)
        clear hp
        go_wp2_with fail
        refine (parseInt_any _ _ (HL.out.later HB2.out.below) hz3).mono ?_
        rintro e w5 ⟨v, rfl, hv, hb⟩
        rw [HF.out] at hv
        obtain ⟨c2, f2, z2, b2⟩ := HB2.out.later hb
        have HB3 := Lib.hid b2
        clear c1 f1 z1 hb b2
        cases hp : parseR (s.data.toList.take n ++ ((s.data.toList.drop (n + 1)).take k ++ List.replicate (4 - k) 48)) with
        | none =>
          rw [hp] at hv
          obtain ⟨n0, q0, rfl⟩ := hv
          have HT4 : Hid (numberT s.data.toList = Tok.no) := Lib.hid (by rw [HT3.out]; unfold tailT; rw [if_neg HC.out, hp])
          clear hp
          go_wp2_with fail
          rw [HT4.out]
          refine fin_t (v := Tok.no.enc) rfl ?_ rfl ?_
          · have b0 := HB3.out
            ((repeat with_reducible first | exact Below.refl _ _ | apply b_alloc | apply b_drewN | apply b_drew | refine b_set ?_ ?_ _ | (refine bstep ?_ (by assumption))); (all_goals (simp; try omega)))
          · simp [results, Tryz.results32, go_sem, Tok.enc, Tok.no, *]
        | some n0 =>
          rw [hp] at hv
          subst hv
          have HT4 : Hid (numberT s.data.toList = ⟨2, s.data.toList.take (n + 1 + k), 3, n0, [], 0⟩) := Lib.hid (by rw [HT3.out]; unfold tailT; rw [if_neg HC.out, hp])
          clear hp
          go_wp2_with fail
          rw [HT4.out]
          refine fin_t (v := .agg #[.int .i64 2, .string (s.extract 0 (n + 1 + k)), .int .i64 3, .int .i64 n0, .string ⟨#[]⟩, .int .i64 0]) (by rw [ext_pre]; rfl) ?_ rfl ?_
          · have b0 := HB3.out
            ((repeat with_reducible first | exact Below.refl _ _ | apply b_alloc | apply b_drewN | apply b_drew | refine b_set ?_ ?_ _ | (refine bstep ?_ (by assumption))); (all_goals (simp; try omega)))
          · simp [results, Tryz.results32, go_sem, *]

theorem number_any (s : ByteArray) (w : World) (hl : Laid w) (hs : s.size ≤ 1000) : Calls Tryz.prog 32 #[.string s] w (RT w (numberT s.data.toList)) := by
  by_cases hd : (s.data.toList.drop (spanL figK s.data.toList)).head? = some 46
  · exact number_dec s w hl hs hd
  · exact number_int s w hl hs hd

end Go.Proofs.YtodhdbikbdlcaaaGreatDoor
