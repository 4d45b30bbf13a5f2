/-
  LexAgain answers true.
-/
import Derived.Test.YtodhdbikbdlcaaaDoorLPlaces
namespace Go.Proofs.YtodhdbikbdlcaaaDoor
set_option linter.unusedSimpArgs false
set_option linter.unusedVariables false
open Go.RowKit

set_option maxRecDepth 100000 in
theorem again_out (s : ByteArray) (w : World) (hl : Laid w) (h : (∃ p, lexL s.data.toList = .bad p) ∨ ((400 : Int) < s.size ∧ ∃ l, lexL s.data.toList = .ok l)) :
    Calls Tryd.prog 4 #[.string s] w fun e w' => e = .returned (.bool true) ∧ Below w.heap.size w w' := by
  have HL := Lib.hid hl; clear hl
  rcases h with ⟨p, hx⟩ | ⟨h4, l, hx⟩
  all_goals
    have HX := Lib.hid hx; clear hx
    go_enter Tryd.func4, Tryd.ntmps4
    go_wp2_with fail
    refine (lex_any _ _ HL.out).mono ?_
    rintro e w1 ⟨v, rfl, hv, hb⟩
    rw [HX.out] at hv
    obtain ⟨ev, rfl, he⟩ := hv
    first | (obtain ⟨bb, rfl⟩ := he.open) | skip
    clear he
    have HB := Lib.hid hb; clear hb
    go_wp2_with fail
  all_goals
    refine (alive16 _ (HL.out.later HB.out)).mono ?_
    rintro e w2 ⟨rfl, hb⟩
    have HB2 := Lib.hid (bstep HB.out hb)
    clear hb
    go_wp2_with fail
    go_ret
    exact ⟨rfl, HB2.out⟩

theorem againL_take (l : List Tok) (k : Nat) (hk : k < l.length) : againL (l.take (k + 1)) = againL (l.take k) ++ ((tget l k).t ++ [32]) := by
  rw [List.take_succ_eq_append_getElem hk]
  unfold againL
  rw [List.flatMap_append]
  simp [tget, hk]
theorem againL_le (l : List Tok) (k : Nat) : (againL (l.take k)).length ≤ (againL l).length := by
  have h : againL l = againL (l.take k) ++ againL (l.drop k) := by
    unfold againL; rw [← List.flatMap_append, List.take_append_drop]
  rw [h, List.length_append]; omega
theorem tget_bare {l m : List Tok} (h : m.map (fun t => t.at 0) = l.map (fun t => t.at 0)) (k : Nat) : (tget m k).at 0 = (tget l k).at 0 := by
  have := congrArg (fun x => x.getD k (Tok.no.at 0)) h
  simp only [List.getD_eq_getElem?_getD, List.getElem?_map] at this
  unfold tget
  simp only [List.getD_eq_getElem?_getD]
  cases h1 : m[k]? <;> cases h2 : l[k]? <;> rw [h1, h2] at this <;> simpa using this

set_option maxRecDepth 100000 in
set_option maxHeartbeats 3200000 in
theorem again_ok (s : ByteArray) (w : World) (hl : Laid w) (l : List Tok) (hx : lexL s.data.toList = .ok l) (h4 : s.size ≤ 400) :
    Calls Tryd.prog 4 #[.string s] w fun e w' => e = .returned (.bool true) ∧ Below w.heap.size w w' := by
  have HL := Lib.hid hl; clear hl
  obtain ⟨hs, hto⟩ := lexL_ok hx
  have hne := hto.ne
  have hll := hto.len
  have hal := again_len hto
  rw [← Lib.size_eq] at hs hll hal
  obtain ⟨m, hm, he⟩ := again_of hto 0
  have hxm := lexL_of (by omega) hm
  have hml : m.length = l.length := by have := congrArg List.length he; simpa using this
  have hbare := fun k => tget_bare he k
  have hmne := hm.ne
  have HX := Lib.hid hx; have HXM := Lib.hid hxm; have HBR := Lib.hid hbare; have HML := Lib.hid hml
  clear hx hto hm hxm hbare hml he
  have g0 : decide ((400 : Int) < s.size) = false := decide_eq_false (by omega)
  go_enter Tryd.func4, Tryd.ntmps4
  go_wp2_with fail
  refine (lex_any _ _ HL.out).mono ?_
  rintro e w1 ⟨v, rfl, hv, hb⟩
  rw [HX.out] at hv
  obtain ⟨sv, rfl, ho⟩ := hv
  obtain ⟨g, cap, rfl, hbg, hcap, htk⟩ := ho.form hne
  have HB := Lib.hid hb; have HT := Lib.hid htk
  clear hb ho htk
  go_wp2_with fail
  go_loop [5, 6] (fun x y => ∃ (X : ByteArray) (k : Nat), x = .string X ∧ y = .int .i64 k ∧ k ≤ l.length ∧ X.size ≤ (againL l).length ∧ Hid (X.data.toList = againL (l.take k))) (fun _ y => l.length - (intOf y).toNat)
  case atStart => exact ⟨⟨#[]⟩, 0, rfl, rfl, Nat.zero_le _, Nat.zero_le _, Lib.hid rfl⟩
  case round =>
    obtain ⟨X, k, rfl, rfl, hk, hX, HXX⟩ := hrel
    by_cases hlt : k < l.length
    · have hcell := HT.out.2 k hlt 1 _ rfl
      have hnext := againL_take l k hlt
      have hle := againL_le l (k + 1)
      obtain ⟨t, ht⟩ : ∃ t, (tget l k).t = t := ⟨_, rfl⟩
      rw [ht] at hcell hnext
      have hsz : X.size + t.length + 1 ≤ (againL l).length := by
        rw [hnext, ← HXX.out, List.length_append, List.length_append, ← Lib.size_eq] at hle
        simp at hle; omega
      have HN := Lib.hid hnext
      clear hnext ht hle
      go_wp2_with fail
      go_round
      case rel =>
        refine ⟨_, k + 1, rfl, by go_num, by omega, ?_, Lib.hid ?_⟩
        · rw [ByteArray.size_append, ByteArray.size_append]
          show X.size + t.toArray.size + 1 ≤ _
          simp; omega
        · rw [HN.out, ← HXX.out, data_append, data_append, List.append_assoc]
      case measure => simp [intOf]; omega
    · have hge : l.length ≤ k := by omega
      have HXL : Hid (X.data.toList = againL l) := Lib.hid (by rw [HXX.out, List.take_of_length_le hge])
      go_wp2_with fail
      refine (lex_any _ _ (HL.out.later HB.out)).mono ?_
      rintro e w2 ⟨v, rfl, hv, hb⟩
      rw [HXL.out, HXM.out] at hv
      obtain ⟨sv, rfl, ho⟩ := hv
      obtain ⟨g2, cap2, rfl, hbg2, hcap2, htk2⟩ := ho.form hmne
      rw [HML.out] at hcap2 ⊢
      have HB2 := Lib.hid (bstep HB.out hb); have HT2 := Lib.hid htk2; have HT1 := Lib.hid (HT.out.later hb)
      clear hb ho htk2
      have hmlb : ((l.length : Int) != l.length) = false := by simp
      go_wp2_with fail
      go_loopw [9] (fun x wr => ∃ j : Nat, x = .int .i64 j ∧ j ≤ l.length ∧ Hid (TokIs wr g l) ∧ Hid (TokIs wr g2 m) ∧ Hid (Below w.heap.size w wr)) (fun x _ => l.length - (intOf x).toNat)
      case atStart => exact ⟨0, rfl, Nat.zero_le _, HT1, HT2, HB2⟩
      case round =>
        obtain ⟨j, rfl, hj, HTA, HTB, HB3⟩ := hrel
        by_cases hjl : j < l.length
        · have ca := HTA.out.2 j hjl
          have cb := HTB.out.2 j (by rw [HML.out]; exact hjl)
          have hbb := HBR.out j
          obtain ⟨t, ht⟩ : ∃ t, tget l j = t := ⟨_, rfl⟩
          obtain ⟨u, hu⟩ : ∃ u, tget m j = u := ⟨_, rfl⟩
          rw [ht] at ca hbb
          rw [hu] at cb hbb
          obtain ⟨tk, tt, tvk, tvn, tvs, ta⟩ := t
          obtain ⟨uk, ut, uvk, uvn, uvs, ua⟩ := u
          simp only [Tok.at, Tok.mk.injEq, and_true] at hbb
          obtain ⟨rfl, rfl, rfl, rfl, rfl⟩ := hbb
          have a0 := ca 0 _ rfl; have a1 := ca 1 _ rfl; have a2 := ca 2 _ rfl; have a3 := ca 3 _ rfl; have a4 := ca 4 _ rfl
          have b0 := cb 0 _ rfl; have b1 := cb 1 _ rfl; have b2 := cb 2 _ rfl; have b3 := cb 3 _ rfl; have b4 := cb 4 _ rfl
          rw [Nat.add_zero] at a0 b0
          clear ca cb ht hu
          go_wp2_with fail
          go_quiet (fail)
          go_wp2_with fail
          go_roundw
          case rel => exact ⟨j + 1, by go_num, by omega, HTA, HTB, Lib.hid (b_drewN HB3.out _)⟩
          case measure => simp [intOf]; omega
        · have hge2 : l.length ≤ j := by omega
          go_wp2_with fail
          refine (alive16 _ (HL.out.later HB3.out)).mono ?_
          rintro e w3 ⟨rfl, hb⟩
          have HB4 := Lib.hid (bstep HB3.out hb)
          clear hb
          go_wp2_with fail
          go_ret
          exact ⟨rfl, HB4.out⟩

theorem again_any (s : ByteArray) (w : World) (hl : Laid w) : Calls Tryd.prog 4 #[.string s] w fun e w' => e = .returned (.bool true) ∧ Below w.heap.size w w' := by
  cases h : lexL s.data.toList with
  | bad p => exact again_out s w hl (.inl ⟨p, h⟩)
  | ok l =>
    by_cases h4 : (400 : Int) < s.size
    · exact again_out s w hl (.inr ⟨h4, l, h⟩)
    · exact again_ok s w hl l h (by omega)

end Go.Proofs.YtodhdbikbdlcaaaDoor
