/-
  What stands between quotes.
-/
import Derived.Test.YtodhdbikbdlcaaaGreatDoorLexA
import Derived.Test.YtodhdbikbdlcaaaGreatDoorOwn
namespace Go.Proofs.YtodhdbikbdlcaaaGreatDoor
set_option linter.unusedSimpArgs false
set_option linter.unusedVariables false
open Go.RowKit

/-- What quoted comes to, from place i on, with so much gathered. -/
def quoR (acc : List UInt8) (i : Nat) (l : List UInt8) : List UInt8 × Nat := match quotedL l with
  | none => ([], 0)
  | some (o, n) => (acc ++ o, i + n)
theorem quoR_end {acc : List UInt8} {i : Nat} : quoR acc i [] = ([], 0) := rfl
theorem quoR_close {acc : List UInt8} {i : Nat} {l : List UInt8} (h : l.head? ≠ some 39) : quoR acc i (39 :: l) = (acc, i + 1) := by
  unfold quoR
  cases l with
  | nil => simp [quotedL]
  | cons d r =>
    have hd : ¬ d = 39 := fun e => h (by rw [e]; rfl)
    simp [quotedL, hd]
theorem quoR_two {acc : List UInt8} {i : Nat} {l : List UInt8} : quoR acc i (39 :: 39 :: l) = quoR (acc ++ [39]) (i + 2) l := by
  unfold quoR
  simp only [quotedL, if_true]
  cases quotedL l with
  | none => rfl
  | some x => simp; omega
theorem quoR_other {acc : List UInt8} {i : Nat} {c : UInt8} {l : List UInt8} (h : ¬ c = 39) : quoR acc i (c :: l) = quoR (acc ++ [c]) (i + 1) l := by
  unfold quoR
  cases l with
  | nil => simp [quotedL, h]
  | cons d r =>
    simp only [quotedL, if_neg h]
    cases quotedL (d :: r) with
    | none => rfl
    | some x => simp; omega

def RetQ (w : World) (x : List UInt8 × Nat) : Ending → World → Prop := Ret w fun v _ => v = .tuple #[.string ⟨x.1.toArray⟩, .int .i64 (x.2 : Nat)]

set_option maxRecDepth 100000 in
set_option maxHeartbeats 1600000 in
theorem quoted_any (s : ByteArray) (w : World) (hs : s.size ≤ 1000) : Calls Tryz.prog 48 #[.string s] w (RetQ w (quoR [] 1 (s.data.toList.drop 1))) := by
  go_enter Tryz.func48, Tryz.ntmps48
  go_wp2_with fail
  go_loopw [4, 5] (fun v i wr => ∃ (k : Nat) (acc : List UInt8), k ≤ s.size + 1 ∧ 1 ≤ k ∧ acc.length ≤ k ∧ i = .int .i64 k ∧ OwnB wr w.heap.size v acc ∧ Hid (quoR [] 1 (s.data.toList.drop 1) = quoR acc k (s.data.toList.drop k)) ∧ Hid (Below w.heap.size w wr)) (fun _ i _ => s.size + 1 - (intOf i).toNat)
  case atStart => exact ⟨1, [], by omega, by omega, by simp, rfl, OwnB.nil _ _, Lib.hid rfl, Lib.hid (Below.refl _ _)⟩
  case round =>
    obtain ⟨k, acc, hk, hk1, hacc, rfl, hown, HR, HB⟩ := hrel
    have hsz := HB.out.size
    by_cases hlt : k < s.size
    · have hd : s.data.toList.drop k = s[k] :: s.data.toList.drop (k + 1) := by
        rw [List.drop_eq_getElem_cons (by simpa using hlt)]; rfl
      have HD := Lib.hid hd; clear hd
      have hc := (s[k]).toNat_lt
      by_cases hq : s[k] = 39
      · have hqb : ((s[k].toNat : Int) == 39) = true := by rw [hq]; rfl
        by_cases hlt2 : k + 1 < s.size
        · have hd2 : s.data.toList.drop (k + 1) = s[k + 1] :: s.data.toList.drop (k + 2) := by
            rw [List.drop_eq_getElem_cons (by simpa using hlt2)]; rfl
          have HD2 := Lib.hid hd2; clear hd2
          have hc2 := (s[k + 1]).toNat_lt
          have hne : (((k : Int) + 1) == s.size) = false := beq_eq_false_iff_ne.2 (by omega)
          have HQ := Lib.hid hq; clear hq
          by_cases hq2 : s[k + 1] = 39
          · have hqb2 : ((s[k + 1].toNat : Int) != 39) = false := by rw [hq2]; rfl
            have HQ2 := Lib.hid hq2; clear hq2
            go_wp2_with (at_builtin; refine wpList_append_bytes rfl (.tmp 34) (.tmp 38) rfl w.heap.size u4 acc rfl (by exact hown.later ((Below.refl _ _).alloc (Nat.le_refl _) _)) ⟨wr.heap.size, 0, none⟩ 1 1 [s[k + 1]] rfl rfl (by intro j u hu; match j, hu with | 0, hu => (simp at hu; subst hu; simp [Addr.add])) (by omega) (by simp; omega) ?_; intro v' w3 hown hbel; have HOW := Lib.hid hown; have HBE := Lib.hid hbel; clear hown hbel)
            go_roundw
            case rel =>
              refine ⟨k + 2, acc ++ [s[k + 1]], by omega, by omega, by simp; omega, by go_num, HOW.out, Lib.hid ?_, Lib.hid ?_⟩
              · rw [HR.out, HD.out, HD2.out, HQ.out, HQ2.out, quoR_two]
              · exact (HB.out.alloc hsz _).trans HBE.out
            case measure => simp [intOf]; omega
          · have hqb2 : ((s[k + 1].toNat : Int) != 39) = true := by
              rw [bne_iff_ne]; exact fun e => hq2 (UInt8.toNat_inj.1 (by show s[k + 1].toNat = 39; omega))
            have HQ2 := Lib.hid hq2; clear hq2
            have hconv := run_string_own hown
            go_wp2_with fail
            go_ret2
            refine ⟨_, rfl, ?_, HB.out⟩
            rw [HR.out, HD.out, HQ.out, quoR_close (by rw [HD2.out]; simpa using HQ2.out)]
            rfl
        · have hne : (((k : Int) + 1) == s.size) = true := beq_iff_eq.2 (by omega)
          have HQ := Lib.hid hq; clear hq
          have hconv := run_string_own hown
          go_wp2_with fail
          go_ret2
          refine ⟨_, rfl, ?_, HB.out⟩
          rw [HR.out, HD.out, HQ.out, quoR_close (by rw [List.drop_eq_nil_of_le (by simp; omega)]; simp)]
          rfl
      · have hqb : ((s[k].toNat : Int) == 39) = false := beq_eq_false_iff_ne.2 (fun e => hq (UInt8.toNat_inj.1 (by show s[k].toNat = 39; omega)))
        have HQ := Lib.hid hq; clear hq
        go_wp2_with (at_builtin; refine wpList_append_bytes rfl (.tmp 34) (.tmp 38) rfl w.heap.size u4 acc rfl (by exact hown.later ((Below.refl _ _).alloc (Nat.le_refl _) _)) ⟨wr.heap.size, 0, none⟩ 1 1 [s[k]] rfl rfl (by intro j u hu; match j, hu with | 0, hu => (simp at hu; subst hu; simp [Addr.add])) (by omega) (by simp; omega) ?_; intro v' w3 hown hbel; have HOW := Lib.hid hown; have HBE := Lib.hid hbel; clear hown hbel)
        go_roundw
        case rel =>
          refine ⟨k + 1, acc ++ [s[k]], by omega, by omega, by simp; omega, by go_num, HOW.out, Lib.hid ?_, Lib.hid ?_⟩
          · rw [HR.out, HD.out, quoR_other HQ.out]
          · exact (HB.out.alloc hsz _).trans HBE.out
        case measure => simp [intOf]; omega
    · have hge : s.size ≤ k := by omega
      go_wp2_with fail
      go_ret2
      refine ⟨_, rfl, ?_, HB.out⟩
      rw [HR.out, List.drop_eq_nil_of_le (by simp; omega)]; rfl

end Go.Proofs.YtodhdbikbdlcaaaGreatDoor
