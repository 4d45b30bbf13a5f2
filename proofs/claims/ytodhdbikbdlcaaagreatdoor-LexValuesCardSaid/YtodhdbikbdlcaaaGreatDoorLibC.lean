/-
  The library's contracts in one form: what comes back, and that the world has only grown.
-/
import Derived.Test.YtodhdbikbdlcaaaGreatDoorLaid
import Derived.Lib.SmallJoins
import Derived.Lib.AtoiErrMem
namespace Go.Proofs.YtodhdbikbdlcaaaGreatDoor
set_option linter.unusedSimpArgs false
set_option linter.unusedVariables false
open Go.RowKit

theorem data_append (a b : ByteArray) : (a ++ b).data.toList = a.data.toList ++ b.data.toList := by simp

/-- A string comes back, of these bytes. -/
def RetS (w : World) (l : List UInt8) : Ending → World → Prop := Ret w fun v _ => ∃ r : ByteArray, v = .string r ∧ r.data.toList = l

theorem retS_of {w w' : World} {l : List UInt8} {r : ByteArray} (h : r.data.toList = l) (hb : Below w.heap.size w w') : RetS w l (.returned (.string r)) w' := ⟨_, rfl, ⟨r, rfl, h⟩, hb⟩

theorem below_grow (w : World) (k : Nat) (os : Array Obj) : Below w.heap.size w (Go.Sort.grow (w.drewN k) os) :=
  ⟨rfl, rfl, rfl, by simp, fun j h => by
    show (w.heap ++ os)[j]? = _
    rw [Array.getElem?_append_left h]⟩

theorem formatInt_any (n : Int) (h0 : -9223372036854775808 ≤ n) (h1 : n ≤ 9223372036854775807) (w : World) (hl : Laid w) : Calls Tryz.prog 10 #[.int .i64 n, .int .i64 10] w (RetS w (Lib.itoa n)) :=
  (Tryz.strconv_FormatInt_10 n h0 h1 w hl.tab).mono fun e w' ⟨he, k, os, hw⟩ => by subst he; subst hw; exact retS_of (by simp) (below_grow _ _ _)

theorem repeat_any (s : ByteArray) (c : Nat) (w : World) (hs : s.size ≤ 1) (hc : c ≤ 1000) : Calls Tryz.prog 12 #[.string s, .int .i64 c] w (RetS w (Lib.repeatL s.data.toList c)) :=
  (Tryz.strings_Repeat s c w (by omega) (Nat.le_trans (Nat.mul_le_mul hs hc) (by decide))).mono fun e w' ⟨he, hb⟩ => by subst he; exact retS_of (by simp) hb

theorem replaceAll_any (s old new : ByteArray) (w : World) (hl : Laid w) (hs : s.size ≤ 100000) (h1 : 1 ≤ old.size) (hn : new.size ≤ 2) : Calls Tryz.prog 13 #[.string s, .string old, .string new] w (RetS w (Lib.replaceAll s.data.toList old.data.toList new.data.toList)) := by
  obtain ⟨m, hm⟩ := hl.maxl
  have hc : Lib.countB s old ≤ s.size := Nat.le_trans (Nat.le_mul_of_pos_right _ h1) (Lib.countB_mul_le old h1 s.size s (Nat.le_refl _))
  have hmul : Lib.countB s old * new.size ≤ 100000 * 2 := Nat.mul_le_mul (Nat.le_trans hc hs) hn
  exact (Tryz.strings_ReplaceAll s old new m w (by omega) hm h1 (by omega)).mono fun e w' ⟨he, hb⟩ => by subst he; exact retS_of (by simp) hb

theorem repeat_int (s : ByteArray) (c : Int) (w : World) (hs : s.size ≤ 1) (h0 : 0 ≤ c) (hc : c ≤ 1000) : Calls Tryz.prog 12 #[.string s, .int .i64 c] w (RetS w (Lib.repeatL s.data.toList c.toNat)) := by
  obtain ⟨n, rfl⟩ := Int.eq_ofNat_of_zero_le h0
  exact repeat_any s n w hs (by omega)
theorem cutPrefix_any (s p : ByteArray) : ∃ r : ByteArray, r.data.toList = Lib.trimPrefix s.data.toList p.data.toList ∧
    ∀ w, Calls Tryz.prog 11 #[.string s, .string p] w fun e w' => e = .returned (.tuple #[.string r, .bool (Lib.hasPrefix s.data.toList p.data.toList)]) ∧ w' = w :=
  ⟨⟨(Lib.trimPrefix s.data.toList p.data.toList).toArray⟩, by simp, fun w => Tryz.strings_CutPrefix s p w⟩

theorem repeatL_one (c : UInt8) : ∀ n, Lib.repeatL [c] n = List.replicate n c
  | 0 => rfl
  | n + 1 => by rw [Lib.repeatL, repeatL_one c n]; rfl

/-- What ParseInt(s, 10, 64) comes to: a number; none where there is an error. -/
def parseR (l : List UInt8) : Option Int := match Lib.parseIntB 64 l with | .ok v => some v | _ => none
def RetP (w : World) (p : Option Int) : Ending → World → Prop := Ret w fun v _ => match p with
  | some n => v = .tuple #[.int .i64 n, .nilIface]
  | none => ∃ (n : Int) (b : Nat), v = .tuple #[.int .i64 n, .iface 146 (.pointer (some ⟨b, 0, none⟩))]
theorem parseInt_any (s : ByteArray) (w : World) (hl : Laid w) (hs : s.size ≤ 100000) : Calls Tryz.prog 54 #[.string s, .int .i64 10, .int .i64 64] w (RetP w (parseR s.data.toList)) := by
  unfold parseR
  rcases h : Lib.parseIntB 64 s.data.toList with v | _ | _
  · refine (Tryz.strconv_ParseInt_10_at64_ok s (by omega) v h w).mono fun e w' ⟨he, hw⟩ => ?_
    subst he
    refine ⟨_, rfl, rfl, ?_⟩
    rcases hw with rfl | ⟨t, rfl⟩
    · exact Below.refl _ _
    · exact Lib.bytesWorld_below _ _ _
  · obtain ⟨tp, p, hp⟩ := hl.syn
    refine (Any.strconv_ParseInt_10_at64_syntax_var Tryz.laysC174 s (by omega) h tp p w hp).mono fun e w' ⟨N, he, _, _, hb⟩ => ?_
    subst he
    exact ⟨_, rfl, ⟨_, N, rfl⟩, hb⟩
  · obtain ⟨tp, p, hp⟩ := hl.rng
    refine (Tryz.strconv_ParseInt_10_at64_range_var s (by omega) h tp p w hp).mono fun e w' ⟨N, he, _, _, hb⟩ => ?_
    subst he
    exact ⟨_, rfl, ⟨_, N, rfl⟩, hb⟩

end Go.Proofs.YtodhdbikbdlcaaaGreatDoor
