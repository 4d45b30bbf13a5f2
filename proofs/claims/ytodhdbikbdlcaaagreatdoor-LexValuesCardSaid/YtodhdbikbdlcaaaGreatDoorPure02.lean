/-
  Plain words of layer 2 (values): no program in sight.
-/
import Derived.Test.YtodhdbikbdlcaaaGreatDoorBase
import Derived.Lib.ReplaceLaws
import Derived.Lib.ItoaNum
import Derived.Lib.Small
import Derived.Lib.ParseIntB
import Derived.Lib.Strings
namespace Go.Proofs.YtodhdbikbdlcaaaGreatDoor
set_option linter.unusedSimpArgs false
set_option linter.unusedVariables false

/-- A value: its kind, its number, its text. -/
structure Val where
  k : Int
  n : Int
  s : ByteArray
deriving DecidableEq

def Val.enc (x : Val) : Value := .agg #[.int .i64 x.k, .int .i64 x.n, .string x.s]
def Val.zero : Val := ⟨0, 0, ⟨#[]⟩⟩

/-- Whether a value is right. -/
def rightB (k n : Int) (s : ByteArray) : Bool :=
  if k = 1 ∧ n = 1 then s.toList == []
  else if k = 0 ∨ k = 1 then n == 0 && s.toList == []
  else if k = 2 ∨ k = 3 then s.toList == []
  else if k = 4 ∨ k = 5 then n == 0 && decide ((s.size : Int) ≤ 200)
  else false

/-- Whether it is a truth. -/
def truthB (k n : Int) (s : ByteArray) : Bool := rightB k n s && decide (k ≤ 1)

def bothE (a b : Val) : Err := if truthB a.k a.n a.s = false then .fault 22 0 .none else if truthB b.k b.n b.s = false then .fault 22 1 .none else .none

def decidedV (a b x : Val) : Val := if a = x ∨ b = x then x else if a.k = 0 then a else b

theorem nDigits_le (k : Nat) : ∀ u, u < 10 ^ (k + 1) → Lib.nDigits u ≤ k + 1 := by
  induction k with
  | zero => intro u h; rw [Lib.nDigits_small (by simpa using h)]; exact Nat.le_refl _
  | succ k ih =>
    intro u h
    by_cases h10 : u < 10
    · rw [Lib.nDigits_small h10]; omega
    · rw [Lib.nDigits_big h10]
      have : u / 10 < 10 ^ (k + 1) := by rw [Nat.div_lt_iff_lt_mul (by decide)]; rw [Nat.pow_succ] at h; exact h
      have := ih _ this
      omega
theorem itoa_length (n : Int) (h0 : -9223372036854775808 ≤ n) (h1 : n ≤ 9223372036854775807) : 1 ≤ (Lib.itoa n).length ∧ (Lib.itoa n).length ≤ 20 := by
  unfold Lib.itoa
  have h19 : ∀ u : Nat, u ≤ 9223372036854775808 → 1 ≤ (Lib.decDigits u).length ∧ (Lib.decDigits u).length ≤ 19 := fun u h => by
    rw [Lib.decDigits_length]
    refine ⟨?_, nDigits_le 18 u (Nat.lt_of_le_of_lt h (by decide))⟩
    rw [Lib.nDigits]; split <;> omega
  split
  · have := h19 n.natAbs (by omega)
    simp; omega
  · have := h19 n.toNat (by omega)
    omega
theorem trim_length (l p : List UInt8) : (Lib.trimPrefix l p).length ≤ l.length := by
  unfold Lib.trimPrefix; split <;> simp

/-- A whole number's figures with the point ahead of the last four. -/
def decBody (d : List UInt8) : List UInt8 :=
  let p := if d.length < 5 then List.replicate (5 - d.length) 48 ++ d else d
  p.take (p.length - 4) ++ [46] ++ p.drop (p.length - 4)
def decL (n : Int) : List UInt8 := (if Lib.hasPrefix (Lib.itoa n) [45] then [45] else []) ++ decBody (Lib.trimPrefix (Lib.itoa n) [45])

def fig (n : Nat) : UInt8 := [48, 49, 50, 51, 52, 53, 54, 55, 56, 57, 97, 98, 99, 100, 101, 102].getD n 0
def hexL (l : List UInt8) : List UInt8 := l.flatMap fun c => [fig (c.toNat / 16), fig (c.toNat % 16)]

theorem hexL_append (a b : List UInt8) : hexL (a ++ b) = hexL a ++ hexL b := by simp [hexL]
theorem hexL_length (l : List UInt8) : (hexL l).length = 2 * l.length := by
  induction l with
  | nil => rfl
  | cons c l ih => rw [show c :: l = [c] ++ l from rfl, hexL_append, List.length_append, ih]; simp [hexL]; omega
theorem take_snoc (s : List UInt8) (k : Nat) (h : k < s.length) : s.take (k + 1) = s.take k ++ [s.getD k 0] := by
  rw [List.take_succ_eq_append_getElem h]; simp [List.getD, h]
theorem hexL_snoc (s : List UInt8) (k : Nat) (h : k < s.length) : hexL (s.take (k + 1)) = hexL (s.take k) ++ [fig ((s.getD k 0).toNat / 16), fig ((s.getD k 0).toNat % 16)] := by
  rw [take_snoc s k h, hexL_append]; rfl

/-- A value as text. -/
def textL (k n : Int) (s : ByteArray) : List UInt8 :=
  if rightB k n s = false then [63]
  else if k = 0 then [110, 117, 108, 108]
  else if k = 1 then Lib.formatBool (n == 1)
  else if k = 2 then Lib.itoa n
  else if k = 3 then decL n
  else if k = 5 then [120, 39] ++ hexL s.data.toList ++ [39]
  else [39] ++ Lib.replaceAll s.data.toList [39] [39, 39] ++ [39]

end Go.Proofs.YtodhdbikbdlcaaaGreatDoor
