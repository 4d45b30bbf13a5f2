/-
  A number's figures: plain words, no program in sight.
-/
import Derived.Test.YtodhdbikbdlcaaaGreatDoorLibC
namespace Go.Proofs.YtodhdbikbdlcaaaGreatDoor
set_option linter.unusedSimpArgs false
set_option linter.unusedVariables false

def isDig (c : UInt8) : Prop := 48 ≤ c.toNat ∧ c.toNat ≤ 57
def dval (acc : Nat) (l : List UInt8) : Nat := l.foldl (fun a c => a * 10 + (c.toNat - 48)) acc
theorem dval_append (acc : Nat) (a b : List UInt8) : dval acc (a ++ b) = dval (dval acc a) b := by simp [dval]
theorem dval_ge : ∀ (l : List UInt8) (acc : Nat), acc ≤ dval acc l
  | [], acc => Nat.le_refl _
  | c :: r, acc => by
    have := dval_ge r (acc * 10 + (c.toNat - 48))
    show acc ≤ dval (acc * 10 + (c.toNat - 48)) r
    omega
theorem parseM_digits : ∀ (l : List UInt8) (acc : Nat), (∀ c ∈ l, isDig c) → dval acc l ≤ 18446744073709551615 → Lib.parseUintM (2 ^ 64 - 1) acc l = .ok (dval acc l)
  | [], acc, _, _ => rfl
  | c :: r, acc, hd, hv => by
    have hc : 48 ≤ c.toNat ∧ c.toNat ≤ 57 := hd c (by simp)
    have hge : acc * 10 + (c.toNat - 48) ≤ dval (acc * 10 + (c.toNat - 48)) r := dval_ge r _
    have hv' : dval (acc * 10 + (c.toNat - 48)) r ≤ 18446744073709551615 := hv
    unfold Lib.parseUintM
    rw [if_pos hc, if_neg (by omega), if_neg (by show ¬ (18446744073709551615 < _); omega)]
    exact parseM_digits r _ (fun x hx => hd x (by simp [hx])) hv'

theorem decDigits_dig (u : Nat) : ∀ c ∈ Lib.decDigits u, isDig c := by
  induction u using Nat.strongRecOn with
  | _ u ih =>
    rw [Lib.decDigits]
    have hd : ∀ d, d < 10 → isDig (UInt8.ofNat (48 + d)) := fun d h => by
      unfold isDig
      rw [UInt8.toNat_ofNat_of_lt' (by show 48 + d < 256; omega)]
      omega
    split
    · intro c hc
      simp only [List.mem_singleton] at hc
      subst hc; exact hd _ (by omega)
    · intro c hc
      rcases List.mem_append.1 hc with h | h
      · exact ih (u / 10) (by omega) c h
      · simp only [List.mem_singleton] at h
        subst h; exact hd _ (by omega)
theorem decDigits_val (u : Nat) : dval 0 (Lib.decDigits u) = u := by
  induction u using Nat.strongRecOn with
  | _ u ih =>
    rw [Lib.decDigits]
    have hd : ∀ d, d < 10 → (UInt8.ofNat (48 + d)).toNat - 48 = d := fun d h => by
      rw [UInt8.toNat_ofNat_of_lt' (by show 48 + d < 256; omega)]; omega
    split
    · simp only [dval, List.foldl_cons, List.foldl_nil]
      rw [hd _ (by omega)]; omega
    · rw [dval_append, ih (u / 10) (by omega)]
      simp only [dval, List.foldl_cons, List.foldl_nil]
      rw [hd _ (by omega)]; omega
theorem decDigits_ne (u : Nat) : Lib.decDigits u ≠ [] := by
  rw [Lib.decDigits]; split <;> simp
theorem dval_zeros : ∀ (k : Nat) (l : List UInt8), dval 0 (List.replicate k 48 ++ l) = dval 0 l
  | 0, l => rfl
  | k + 1, l => by rw [List.replicate_succ, List.cons_append]; exact dval_zeros k l

/-- A number's figures, maybe with a sign, are parsed as the number. -/
theorem parse_pos {l : List UInt8} {u : Nat} (hd : ∀ c ∈ l, isDig c) (hne : l ≠ []) (hv : dval 0 l = u) (hu : u < 9223372036854775808) : parseR l = some (u : Int) := by
  unfold parseR
  cases l with
  | nil => exact absurd rfl hne
  | cons c r =>
    have hc := hd c (by simp)
    have h1 : ¬ (c.toNat = 43 ∨ c.toNat = 45) := by unfold isDig at hc; omega
    have h2 : ¬ c.toNat = 45 := fun h => h1 (.inr h)
    unfold Lib.parseIntB
    simp only [if_neg h1]
    have hp : Lib.parseUintB 64 (c :: r) = .ok u := by
      unfold Lib.parseUintB
      rw [if_neg (by simp), parseM_digits _ _ hd (by rw [hv]; omega), hv]
    rw [hp]
    simp only [if_neg h2, show (2 : Nat) ^ (64 - 1) = 9223372036854775808 from rfl]
    rw [if_neg (fun h => by omega), if_neg (fun h => h2 h.1)]
theorem parse_neg {l : List UInt8} {u : Nat} (hd : ∀ c ∈ l, isDig c) (hne : l ≠ []) (hv : dval 0 l = u) (hu : u ≤ 9223372036854775808) : parseR (45 :: l) = some (-(u : Int)) := by
  unfold parseR Lib.parseIntB
  have h1 : ((45 : UInt8).toNat = 43 ∨ (45 : UInt8).toNat = 45) := .inr rfl
  have h2 : (45 : UInt8).toNat = 45 := rfl
  simp only [if_pos h1]
  have hp : Lib.parseUintB 64 l = .ok u := by
    unfold Lib.parseUintB
    rw [if_neg hne, parseM_digits _ _ hd (by rw [hv]; omega), hv]
  rw [hp]
  simp only [if_pos h2, show (2 : Nat) ^ (64 - 1) = 9223372036854775808 from rfl]
  rw [if_neg (fun h => h.1 h2), if_neg (fun h => by omega)]

/-- What itoa writes: figures, maybe behind a minus. -/
theorem itoa_form (n : Int) : ∃ u : Nat, (0 ≤ n ∧ n = u ∧ Lib.itoa n = Lib.decDigits u) ∨ (n < 0 ∧ n = -(u : Int) ∧ Lib.itoa n = 45 :: Lib.decDigits u) := by
  unfold Lib.itoa
  by_cases h : n < 0
  · exact ⟨n.natAbs, .inr ⟨h, by omega, by rw [if_pos h]⟩⟩
  · exact ⟨n.toNat, .inl ⟨by omega, by omega, by rw [if_neg h]⟩⟩

end Go.Proofs.YtodhdbikbdlcaaaGreatDoor
