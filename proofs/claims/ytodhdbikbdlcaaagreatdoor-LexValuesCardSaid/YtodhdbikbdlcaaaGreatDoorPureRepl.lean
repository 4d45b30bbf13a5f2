/-
  strings.ReplaceAll of an old text that is not empty, as a plain recursion; a quote for two, two for one.
-/
import Derived.Test.YtodhdbikbdlcaaaGreatDoorPure02
import Derived.Lib.CountLaws
namespace Go.Proofs.YtodhdbikbdlcaaaGreatDoor
set_option linter.unusedSimpArgs false
set_option linter.unusedVariables false

def repl (old new : List UInt8) : Nat → List UInt8 → List UInt8
  | 0, s => s
  | _ + 1, [] => []
  | k + 1, c :: r => if old.isPrefixOf (c :: r) then new ++ repl old new k ((c :: r).drop old.length) else c :: repl old new k r

theorem replaceK_repl (old new : List UInt8) (ho : old ≠ []) : ∀ (n : Nat) (s : List UInt8), s.length ≤ n → Lib.replaceK old new (Lib.count s old) s = repl old new n s := by
  intro n
  induction n with
  | zero =>
    intro s h
    obtain rfl : s = [] := List.length_eq_zero_iff.1 (by omega)
    have : Lib.index [] old = -1 := by cases old with | nil => exact absurd rfl ho | cons c r => rfl
    rw [Lib.count_miss this]; rfl
  | succ n ih =>
    intro s h
    cases s with
    | nil =>
      have : Lib.index [] old = -1 := by cases old with | nil => exact absurd rfl ho | cons c r => rfl
      rw [Lib.count_miss this]; rfl
    | cons c r =>
      have h' : r.length ≤ n := by simp at h; omega
      by_cases hp : old.isPrefixOf (c :: r) = true
      · have hi : Lib.index (c :: r) old = ((0 : Nat) : Int) := by simp [Lib.index, hp]
        have hol : 1 ≤ old.length := by cases old with | nil => exact absurd rfl ho | cons _ _ => simp
        rw [Lib.count_hit ho hi, Nat.add_comm 1, Lib.replaceK_hit _ _ _ _ 0 hi, Nat.zero_add, List.take_zero, List.nil_append, ih _ (by rw [List.length_drop]; simp; omega)]
        simp [repl, hp]
      · have hp' : old.isPrefixOf (c :: r) = false := Bool.eq_false_iff.2 hp
        have hr := ih r h'
        by_cases hm : Lib.index r old = -1
        · have hi : Lib.index (c :: r) old = -1 := by simp [Lib.index, hp', hm]
          rw [Lib.count_miss hi]
          rw [Lib.count_miss hm] at hr
          simp only [repl, hp']
          rw [← hr]; rfl
        · obtain ⟨j, hj⟩ : ∃ j : Nat, Lib.index r old = j := by have := Lib.index_ge r old; exact ⟨(Lib.index r old).toNat, by omega⟩
          have hi : Lib.index (c :: r) old = ((j + 1 : Nat) : Int) := by
            have : ¬ (j : Int) = -1 := by omega
            simp [Lib.index, hp', hj, this]
          rw [Lib.count_hit ho hj, Nat.add_comm 1, Lib.replaceK_hit _ _ _ _ j hj] at hr
          rw [Lib.count_hit ho hi, Nat.add_comm 1, Lib.replaceK_hit _ _ _ _ (j + 1) hi]
          have e : j + 1 + old.length = (j + old.length) + 1 := by omega
          rw [e, List.drop_succ_cons, List.take_succ_cons]
          simp only [repl, hp']
          rw [← hr]
          simp

theorem replaceAll_repl (old new s : List UInt8) (ho : old ≠ []) (hn : (old == new) = false) : Lib.replaceAll s old new = repl old new s.length s := by
  unfold Lib.replaceAll Lib.replace
  rw [hn]
  have : Lib.replaceNum s old (-1) = Lib.count s old := by simp [Lib.replaceNum]
  simp only [this, Bool.false_eq_true, if_false]
  exact replaceK_repl old new ho _ _ (Nat.le_refl _)

/-- A text with each quote twice. -/
def quoteL : List UInt8 → List UInt8
  | [] => []
  | c :: r => if c = 39 then 39 :: 39 :: quoteL r else c :: quoteL r
/-- A text with one quote for each two. -/
def unqL : List UInt8 → List UInt8
  | [] => []
  | [c] => [c]
  | c :: d :: r => if c = 39 ∧ d = 39 then 39 :: unqL r else c :: unqL (d :: r)

theorem repl_quote : ∀ (n : Nat) (s : List UInt8), s.length ≤ n → repl [39] [39, 39] n s = quoteL s
  | 0, s, h => by obtain rfl : s = [] := List.length_eq_zero_iff.1 (by omega); rfl
  | n + 1, [], _ => rfl
  | n + 1, c :: r, h => by
    have h' : r.length ≤ n := by simp at h; omega
    by_cases hc : c = 39
    · subst hc; simp [repl, quoteL, repl_quote n r h']
    · have : ¬ 39 = c := fun e => hc e.symm
      simp [repl, quoteL, repl_quote n r h', hc, this]
theorem replaceAll_quote (s : List UInt8) : Lib.replaceAll s [39] [39, 39] = quoteL s := by
  rw [replaceAll_repl _ _ _ (by simp) (by rfl), repl_quote _ _ (Nat.le_refl _)]

theorem repl_unq : ∀ (n : Nat) (s : List UInt8), s.length ≤ n → repl [39, 39] [39] n s = unqL s
  | 0, s, h => by obtain rfl : s = [] := List.length_eq_zero_iff.1 (by omega); rfl
  | n + 1, [], _ => rfl
  | n + 1, [c], h => by simp [repl, unqL]; cases n <;> rfl
  | n + 1, c :: d :: r, h => by
    have h' : r.length + 1 ≤ n := by simp at h; omega
    by_cases hc : c = 39 ∧ d = 39
    · obtain ⟨rfl, rfl⟩ := hc
      simp [repl, unqL, repl_unq n r (by omega)]
    · have : ¬ (39 = c ∧ 39 = d) := fun e => hc ⟨e.1.symm, e.2.symm⟩
      have hp : ([39, 39] : List UInt8).isPrefixOf (c :: d :: r) = false := by
        simp only [List.isPrefixOf, Bool.and_true]
        rw [Bool.and_eq_false_iff]
        by_cases h1 : (39 : UInt8) = c
        · right; simpa using fun h2 => this ⟨h1, h2⟩
        · left; simpa using h1
      rw [repl, hp, unqL, if_neg hc, repl_unq n (d :: r) (by simpa using h')]
      rfl
theorem replaceAll_unq (s : List UInt8) : Lib.replaceAll s [39, 39] [39] = unqL s := by
  rw [replaceAll_repl _ _ _ (by simp) (by rfl), repl_unq _ _ (Nat.le_refl _)]

theorem quoteL_length (s : List UInt8) : (quoteL s).length ≤ 2 * s.length := by
  induction s with
  | nil => simp [quoteL]
  | cons c r ih => unfold quoteL; split <;> simp <;> omega
theorem replaceAll_size (s : List UInt8) (h : s.length ≤ 200) : (Lib.replaceAll s [39] [39, 39]).length ≤ 1000 := by
  rw [replaceAll_quote]; have := quoteL_length s; omega

end Go.Proofs.YtodhdbikbdlcaaaGreatDoor
