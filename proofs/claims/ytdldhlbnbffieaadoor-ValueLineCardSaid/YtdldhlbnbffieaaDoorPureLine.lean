/-
  The order of two values is a line: no program in sight.
-/
import Derived.Test.YtdldhlbnbffieaaDoorCmp
import Derived.Sort.Walk0
namespace Go.Proofs.YtdldhlbnbffieaaDoor
set_option linter.unusedSimpArgs false
set_option linter.unusedVariables false

theorem cmpI_neg (a b : Int) : cmpI b a = - cmpI a b := by unfold cmpI; split <;> split <;> (try split) <;> omega
theorem cmpI_zero (a b : Int) : cmpI a b = 0 ↔ a = b := by
  unfold cmpI
  constructor
  · intro h; split at h
    · omega
    · split at h <;> omega
  · rintro rfl; simp

theorem cmpS_zero (a b : ByteArray) : cmpS a b = 0 ↔ a.toList = b.toList := by
  unfold cmpS
  rw [_root_.Go.Proofs.bytesLess_eq]
  constructor
  · intro h
    split at h
    · omega
    · split at h
      · assumption
      · omega
  · intro h
    rw [h]
    simp

theorem ordV_zero (a b : Val) : ordV a b = 0 ↔ a = b := by
  unfold ordV or3
  obtain ⟨ak, an, as'⟩ := a
  obtain ⟨bk, bn, bs'⟩ := b
  simp only [Val.mk.injEq, ← cmpI_zero ak bk, ← cmpI_zero an bn, ← ba_ext, ← cmpS_zero as' bs']
  split
  · rename_i h; simp [h]
  · rename_i h
    split
    · rename_i h2; simp [h2]
    · rename_i h2
      simp only [Decidable.not_not] at h h2
      simp [h, h2]

theorem lt_tri (x y : List UInt8) (h1 : ¬ x < y) (h2 : x ≠ y) : y < x := by
  rcases Std.Trichotomous.rel_or_eq_or_rel_swap (r := (· < · : List UInt8 → List UInt8 → Prop)) (a := x) (b := y) with h | h | h
  · exact absurd h h1
  · exact absurd h h2
  · exact h
theorem cmpS_neg (a b : ByteArray) : cmpS b a = - cmpS a b := by
  unfold cmpS
  rw [_root_.Go.Proofs.bytesLess_eq, _root_.Go.Proofs.bytesLess_eq]
  by_cases h : a.toList = b.toList
  · rw [h]; simp [List.lt_irrefl]
  · by_cases h1 : a.toList < b.toList
    · have h2 : ¬ b.toList < a.toList := List.lt_asymm h1
      simp [h1, h2, Ne.symm h]
    · have h2 := lt_tri _ _ h1 h
      simp [h1, h2, h]
theorem ordV_neg (a b : Val) : ordV b a = - ordV a b := by
  unfold ordV or3
  rw [cmpI_neg a.k b.k, cmpI_neg a.n b.n, cmpS_neg a.s b.s]
  split <;> split <;> (try split) <;> (try split) <;> omega

theorem cmpS_spec (a b : ByteArray) : (cmpS a b = -1 ∧ a.toList < b.toList) ∨ (cmpS a b = 0 ∧ a.toList = b.toList) ∨ (cmpS a b = 1 ∧ b.toList < a.toList) := by
  unfold cmpS
  rw [_root_.Go.Proofs.bytesLess_eq]
  by_cases h : a.toList = b.toList
  · rw [h]; simp [List.lt_irrefl]
  · by_cases h1 : a.toList < b.toList
    · simp [h1]
    · simp [h1, h, lt_tri _ _ h1 h]
theorem cmpS_trans (a b c : ByteArray) (h1 : cmpS a b ≤ 0) (h2 : cmpS b c ≤ 0) : cmpS a c ≤ 0 ∧ (cmpS a b < 0 ∨ cmpS b c < 0 → cmpS a c < 0) := by
  rcases cmpS_spec a b with ⟨e1, l1⟩ | ⟨e1, l1⟩ | ⟨e1, l1⟩ <;> rcases cmpS_spec b c with ⟨e2, l2⟩ | ⟨e2, l2⟩ | ⟨e2, l2⟩ <;> (try omega)
  · have l3 := List.lt_trans l1 l2
    rcases cmpS_spec a c with ⟨e3, m⟩ | ⟨e3, m⟩ | ⟨e3, m⟩
    · omega
    · rw [m] at l3; exact absurd l3 (List.lt_irrefl _)
    · exact absurd l3 (List.lt_asymm m)
  · rw [l2] at l1
    rcases cmpS_spec a c with ⟨e3, m⟩ | ⟨e3, m⟩ | ⟨e3, m⟩
    · omega
    · rw [m] at l1; exact absurd l1 (List.lt_irrefl _)
    · exact absurd l1 (List.lt_asymm m)
  · rw [← l1] at l2
    rcases cmpS_spec a c with ⟨e3, m⟩ | ⟨e3, m⟩ | ⟨e3, m⟩
    · omega
    · rw [m] at l2; exact absurd l2 (List.lt_irrefl _)
    · exact absurd l2 (List.lt_asymm m)
  · have := (cmpS_zero a c).2 (l1.trans l2)
    omega
theorem ordV_trans (a b c : Val) (h1 : ordV a b ≤ 0) (h2 : ordV b c ≤ 0) : ordV a c ≤ 0 ∧ (ordV a b < 0 ∨ ordV b c < 0 → ordV a c < 0) := by
  have ht := cmpS_trans a.s b.s c.s
  have s1 := cmpS_le a.s b.s
  have s2 := cmpS_le b.s c.s
  have s3 := cmpS_le a.s c.s
  unfold ordV or3 cmpI at *
  generalize cmpS a.s b.s = x at *
  generalize cmpS b.s c.s = y at *
  generalize cmpS a.s c.s = z at *
  omega

end Go.Proofs.YtdldhlbnbffieaaDoor
