/-
  A right value's text is read as the value: texts, bytes, all kinds together.
-/
import Derived.Test.YtdldhlbnbffieaaDoorPureRead
namespace Go.Proofs.YtdldhlbnbffieaaDoor
set_option linter.unusedSimpArgs false
set_option linter.unusedVariables false

theorem unq_quote : ∀ l, unqL (quoteL l) = l
  | [] => rfl
  | c :: r => by
    have ih := unq_quote r
    unfold quoteL
    split
    · rename_i h; subst h; simp [unqL, ih]
    · rename_i h
      cases hq : quoteL r with
      | nil =>
        rw [hq] at ih
        simp only [unqL] at ih ⊢
        rw [← ih]
      | cons d t =>
        rw [unqL, if_neg (fun e => h e.1), ← hq, ih]

theorem index_fig : ∀ i : Fin 16, Lib.indexByte figsL (fig i.val) = (i.val : Int) := by decide +kernel
theorem hex_back (c : UInt8) : hexByte (Lib.indexByte figsL (fig (c.toNat / 16))) (Lib.indexByte figsL (fig (c.toNat % 16))) = c := by
  have hc : c.toNat < 256 := c.toNat_lt
  have h1 := index_fig ⟨c.toNat / 16, by omega⟩
  have h2 := index_fig ⟨c.toNat % 16, by omega⟩
  simp only at h1 h2
  rw [h1, h2]
  unfold hexByte
  have e : ((((c.toNat / 16 : Nat) : Int) * 16 + ((c.toNat % 16 : Nat) : Int) % 16) % 256).toNat = c.toNat := by omega
  rw [e]; simp
theorem unhex_hex : ∀ l, unhexL (hexL l) = l
  | [] => rfl
  | c :: r => by
    rw [show hexL (c :: r) = fig (c.toNat / 16) :: fig (c.toNat % 16) :: hexL r from rfl, unhexL, hex_back, unhex_hex r]

theorem guess_quoted (q : List UInt8) : guessL ([39] ++ q ++ [39]) = ⟨4, 0, ⟨(unqL q).toArray⟩⟩ := by
  have hl : ([39] ++ q ++ [39] : List UInt8) = 39 :: (q ++ [39]) := by simp
  have hb : isBytesLike (39 :: (q ++ [39])) = false := by
    unfold isBytesLike Lib.hasPrefix
    rw [show ([120, 39] : List UInt8).isPrefixOf (39 :: (q ++ [39])) = false from by simp only [List.isPrefixOf]; rfl]; rfl
  have ht : isTextLike (39 :: (q ++ [39])) = true := by
    unfold isTextLike Lib.hasPrefix Lib.hasSuffix
    simp [List.isPrefixOf]
  rw [hl]
  unfold guessL
  rw [if_neg (by simp), if_neg (by simp), if_neg (by simp), if_neg (by rw [hb]; decide), if_pos ht]
  simp

theorem guess_hexed (q : List UInt8) : guessL ([120, 39] ++ q ++ [39]) = ⟨5, 0, ⟨(unhexL q).toArray⟩⟩ := by
  have hl : ([120, 39] ++ q ++ [39] : List UInt8) = 120 :: 39 :: (q ++ [39]) := by simp
  have hb : isBytesLike (120 :: 39 :: (q ++ [39])) = true := by
    unfold isBytesLike Lib.hasPrefix Lib.hasSuffix
    simp [List.isPrefixOf]
  rw [hl]
  unfold guessL
  rw [if_neg (by simp), if_neg (by simp), if_neg (by simp), if_pos hb]
  simp

theorem empty_of {s : ByteArray} (h : (s.toList == []) = true) : s = ⟨#[]⟩ := ba_ext.1 (by simpa using h)

/-- A right value's text is guessed as the value. -/
theorem guess_text_of {k n : Int} {s : ByteArray} (hr : rightB k n s = true) (h0 : -9223372036854775808 ≤ n) (h1 : n ≤ 9223372036854775807) : guessL (textL k n s) = ⟨k, n, s⟩ := by
  have hr0 := hr
  unfold textL
  rw [if_neg (by rw [hr]; decide)]
  rcases right_kind hr with rfl | rfl | rfl | rfl | rfl | rfl
  · rw [if_pos rfl]
    unfold rightB at hr
    rw [if_neg (fun h => absurd h.1 (by decide)), if_pos (by decide), Bool.and_eq_true] at hr
    obtain rfl := empty_of hr.2
    have : n = 0 := by simpa using hr.1
    subst this; decide +kernel
  · rw [if_neg (by decide), if_pos rfl]
    unfold rightB at hr
    by_cases hn : n = 1
    · subst hn
      rw [if_pos (by decide)] at hr
      obtain rfl := empty_of hr
      decide +kernel
    · rw [if_neg (fun h => hn h.2), if_pos (by decide), Bool.and_eq_true] at hr
      obtain rfl := empty_of hr.2
      have : n = 0 := by simpa using hr.1
      subst this; decide +kernel
  · rw [if_neg (by decide), if_neg (by decide), if_pos rfl]
    unfold rightB at hr
    rw [if_neg (fun h => absurd h.1 (by decide)), if_neg (by decide), if_pos (by decide)] at hr
    obtain rfl := empty_of hr
    exact guess_itoa n h0 h1
  · rw [if_neg (by decide), if_neg (by decide), if_neg (by decide), if_pos rfl]
    unfold rightB at hr
    rw [if_neg (fun h => absurd h.1 (by decide)), if_neg (by decide), if_pos (by decide)] at hr
    obtain rfl := empty_of hr
    exact guess_dec n h0 h1
  · rw [if_neg (by decide), if_neg (by decide), if_neg (by decide), if_neg (by decide), if_neg (by decide), guess_quoted, replaceAll_quote, unq_quote]
    unfold rightB at hr
    rw [if_neg (fun h => absurd h.1 (by decide)), if_neg (by decide), if_neg (by decide), if_pos (by decide), Bool.and_eq_true] at hr
    have : n = 0 := by simpa using hr.1
    subst this; simp
  · rw [if_neg (by decide), if_neg (by decide), if_neg (by decide), if_neg (by decide), if_pos rfl, guess_hexed, unhex_hex]
    unfold rightB at hr
    rw [if_neg (fun h => absurd h.1 (by decide)), if_neg (by decide), if_neg (by decide), if_pos (by decide), Bool.and_eq_true] at hr
    have : n = 0 := by simpa using hr.1
    subst this; simp

/-- There and back. -/
theorem read_text {k n : Int} {s : ByteArray} (hr : rightB k n s = true) (h0 : -9223372036854775808 ≤ n) (h1 : n ≤ 9223372036854775807) : readL (textL k n s) = (⟨k, n, s⟩, .none) := by
  unfold readL
  rw [guess_text_of hr h0 h1, if_pos ⟨hr, rfl⟩]

theorem text_inj {k n k' n' : Int} {s s' : ByteArray} (hr : rightB k n s = true) (h0 : -9223372036854775808 ≤ n) (h1 : n ≤ 9223372036854775807) (hr' : rightB k' n' s' = true) (h0' : -9223372036854775808 ≤ n') (h1' : n' ≤ 9223372036854775807)
    (h : textL k n s = textL k' n' s') : k = k' ∧ n = n' ∧ s = s' := by
  have a := guess_text_of hr h0 h1
  rw [h, guess_text_of hr' h0' h1'] at a
  simp only [Val.mk.injEq] at a
  exact ⟨a.1.symm, a.2.1.symm, a.2.2.symm⟩

theorem text_size {k n : Int} {s : ByteArray} (h0 : -9223372036854775808 ≤ n) (h1 : n ≤ 9223372036854775807) : (textL k n s).length ≤ 1000 := by
  unfold textL
  have hi := (itoa_length n h0 h1).2
  split
  · simp
  split
  · simp
  split
  · unfold Lib.formatBool; split <;> decide
  split
  · omega
  split
  · unfold decL decBody
    have ht := trim_length (Lib.itoa n) [45]
    generalize Lib.trimPrefix (Lib.itoa n) [45] = d at ht
    have hp : (if Lib.hasPrefix (Lib.itoa n) [45] = true then [45] else ([] : List UInt8)).length ≤ 1 := by split <;> simp
    rw [List.length_append]
    have : (if d.length < 5 then List.replicate (5 - d.length) 48 ++ d else d).length ≤ 25 := by
      split
      · rw [List.length_append, List.length_replicate]; omega
      · omega
    simp only [List.length_append, List.length_take, List.length_drop, List.length_cons, List.length_nil]
    omega
  · rename_i hr _ _ _ _
    have hs := right_size (by simpa using hr)
    split
    · simp only [List.length_append, hexL_length, ← Lib.size_eq, List.length_cons, List.length_nil]; omega
    · rw [replaceAll_quote]
      have := quoteL_length s.data.toList
      rw [← Lib.size_eq] at this
      simp only [List.length_append, List.length_cons, List.length_nil]; omega

end Go.Proofs.YtdldhlbnbffieaaDoor
