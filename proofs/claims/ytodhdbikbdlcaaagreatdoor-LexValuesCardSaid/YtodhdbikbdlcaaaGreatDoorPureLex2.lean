/-
  What a token's text says: plain words, no program in sight.
-/
import Derived.Test.YtodhdbikbdlcaaaGreatDoorPureLex
namespace Go.Proofs.YtodhdbikbdlcaaaGreatDoor
set_option linter.unusedSimpArgs false
set_option linter.unusedVariables false

theorem textT_app {s r : List UInt8} (hs : 1 ≤ s.length) (h : (textT s).t ≠ []) : textT (s ++ 32 :: r) = textT s := by
  unfold textT at h ⊢
  rw [drop_app hs]
  cases hq : quotedL (s.drop 1) with
  | none => rw [hq] at h; exact absurd rfl h
  | some x =>
    obtain ⟨o, n⟩ := x
    have ht := quotedL_take _ _ _ hq
    rw [List.length_drop] at ht
    rw [quotedL_app r _ _ _ hq]
    simp only
    rw [take_app (by omega)]
theorem rawT_app {s r : List UInt8} (hs : 2 ≤ s.length) (h : (rawT s).t ≠ []) : rawT (s ++ 32 :: r) = rawT s := by
  unfold rawT at h ⊢
  rw [drop_app hs]
  cases hq : quotedL (s.drop 2) with
  | none => rw [hq] at h; exact absurd rfl h
  | some x =>
    obtain ⟨o, n⟩ := x
    have ht := quotedL_take _ _ _ hq
    rw [List.length_drop] at ht
    rw [quotedL_app r _ _ _ hq]
    simp only
    rw [take_app (by omega)]
theorem signT_app {c : UInt8} {l r : List UInt8} : signT ((c :: l) ++ 32 :: r) = signT (c :: l) := by
  unfold signT
  cases l with
  | nil => simp
  | cons d l => simp
theorem rawLike_len {s : List UInt8} (h : rawLike s = true) : 2 ≤ s.length := by
  unfold rawLike at h
  rw [Bool.and_eq_true] at h
  have h1 : s[1]? = some 39 := by simpa using h.2
  rcases Nat.lt_or_ge 1 s.length with h' | h'
  · omega
  · rw [List.getElem?_eq_none h'] at h1; cases h1

theorem nextT_app {s : List UInt8} (r : List UInt8) (h : (nextT s).t ≠ []) : nextT (s ++ 32 :: r) = nextT s := by
  cases s with
  | nil => exact absurd (by decide) h
  | cons c l =>
    unfold nextT at h ⊢
    simp only [List.cons_append, List.headD_cons] at h ⊢
    have hr : rawLike (c :: (l ++ 32 :: r)) = rawLike (c :: l) := by
      unfold rawLike; cases l <;> simp
    rw [hr]
    rw [show c :: (l ++ 32 :: r) = (c :: l) ++ 32 :: r from rfl]
    by_cases h2 : ofB c = 2
    · simp only [h2, ↓reduceIte] at h ⊢
      by_cases hw : rawLike (c :: l) = true
      · simp only [hw, Bool.false_eq_true, ↓reduceIte] at h ⊢
        exact rawT_app (rawLike_len hw) h
      · simp only [hw, Bool.false_eq_true, ↓reduceIte] at h ⊢
        rw [spanL_app _ part1, take_app (spanL_le _ _)]
    · simp only [h2, ↓reduceIte] at h ⊢
      by_cases h3 : ofB c = 3
      · simp only [h3, ↓reduceIte] at h ⊢
        exact numberT_app
      · simp only [h3, ↓reduceIte] at h ⊢
        by_cases h4 : c = 39
        · simp only [h4, ↓reduceIte] at h ⊢
          exact textT_app (by simp) h
        · simp only [h4, ↓reduceIte] at h ⊢
          exact signT_app

/-! ### A token's text is what stands there. -/
theorem low_of (c : UInt8) : ofB (lowB c) = ofB c := by
  have hc := c.toNat_lt
  unfold lowB
  split
  · rename_i h
    have e : (c + 32).toNat = c.toNat + 32 := by
      rw [UInt8.toNat_add]; show (c.toNat + 32) % 256 = _; omega
    unfold ofB
    rw [e, if_pos (.inl ⟨by omega, by omega⟩), if_pos (.inr h)]
  · rfl
theorem low_low (c : UInt8) : lowB (lowB c) = lowB c := by
  have hc := c.toNat_lt
  by_cases h : 65 ≤ c.toNat ∧ c.toNat ≤ 90
  · have e : (c + 32).toNat = c.toNat + 32 := by
      rw [UInt8.toNat_add]; show (c.toNat + 32) % 256 = _; omega
    have h1 : lowB c = c + 32 := if_pos h
    rw [h1]
    exact if_neg (by rw [e]; omega)
  · have h1 : lowB c = c := if_neg h
    rw [h1, h1]
theorem spanL_low (p : Nat → Bool) : ∀ l, spanL p (l.map lowB) = spanL p l
  | [] => rfl
  | c :: l => by
    show (if p (ofB (lowB c)) = true then spanL p (l.map lowB) + 1 else 0) = (if p (ofB c) = true then spanL p l + 1 else 0)
    rw [low_of, spanL_low p l]

/-- What a token says of the text that it begins. -/
structure TokOf (s : List UInt8) (t : Tok) : Prop where
  len : t.t.length ≤ s.length
  kind : 1 ≤ t.k ∧ t.k ≤ 5
  word : t.k = 1 → t.t = (s.take t.t.length).map lowB
  same : t.k ≠ 1 → t.t = s.take t.t.length
  pos : t.at_ = 0

theorem tokOf_take {s : List UInt8} {n : Nat} {k vk vn : Int} {vs : List UInt8} (hk : 1 < k ∧ k ≤ 5) : TokOf s ⟨k, s.take n, vk, vn, vs, 0⟩ :=
  ⟨by simp only [List.length_take]; omega, ⟨by show (1 : Int) ≤ k; omega, hk.2⟩, fun h => absurd h (by show ¬ k = 1; omega), fun _ => by
    show s.take n = s.take (s.take n).length
    rw [List.length_take]
    rcases Nat.le_total n s.length with h | h
    · rw [Nat.min_eq_left h]
    · rw [Nat.min_eq_right h, List.take_of_length_le h, List.take_of_length_le (Nat.le_refl _)], rfl⟩
theorem tailT_of {s fs rest : List UInt8} {n : Nat} {kind : Int} (h : (tailT (s.take n) fs rest kind).t ≠ []) : TokOf s (tailT (s.take n) fs rest kind) := by
  unfold tailT at h ⊢
  split at h
  · exact absurd rfl h
  · rename_i hc
    rw [if_neg hc]
    cases hp : parseR fs with
    | none => rw [hp] at h; exact absurd rfl h
    | some v => exact tokOf_take (by decide)
theorem numberT_of {s : List UInt8} (h : (numberT s).t ≠ []) : TokOf s (numberT s) := by
  unfold numberT at h ⊢
  simp only at h ⊢
  split at h
  · rename_i hc
    rw [if_pos hc]
    unfold decT at h ⊢
    simp only at h ⊢
    split at h
    · exact absurd rfl h
    · rename_i hk
      rw [if_neg hk]
      exact tailT_of h
  · rename_i hc
    rw [if_neg hc]
    exact tailT_of h
theorem nextT_of {s : List UInt8} (h : (nextT s).t ≠ []) : TokOf s (nextT s) := by
  unfold nextT at h ⊢
  by_cases h2 : ofB (s.headD 0) = 2
  · simp only [h2, ↓reduceIte] at h ⊢
    by_cases hw : rawLike s = true
    · simp only [hw, Bool.false_eq_true, ↓reduceIte] at h ⊢
      unfold rawT at h ⊢
      cases hq : quotedL (s.drop 2) with
      | none => rw [hq] at h; exact absurd rfl h
      | some x =>
        rw [hq] at h
        simp only at h ⊢
        split at h
        · exact absurd rfl h
        · rename_i hc
          rw [if_neg hc]
          cases hr : rawL x.1 with
          | none => rw [hr] at h; exact absurd rfl h
          | some b => exact tokOf_take (by decide)
    · simp only [hw, Bool.false_eq_true, ↓reduceIte] at h ⊢
      have hl := spanL_le partK s
      refine ⟨by simp only [List.length_map, List.length_take]; omega, ⟨Int.le_refl 1, by show (1 : Int) ≤ 5; decide⟩, fun _ => ?_, fun h => absurd rfl h, rfl⟩
      simp only [List.length_map, List.length_take, Nat.min_eq_left hl]
  · simp only [h2, ↓reduceIte] at h ⊢
    by_cases h3 : ofB (s.headD 0) = 3
    · simp only [h3, ↓reduceIte] at h ⊢
      exact numberT_of h
    · simp only [h3, ↓reduceIte] at h ⊢
      by_cases h4 : s.headD 0 = 39
      · simp only [h4, ↓reduceIte] at h ⊢
        unfold textT at h ⊢
        cases hq : quotedL (s.drop 1) with
        | none => rw [hq] at h; exact absurd rfl h
        | some x =>
          rw [hq] at h
          simp only at h ⊢
          split at h
          · exact absurd rfl h
          · rename_i hc
            rw [if_neg hc]
            exact tokOf_take (by decide)
      · simp only [h4, ↓reduceIte] at h ⊢
        unfold signT at h ⊢
        by_cases ha : s.take 2 = [60, 61] ∨ s.take 2 = [62, 61] ∨ s.take 2 = [60, 62]
        · simp only [ha, ↓reduceIte]
          exact tokOf_take (by decide)
        · simp only [ha, ↓reduceIte] at h ⊢
          by_cases hb : s.headD 0 ∈ signL
          · simp only [hb, ↓reduceIte]
            exact tokOf_take (by decide)
          · simp only [hb, ↓reduceIte] at h
            exact absurd rfl h

theorem nextT_no : nextT [] = Tok.no := by decide
/-- A token's text begins with no blank, if the text does not. -/
theorem nextT_head {c : UInt8} {l : List UInt8} (h : (nextT (c :: l)).t ≠ []) : ∃ d r, (nextT (c :: l)).t = d :: r ∧ ofB d = ofB c := by
  have ho := nextT_of h
  obtain ⟨n, hn⟩ : ∃ n, (nextT (c :: l)).t.length = n + 1 := ⟨(nextT (c :: l)).t.length - 1, by have := List.length_pos_iff.2 h; omega⟩
  by_cases hk : (nextT (c :: l)).k = 1
  · have := ho.word hk
    rw [hn, List.take_succ_cons, List.map_cons] at this
    exact ⟨_, _, this, low_of c⟩
  · have := ho.same hk
    rw [hn, List.take_succ_cons] at this
    exact ⟨_, _, this, rfl⟩

/-! ### A token's own text is that token. -/
theorem tailT_nil {txt fs rest : List UInt8} {kind : Int} (h : (tailT txt fs rest kind).t ≠ []) : tailT txt fs [] kind = tailT txt fs rest kind := by
  unfold tailT at h ⊢
  split at h
  · exact absurd rfl h
  · rename_i hc
    rw [if_neg hc, if_neg (by simp [spanL])]
theorem tailT_text {txt fs rest : List UInt8} {kind : Int} (h : (tailT txt fs rest kind).t ≠ []) : (tailT txt fs rest kind).t = txt := by
  unfold tailT at h ⊢
  split at h
  · exact absurd rfl h
  · rename_i hc
    rw [if_neg hc]
    cases hp : parseR fs with
    | none => rw [hp] at h; exact absurd rfl h
    | some v => rfl
theorem numberT_self {s : List UInt8} (h : (numberT s).t ≠ []) : numberT (numberT s).t = numberT s := by
  have hn := spanL_le figK s
  by_cases hc : (s.drop (spanL figK s)).head? = some 46
  · have e : numberT s = decT s (spanL figK s) := if_pos hc
    rw [e] at h ⊢
    have h1 := head46_len hc
    have hk := spanL_le figK (s.drop (spanL figK s + 1))
    rw [List.length_drop] at hk
    by_cases hb : spanL figK (s.drop (spanL figK s + 1)) = 0 ∨ 4 < spanL figK (s.drop (spanL figK s + 1))
    · unfold decT at h; simp only [hb, ↓reduceIte] at h; exact absurd rfl h
    · have e2 : decT s (spanL figK s) = tailT (s.take (spanL figK s + 1 + spanL figK (s.drop (spanL figK s + 1)))) (s.take (spanL figK s) ++ ((s.drop (spanL figK s + 1)).take (spanL figK (s.drop (spanL figK s + 1))) ++ List.replicate (4 - spanL figK (s.drop (spanL figK s + 1))) 48)) (s.drop (spanL figK s + 1 + spanL figK (s.drop (spanL figK s + 1)))) 3 := by
        unfold decT; simp only [hb, ↓reduceIte]
      rw [e2] at h ⊢
      rw [tailT_text h]
      generalize hnn : spanL figK s = n at *
      generalize hkk : spanL figK (s.drop (n + 1)) = k at *
      have su : spanL figK (s.take (n + 1 + k)) = n := by rw [spanL_take, hnn]; omega
      unfold numberT
      simp only [su]
      have hd : ((s.take (n + 1 + k)).drop n).head? = some 46 := by
        rw [List.drop_take, show n + 1 + k - n = k + 1 by omega]
        cases hs : s.drop n with
        | nil => rw [hs] at hc; cases hc
        | cons a b => rw [hs] at hc; simpa using hc
      rw [if_pos hd]
      unfold decT
      have d1 : (s.take (n + 1 + k)).drop (n + 1 + k) = [] := List.drop_eq_nil_of_le (by rw [List.length_take]; omega)
      have d2 : (s.take (n + 1 + k)).drop (n + 1) = (s.drop (n + 1)).take k := by rw [List.drop_take, show n + 1 + k - (n + 1) = k by omega]
      have t1 : (s.take (n + 1 + k)).take (n + 1 + k) = s.take (n + 1 + k) := by rw [List.take_take, Nat.min_self]
      have t2 : (s.take (n + 1 + k)).take n = s.take n := by rw [List.take_take, Nat.min_eq_left (by omega)]
      have t3 : ((s.drop (n + 1)).take k).take k = (s.drop (n + 1)).take k := by rw [List.take_take, Nat.min_self]
      have sk : spanL figK ((s.drop (n + 1)).take k) = k := by rw [spanL_take, hkk]; omega
      simp only [d2, sk]
      rw [if_neg hb, t1, t2, t3, d1]
      exact tailT_nil h
  · have e : numberT s = tailT (s.take (spanL figK s)) (s.take (spanL figK s)) (s.drop (spanL figK s)) 2 := if_neg hc
    rw [e] at h ⊢
    rw [tailT_text h]
    generalize hnn : spanL figK s = n at *
    have su : spanL figK (s.take n) = n := by rw [spanL_take, hnn]; omega
    unfold numberT
    simp only [su]
    rw [if_neg (by rw [List.drop_eq_nil_of_le (by simp; omega)]; simp), List.take_take, Nat.min_self, List.drop_eq_nil_of_le (by simp; omega)]
    exact tailT_nil h

theorem headD_take {s : List UInt8} {n : Nat} : (s.take (n + 1)).headD 0 = s.headD 0 := by cases s <;> rfl
theorem textT_self {s : List UInt8} (h : (textT s).t ≠ []) : (∃ n, (textT s).t = s.take (n + 1)) ∧ textT (textT s).t = textT s := by
  unfold textT at h
  cases hq : quotedL (s.drop 1) with
  | none => rw [hq] at h; exact absurd rfl h
  | some x =>
    obtain ⟨o, n⟩ := x
    rw [hq] at h
    simp only at h
    split at h
    · exact absurd rfl h
    · rename_i hc
      have e : textT s = ⟨3, s.take (n + 1), 4, 0, o, 0⟩ := by unfold textT; rw [hq]; simp only [hc, ↓reduceIte]
      have ht := quotedL_take _ _ _ hq
      rw [List.length_drop] at ht
      refine ⟨⟨n, by rw [e]⟩, ?_⟩
      rw [e]
      simp only
      unfold textT
      rw [List.drop_take, Nat.add_sub_cancel, ht.2.2.2]
      simp only [hc, ↓reduceIte]
      rw [List.take_take, Nat.min_self]
theorem rawT_self {s : List UInt8} (h : (rawT s).t ≠ []) : (∃ n, (rawT s).t = s.take (n + 2)) ∧ rawT (rawT s).t = rawT s := by
  unfold rawT at h
  cases hq : quotedL (s.drop 2) with
  | none => rw [hq] at h; exact absurd rfl h
  | some x =>
    obtain ⟨o, n⟩ := x
    rw [hq] at h
    simp only at h
    split at h
    · exact absurd rfl h
    · rename_i hc
      cases hr : rawL o with
      | none => rw [hr] at h; exact absurd rfl h
      | some b =>
        have e : rawT s = ⟨4, s.take (n + 2), 5, 0, b, 0⟩ := by unfold rawT; rw [hq]; simp only [hc, ↓reduceIte]; rw [hr]
        have ht := quotedL_take _ _ _ hq
        rw [List.length_drop] at ht
        refine ⟨⟨n, by rw [e]⟩, ?_⟩
        rw [e]
        simp only
        unfold rawT
        rw [List.drop_take, Nat.add_sub_cancel, ht.2.2.2]
        simp only [hc, ↓reduceIte]
        rw [hr]
        simp only
        rw [List.take_take, Nat.min_self]
theorem span_all (p : Nat → Bool) : ∀ (l : List UInt8) (n : Nat), spanL p (l.take n) = (l.take n).length → ∀ i, i < (l.take n).length → p (ofB ((l.take n).getD i 0)) = true
  | [], n, h, i, hi => by simp at hi
  | c :: l, 0, h, i, hi => by simp at hi
  | c :: l, n + 1, h, i, hi => by
    rw [List.take_succ_cons] at h hi ⊢
    simp only [List.length_cons] at h hi
    unfold spanL at h
    split at h
    · rename_i hp
      cases i with
      | zero => exact hp
      | succ i => exact span_all p l n (by omega) i (by omega)
    · omega
theorem word_self {s : List UInt8} (h2 : ofB (s.headD 0) = 2) : nextT ((s.take (spanL partK s)).map lowB) = ⟨1, (s.take (spanL partK s)).map lowB, 0, 0, [], 0⟩ := by
  cases s with
  | nil => exact absurd h2 (by decide)
  | cons c l =>
    have h2' : ofB c = 2 := h2
    obtain ⟨n, hn⟩ : ∃ n, spanL partK (c :: l) = n + 1 := by
      unfold spanL; rw [h2']; exact ⟨_, rfl⟩
    have hl := spanL_le partK (c :: l)
    have hs : spanL partK ((c :: l).take (n + 1)) = n + 1 := by rw [spanL_take, hn]; omega
    have hlen : ((c :: l).take (n + 1)).length = n + 1 := by rw [List.length_take]; omega
    rw [hn]
    generalize hu : (c :: l).take (n + 1) = u at *
    have hh : u.headD 0 = c := by rw [← hu]; rfl
    have hmh : (u.map lowB).headD 0 = lowB c := by
      rw [← hu]; rfl
    unfold nextT
    rw [hmh, low_of, if_pos h2']
    have hr : rawLike (u.map lowB) = false := by
      unfold rawLike
      rw [Bool.and_eq_false_iff]
      refine .inr ?_
      rw [beq_eq_false_iff_ne]
      intro e
      rw [List.getElem?_map] at e
      cases hd : u[1]? with
      | none => rw [hd] at e; cases e
      | some d =>
        rw [hd] at e
        have he : lowB d = 39 := by simpa using e
        have hd1 : 1 < u.length := (List.getElem?_eq_some_iff.1 hd).1
        have := span_all partK (c :: l) (n + 1) (by rw [hu, hs, hlen]) 1 (by rw [hu]; exact hd1)
        rw [hu, List.getD_eq_getElem?_getD, hd, Option.getD_some, ← low_of, he] at this
        revert this; decide
    rw [if_neg (by rw [hr]; decide), spanL_low, hs, List.take_of_length_le (by simp [hlen])]
    simp only [List.map_map]
    congr 1
    apply List.map_congr_left
    intro x _
    exact low_low x
theorem nextT_self {s : List UInt8} (h : (nextT s).t ≠ []) : nextT (nextT s).t = nextT s := by
  cases s with
  | nil => exact absurd (by decide) h
  | cons c l =>
    by_cases h2 : ofB c = 2
    · by_cases hw : rawLike (c :: l) = true
      · have e : nextT (c :: l) = rawT (c :: l) := by unfold nextT; rw [List.headD_cons, if_pos h2, if_pos hw]
        rw [e] at h ⊢
        obtain ⟨⟨n, hn⟩, hs⟩ := rawT_self h
        have hw' : rawLike ((c :: l).take (n + 2)) = true := by
          unfold rawLike at hw ⊢
          cases l with
          | nil => simp at hw
          | cons d l => simpa using hw
        have h2' : ofB (((c :: l).take (n + 2)).headD 0) = 2 := h2
        have e2 : nextT ((c :: l).take (n + 2)) = rawT ((c :: l).take (n + 2)) := by unfold nextT; rw [if_pos h2', if_pos hw']
        rw [hn] at hs ⊢
        rw [e2, hs]
      · have e : nextT (c :: l) = ⟨1, ((c :: l).take (spanL partK (c :: l))).map lowB, 0, 0, [], 0⟩ := by unfold nextT; rw [List.headD_cons, if_pos h2, if_neg hw]
        rw [e]
        exact word_self (s := c :: l) h2
    · by_cases h3 : ofB c = 3
      · have e : nextT (c :: l) = numberT (c :: l) := by unfold nextT; rw [List.headD_cons, if_neg h2, if_pos h3]
        obtain ⟨d, r, hd, ho⟩ := nextT_head h
        rw [e] at h hd ⊢
        have e2 : nextT (numberT (c :: l)).t = numberT (numberT (c :: l)).t := by rw [hd]; unfold nextT; rw [List.headD_cons, ho, if_neg h2, if_pos h3]
        rw [e2]
        exact numberT_self h
      · by_cases h4 : c = 39
        · have e : nextT (c :: l) = textT (c :: l) := by unfold nextT; rw [List.headD_cons, if_neg h2, if_neg h3, if_pos h4]
          rw [e] at h ⊢
          obtain ⟨⟨n, hn⟩, hs⟩ := textT_self h
          have e2 : nextT ((c :: l).take (n + 1)) = textT ((c :: l).take (n + 1)) := by rw [List.take_succ_cons]; unfold nextT; rw [List.headD_cons, if_neg h2, if_neg h3, if_pos h4]
          rw [hn] at hs ⊢
          rw [e2, hs]
        · have e : nextT (c :: l) = signT (c :: l) := by unfold nextT; rw [List.headD_cons, if_neg h2, if_neg h3, if_neg h4]
          rw [e] at h ⊢
          by_cases ha : (c :: l).take 2 = [60, 61] ∨ (c :: l).take 2 = [62, 61] ∨ (c :: l).take 2 = [60, 62]
          · have e3 : signT (c :: l) = ⟨5, (c :: l).take 2, 0, 0, [], 0⟩ := if_pos ha
            rw [e3]
            have e2 : nextT ((c :: l).take 2) = signT ((c :: l).take 2) := by rw [List.take_succ_cons]; unfold nextT; rw [List.headD_cons, if_neg h2, if_neg h3, if_neg h4]
            show nextT ((c :: l).take 2) = _
            rw [e2]
            unfold signT
            rw [List.take_take, Nat.min_self, if_pos ha]
          · by_cases hb : c ∈ signL
            · have e3 : signT (c :: l) = ⟨5, [c], 0, 0, [], 0⟩ := by unfold signT; rw [if_neg ha, List.headD_cons, if_pos hb]; rfl
              rw [e3]
              show nextT [c] = _
              unfold nextT
              rw [List.headD_cons, if_neg h2, if_neg h3, if_neg h4]
              unfold signT
              rw [if_neg (by simp), List.headD_cons, if_pos hb]; rfl
            · have e3 : signT (c :: l) = Tok.no := by unfold signT; rw [if_neg ha, List.headD_cons, if_neg hb]
              rw [e3] at h
              exact absurd rfl h

/-- With a blank and more behind it a token's text is that token. -/
theorem nextT_own {s : List UInt8} (r : List UInt8) (h : (nextT s).t ≠ []) : nextT ((nextT s).t ++ 32 :: r) = nextT s := by
  rw [nextT_app r (by rw [nextT_self h]; exact h), nextT_self h]

end Go.Proofs.YtodhdbikbdlcaaaGreatDoor
