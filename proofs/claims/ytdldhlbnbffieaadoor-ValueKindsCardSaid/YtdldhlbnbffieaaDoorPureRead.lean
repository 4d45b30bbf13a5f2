/-
  A right value's text is read as the value: plain words, no program in sight.
-/
import Derived.Test.YtdldhlbnbffieaaDoorVRead
namespace Go.Proofs.YtdldhlbnbffieaaDoor
set_option linter.unusedSimpArgs false
set_option linter.unusedVariables false

def isDig (c : UInt8) : Prop := 48 ≤ c.toNat ∧ c.toNat ≤ 57
def dval (acc : Nat) (l : List UInt8) : Nat := l.foldl (fun a c => a * 10 + (c.toNat - 48)) acc
theorem dval_append (acc : Nat) (a b : List UInt8) : dval acc (a ++ b) = dval (dval acc a) b := by simp [dval]
theorem dval_ge : ∀ (l : List UInt8) (acc : Nat), acc ≤ dval acc l
  | [], acc => Nat.le_refl _
  | c :: r, acc => by
    have := dval_ge r (acc * 10 + (c.toNat - 48))
    show acc ≤ dval (acc * 10 + (c.toNat - 48)) r
    omega
theorem parseM_digits : ∀ (l : List UInt8) (acc : Nat), (∀ c ∈ l, isDig c) → dval acc l ≤ 18446744073709551615 → Lib.parseUintM (2 ^ 64 - 1) acc l = .ok (dval acc l)
  | [], acc, _, _ => rfl
  | c :: r, acc, hd, hv => by
    have hc : 48 ≤ c.toNat ∧ c.toNat ≤ 57 := hd c (by simp)
    have hge : acc * 10 + (c.toNat - 48) ≤ dval (acc * 10 + (c.toNat - 48)) r := dval_ge r _
    have hv' : dval (acc * 10 + (c.toNat - 48)) r ≤ 18446744073709551615 := hv
    unfold Lib.parseUintM
    rw [if_pos hc, if_neg (by omega), if_neg (by show ¬ (18446744073709551615 < _); omega)]
    exact parseM_digits r _ (fun x hx => hd x (by simp [hx])) hv'

theorem decDigits_dig (u : Nat) : ∀ c ∈ Lib.decDigits u, isDig c := by
  induction u using Nat.strongRecOn with
  | _ u ih =>
    rw [Lib.decDigits]
    have hd : ∀ d, d < 10 → isDig (UInt8.ofNat (48 + d)) := fun d h => by
      unfold isDig
      rw [UInt8.toNat_ofNat_of_lt' (by show 48 + d < 256; omega)]
      omega
    split
    · intro c hc
      simp only [List.mem_singleton] at hc
      subst hc; exact hd _ (by omega)
    · intro c hc
      rcases List.mem_append.1 hc with h | h
      · exact ih (u / 10) (by omega) c h
      · simp only [List.mem_singleton] at h
        subst h; exact hd _ (by omega)
theorem decDigits_val (u : Nat) : dval 0 (Lib.decDigits u) = u := by
  induction u using Nat.strongRecOn with
  | _ u ih =>
    rw [Lib.decDigits]
    have hd : ∀ d, d < 10 → (UInt8.ofNat (48 + d)).toNat - 48 = d := fun d h => by
      rw [UInt8.toNat_ofNat_of_lt' (by show 48 + d < 256; omega)]; omega
    split
    · simp only [dval, List.foldl_cons, List.foldl_nil]
      rw [hd _ (by omega)]; omega
    · rw [dval_append, ih (u / 10) (by omega)]
      simp only [dval, List.foldl_cons, List.foldl_nil]
      rw [hd _ (by omega)]; omega
theorem decDigits_ne (u : Nat) : Lib.decDigits u ≠ [] := by
  rw [Lib.decDigits]; split <;> simp
theorem dval_zeros : ∀ (k : Nat) (l : List UInt8), dval 0 (List.replicate k 48 ++ l) = dval 0 l
  | 0, l => rfl
  | k + 1, l => by rw [List.replicate_succ, List.cons_append]; exact dval_zeros k l

/-- A number's figures, maybe with a sign, are parsed as the number. -/
theorem parse_pos {l : List UInt8} {u : Nat} (hd : ∀ c ∈ l, isDig c) (hne : l ≠ []) (hv : dval 0 l = u) (hu : u < 9223372036854775808) : parseR l = some (u : Int) := by
  unfold parseR
  cases l with
  | nil => exact absurd rfl hne
  | cons c r =>
    have hc := hd c (by simp)
    have h1 : ¬ (c.toNat = 43 ∨ c.toNat = 45) := by unfold isDig at hc; omega
    have h2 : ¬ c.toNat = 45 := fun h => h1 (.inr h)
    unfold Lib.parseIntB
    simp only [if_neg h1]
    have hp : Lib.parseUintB 64 (c :: r) = .ok u := by
      unfold Lib.parseUintB
      rw [if_neg (by simp), parseM_digits _ _ hd (by rw [hv]; omega), hv]
    rw [hp]
    simp only [if_neg h2, show (2 : Nat) ^ (64 - 1) = 9223372036854775808 from rfl]
    rw [if_neg (fun h => by omega), if_neg (fun h => h2 h.1)]
theorem parse_neg {l : List UInt8} {u : Nat} (hd : ∀ c ∈ l, isDig c) (hne : l ≠ []) (hv : dval 0 l = u) (hu : u ≤ 9223372036854775808) : parseR (45 :: l) = some (-(u : Int)) := by
  unfold parseR Lib.parseIntB
  have h1 : ((45 : UInt8).toNat = 43 ∨ (45 : UInt8).toNat = 45) := .inr rfl
  have h2 : (45 : UInt8).toNat = 45 := rfl
  simp only [if_pos h1]
  have hp : Lib.parseUintB 64 l = .ok u := by
    unfold Lib.parseUintB
    rw [if_neg hne, parseM_digits _ _ hd (by rw [hv]; omega), hv]
  rw [hp]
  simp only [if_pos h2, show (2 : Nat) ^ (64 - 1) = 9223372036854775808 from rfl]
  rw [if_neg (fun h => h.1 h2), if_neg (fun h => by omega)]

/-- A text that begins with a figure or a minus is guessed as a number. -/
theorem guess_isnum {c : UInt8} {r : List UInt8} (h : isDig c ∨ c = 45) : guessL (c :: r) = guessNum (c :: r) := by
  have h39 : c ≠ 39 := by rintro rfl; rcases h with ⟨h, _⟩ | h <;> revert h <;> decide
  have h120 : c ≠ 120 := by rintro rfl; rcases h with ⟨_, h⟩ | h <;> revert h <;> decide
  have h110 : c ≠ 110 := by rintro rfl; rcases h with ⟨_, h⟩ | h <;> revert h <;> decide
  have h116 : c ≠ 116 := by rintro rfl; rcases h with ⟨_, h⟩ | h <;> revert h <;> decide
  have h102 : c ≠ 102 := by rintro rfl; rcases h with ⟨_, h⟩ | h <;> revert h <;> decide
  have hb : isBytesLike (c :: r) = false := by
    unfold isBytesLike Lib.hasPrefix
    have : ([120, 39] : List UInt8).isPrefixOf (c :: r) = false := by
      simp only [List.isPrefixOf]
      rw [show ((120 : UInt8) == c) = false from beq_eq_false_iff_ne.2 (fun e => h120 e.symm)]; rfl
    rw [this]; rfl
  have ht : isTextLike (c :: r) = false := by
    unfold isTextLike Lib.hasPrefix
    have : ([39] : List UInt8).isPrefixOf (c :: r) = false := by
      simp only [List.isPrefixOf]
      rw [show ((39 : UInt8) == c) = false from beq_eq_false_iff_ne.2 (fun e => h39 e.symm)]; rfl
    rw [this]; rfl
  unfold guessL
  rw [if_neg (by simp [h110]), if_neg (by simp [h116]), if_neg (by simp [h102]), if_neg (by simp [hb]), if_neg (by simp [ht])]

/-- What itoa writes: figures, maybe behind a minus. -/
theorem itoa_form (n : Int) : ∃ u : Nat, (0 ≤ n ∧ n = u ∧ Lib.itoa n = Lib.decDigits u) ∨ (n < 0 ∧ n = -(u : Int) ∧ Lib.itoa n = 45 :: Lib.decDigits u) := by
  unfold Lib.itoa
  by_cases h : n < 0
  · exact ⟨n.natAbs, .inr ⟨h, by omega, by rw [if_pos h]⟩⟩
  · exact ⟨n.toNat, .inl ⟨by omega, by omega, by rw [if_neg h]⟩⟩

theorem no_point {l : List UInt8} (h : ∀ c ∈ l, isDig c ∨ c = 45) (k : Nat) : l.getD k 0 ≠ 46 := by
  rw [List.getD_eq_getElem?_getD]
  cases hk : l[k]? with
  | none => decide
  | some c =>
    have := h c (List.mem_of_getElem? hk)
    intro e
    simp only [Option.getD_some] at e
    subst e
    rcases this with ⟨h1, _⟩ | h1 <;> revert h1 <;> decide

theorem guess_itoa (n : Int) (h0 : -9223372036854775808 ≤ n) (h1 : n ≤ 9223372036854775807) : guessL (Lib.itoa n) = ⟨2, n, ⟨#[]⟩⟩ := by
  obtain ⟨u, ⟨hn, hu, he⟩ | ⟨hn, hu, he⟩⟩ := itoa_form n
  · have hd := decDigits_dig u
    have hne := decDigits_ne u
    have hp := parse_pos hd hne (decDigits_val u) (by omega)
    rw [he]
    cases hl : Lib.decDigits u with
    | nil => exact absurd hl hne
    | cons c r =>
      rw [guess_isnum (.inl (hd c (by rw [hl]; simp))), ← hl]
      have hno : numOf (Lib.decDigits u) = (2, Lib.decDigits u) := by
        unfold numOf; rw [if_neg (fun h => no_point (fun c hc => .inl (hd c hc)) _ h.2)]
      unfold guessNum
      rw [hno]
      simp only [hp, hu]
  · have hd := decDigits_dig u
    have hne := decDigits_ne u
    have hp := parse_neg hd hne (decDigits_val u) (by omega)
    rw [he, guess_isnum (.inr rfl)]
    have hno : numOf (45 :: Lib.decDigits u) = (2, 45 :: Lib.decDigits u) := by
      unfold numOf
      rw [if_neg (fun h => no_point (l := 45 :: Lib.decDigits u) (fun c hc => by
        rcases List.mem_cons.1 hc with h | h
        · exact .inr h
        · exact .inl (hd c h)) _ h.2)]
    unfold guessNum
    rw [hno]
    simp only [hp, hu]

theorem cut_at (a b : List UInt8) : (a ++ 46 :: b).take a.length = a ∧ (a ++ 46 :: b).drop (a.length + 1) = b ∧ (a ++ 46 :: b).getD a.length 0 = 46 := by
  refine ⟨by simp, ?_, ?_⟩
  · rw [List.drop_append, List.drop_eq_nil_of_le (by omega)]; simp
  · rw [List.getD_eq_getElem?_getD, List.getElem?_append_right (Nat.le_refl _)]; simp

/-- A decimal's body: at least five figures, the point ahead of the last four. -/
theorem numOf_body {sg p : List UInt8} (h5 : 5 ≤ p.length) : numOf (sg ++ (p.take (p.length - 4) ++ [46] ++ p.drop (p.length - 4))) = (3, sg ++ p) := by
  have hlen : (sg ++ (p.take (p.length - 4) ++ [46] ++ p.drop (p.length - 4))).length = sg.length + p.length + 1 := by
    simp; omega
  have ht : (p.take (p.length - 4)).length = p.length - 4 := by rw [List.length_take]; omega
  have e : sg.length + p.length + 1 - 5 = (sg ++ p.take (p.length - 4)).length := by rw [List.length_append, ht]; omega
  have e2 : sg.length + p.length + 1 - 4 = (sg ++ p.take (p.length - 4)).length + 1 := by rw [List.length_append, ht]; omega
  have hs : sg ++ (p.take (p.length - 4) ++ [46] ++ p.drop (p.length - 4)) = (sg ++ p.take (p.length - 4)) ++ (46 :: p.drop (p.length - 4)) := by simp
  unfold numOf
  rw [hlen, if_pos]
  · rw [hs, e, e2, (cut_at _ _).1, (cut_at _ _).2.1, List.append_assoc, List.take_append_drop]
  · refine ⟨by omega, ?_⟩
    rw [hs, e]; exact (cut_at _ _).2.2

theorem guess_dec (n : Int) (h0 : -9223372036854775808 ≤ n) (h1 : n ≤ 9223372036854775807) : guessL (decL n) = ⟨3, n, ⟨#[]⟩⟩ := by
  obtain ⟨u, ⟨hn, hu, he⟩ | ⟨hn, hu, he⟩⟩ := itoa_form n
  all_goals
    have hd := decDigits_dig u
    have hne := decDigits_ne u
    have hv := decDigits_val u
    generalize Lib.decDigits u = d at hd hne hv he
    obtain ⟨p, hp⟩ : ∃ p, p = if d.length < 5 then List.replicate (5 - d.length) 48 ++ d else d := ⟨_, rfl⟩
    have hp5 : 5 ≤ p.length := by
      rw [hp]; split
      · rw [List.length_append, List.length_replicate]; omega
      · omega
    have hpd : ∀ c ∈ p, isDig c := by
      rw [hp]; split
      · intro c hc
        rcases List.mem_append.1 hc with h | h
        · rw [(List.mem_replicate.1 h).2]; unfold isDig; decide
        · exact hd c h
      · exact hd
    have hpv : dval 0 p = u := by
      rw [hp]; split
      · rw [dval_zeros, hv]
      · exact hv
    have hpn : p ≠ [] := by intro h; rw [h] at hp5; simp at hp5
  · have hpre : Lib.hasPrefix (Lib.itoa n) [45] = false := by
      rw [he]
      cases d with
      | nil => exact absurd rfl hne
      | cons c r =>
        have := hd c (by simp)
        have h45 : (45 : UInt8) ≠ c := by rintro rfl; revert this; unfold isDig; decide
        simp [Lib.hasPrefix, List.isPrefixOf, h45]
    have hdl : decL n = [] ++ (p.take (p.length - 4) ++ [46] ++ p.drop (p.length - 4)) := by
      unfold decL decBody Lib.trimPrefix
      rw [hpre]
      simp only [Bool.false_eq_true, if_false]
      rw [he, ← hp]
    have hno := numOf_body (sg := []) hp5
    rw [← hdl] at hno
    have hpos := parse_pos hpd hpn hpv (by omega)
    cases hl : decL n with
    | nil => rw [hl] at hdl; simp at hdl
    | cons c r =>
      have hc : isDig c := by
        have : c ∈ p := by
          cases hpp : p.take (p.length - 4) with
          | nil =>
            rw [List.take_eq_nil_iff] at hpp
            rcases hpp with h | h
            · omega
            · exact absurd h hpn
          | cons a t =>
            rw [hl, hpp] at hdl
            simp only [List.nil_append, List.cons_append, List.cons.injEq] at hdl
            rw [hdl.1]
            exact List.mem_of_mem_take (by rw [hpp]; simp)
        exact hpd c this
      rw [guess_isnum (.inl hc), ← hl]
      unfold guessNum
      rw [hno]
      simp only [List.nil_append, hpos, hu]
  · have hpre : Lib.hasPrefix (Lib.itoa n) [45] = true := by rw [he]; simp [Lib.hasPrefix, List.isPrefixOf]
    have hdl : decL n = [45] ++ (p.take (p.length - 4) ++ [46] ++ p.drop (p.length - 4)) := by
      unfold decL decBody Lib.trimPrefix
      rw [hpre]
      simp only [if_true]
      rw [he]
      simp only [List.length_cons, List.length_nil, List.drop_succ_cons, List.drop_zero]
      rw [← hp]
    have hno := numOf_body (sg := [45]) hp5
    rw [← hdl] at hno
    have hneg := parse_neg hpd hpn hpv (by omega)
    have hg : guessL (decL n) = guessNum (decL n) := by rw [hdl]; exact guess_isnum (.inr rfl)
    rw [hg]
    unfold guessNum
    rw [hno]
    simp only [List.cons_append, List.nil_append, hneg, hu]

end Go.Proofs.YtdldhlbnbffieaaDoor
