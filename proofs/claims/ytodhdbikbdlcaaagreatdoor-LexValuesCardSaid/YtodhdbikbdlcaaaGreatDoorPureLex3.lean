/-
  What layer 16's statements say of a text's tokens: plain words, no program in sight.
-/
import Derived.Test.YtodhdbikbdlcaaaGreatDoorPureLex2
namespace Go.Proofs.YtodhdbikbdlcaaaGreatDoor
set_option linter.unusedSimpArgs false
set_option linter.unusedVariables false

inductive LexTo : List UInt8 → Int → List Tok → Prop
  | fin (p : Int) : LexTo [] p [Tok.fin p]
  | blank {c : UInt8} {l : List UInt8} {p : Int} {r : List Tok} : ofB c = 1 → LexTo l (p + 1) r → LexTo (c :: l) p r
  | tok {c : UInt8} {l : List UInt8} {p : Int} {r : List Tok} : ¬ ofB c = 1 → (nextT (c :: l)).t ≠ [] →
      LexTo ((c :: l).drop (nextT (c :: l)).t.length) (p + (nextT (c :: l)).t.length) r → LexTo (c :: l) p ((nextT (c :: l)).at p :: r)

theorem lexTo_of : ∀ (f : Nat) (s : List UInt8) (p : Int) (r : List Tok), s.length < f → lexA s p = .ok r → LexTo s p r
  | 0, _, _, _, h, _ => absurd h (by omega)
  | f + 1, [], p, r, _, h => by
    rw [lexA_nil] at h
    injection h with h
    subst h; exact .fin p
  | f + 1, c :: l, p, r, hf, h => by
    simp only [List.length_cons] at hf
    by_cases hb : ofB c = 1
    · rw [lexA_blank p hb] at h
      exact .blank hb (lexTo_of f l _ r (by omega) h)
    · by_cases ht : (nextT (c :: l)).t = []
      · rw [lexA_bad p hb ht] at h; cases h
      · rw [lexA_tok p hb ht] at h
        have hp : 0 < (nextT (c :: l)).t.length := List.length_pos_iff.2 ht
        cases hr : lexA ((c :: l).drop (nextT (c :: l)).t.length) (p + (nextT (c :: l)).t.length) with
        | bad q => rw [hr] at h; cases h
        | ok m =>
          rw [hr] at h
          injection h with h
          subst h
          exact .tok hb ht (lexTo_of f _ _ m (by simp only [List.length_drop, List.length_cons]; omega) hr)
theorem LexTo.eq {s : List UInt8} {p : Int} {r : List Tok} (h : LexTo s p r) : lexA s p = .ok r := by
  induction h with
  | fin p => rfl
  | blank hb _ ih => rw [lexA_blank _ hb, ih]
  | tok hb ht _ ih => rw [lexA_tok _ hb ht, ih]; rfl
theorem LexTo.ne {s : List UInt8} {p : Int} {r : List Tok} (h : LexTo s p r) : r ≠ [] := by
  induction h with
  | fin p => simp
  | blank _ _ ih => exact ih
  | tok _ _ _ _ => simp
theorem lexL_ok {s : List UInt8} {r : List Tok} (h : lexL s = .ok r) : s.length ≤ 1000 ∧ LexTo s 0 r := by
  unfold lexL at h
  split at h
  · cases h
  · exact ⟨by omega, lexTo_of _ s 0 r (Nat.lt_succ_self _) h⟩
theorem lexL_of {s : List UInt8} {r : List Tok} (hs : s.length ≤ 1000) (h : LexTo s 0 r) : lexL s = .ok r := by
  unfold lexL
  rw [if_neg (by omega)]
  exact h.eq
theorem LexTo.len {s : List UInt8} {p : Int} {r : List Tok} (h : LexTo s p r) : r.length ≤ s.length + 1 := by
  induction h with
  | fin p => simp
  | blank _ _ ih => simp only [List.length_cons]; omega
  | @tok c l p r hb ht _ ih =>
    have hp : 0 < (nextT (c :: l)).t.length := List.length_pos_iff.2 ht
    simp only [List.length_drop, List.length_cons] at ih ⊢
    omega

/-! ### Where it stands -/
def Places (s : List UInt8) : Nat → List Tok → Prop
  | a, [] => a = s.length
  | a, t :: r => (t.k = 6 ↔ r = []) ∧ ∃ q : Nat, t.at_ = q ∧ a ≤ q ∧ q + t.t.length ≤ s.length ∧ (∀ j, a ≤ j → j < q → ofB (s.getD j 0) = 1) ∧
      (∀ j, j < t.t.length → t.t.getD j 0 = if t.k = 1 then lowB (s.getD (q + j) 0) else s.getD (q + j) 0) ∧ Places s (q + t.t.length) r

theorem getD_of_drop {s l : List UInt8} {c : UInt8} {q : Nat} (h : c :: l = s.drop q) : s.getD q 0 = c ∧ l = s.drop (q + 1) ∧ q + 1 ≤ s.length := by
  have hq : q < s.length := by
    rcases Nat.lt_or_ge q s.length with h' | h'
    · exact h'
    · rw [List.drop_eq_nil_of_le h'] at h; cases h
  rw [List.drop_eq_getElem_cons hq] at h
  injection h with h1 h2
  exact ⟨by rw [List.getD_eq_getElem?_getD, List.getElem?_eq_getElem hq, h1]; rfl, h2, hq⟩
theorem getD_take (s : List UInt8) (n j : Nat) (h : j < n) : (s.take n).getD j 0 = s.getD j 0 := by
  rw [List.getD_eq_getElem?_getD, List.getD_eq_getElem?_getD, List.getElem?_take_of_lt h]
theorem getD_drop (s : List UInt8) (q j : Nat) : (s.drop q).getD j 0 = s.getD (q + j) 0 := by
  rw [List.getD_eq_getElem?_getD, List.getD_eq_getElem?_getD, List.getElem?_drop]
theorem getD_map_low (s : List UInt8) (j : Nat) : (s.map lowB).getD j 0 = lowB (s.getD j 0) := by
  rw [List.getD_eq_getElem?_getD, List.getD_eq_getElem?_getD, List.getElem?_map]
  cases s[j]? <;> rfl
theorem places_of {s : List UInt8} {p : Int} {r : List Tok} (h : LexTo s p r) : ∀ (s0 : List UInt8) (a q : Nat), s = s0.drop q → p = q → q ≤ s0.length → a ≤ q →
    (∀ j, a ≤ j → j < q → ofB (s0.getD j 0) = 1) → Places s0 a r := by
  induction h with
  | fin p =>
    intro s0 a q hs hp hq ha hb
    have hl : s0.length ≤ q := List.drop_eq_nil_iff.1 hs.symm
    have e : q = s0.length := by omega
    subst e
    refine ⟨⟨fun _ => rfl, fun _ => rfl⟩, s0.length, hp, ha, by show s0.length + 0 ≤ _; omega, hb, fun j hj => absurd hj (by show ¬ j < 0; omega), rfl⟩
  | @blank c l p r hc _ ih =>
    intro s0 a q hs hp hq ha hb
    obtain ⟨h1, h2, h3⟩ := getD_of_drop hs
    refine ih s0 a (q + 1) h2 (by omega) h3 (by omega) fun j hj1 hj2 => ?_
    rcases Nat.lt_or_ge j q with h' | h'
    · exact hb j hj1 h'
    · have : j = q := by omega
      subst this; rw [h1]; exact hc
  | @tok c l p r hc ht hr ih =>
    intro s0 a q hs hp hq ha hb
    have ho := nextT_of ht
    have hlen : (nextT (c :: l)).t.length ≤ s0.length - q := by rw [← List.length_drop, ← hs]; exact ho.len
    refine ⟨⟨fun h6 => ?_, fun h => absurd h hr.ne⟩, q, hp, ha, ?_, hb, ?_, ?_⟩
    · have : (nextT (c :: l)).k = 6 := h6
      have := ho.kind
      omega
    · show q + (nextT (c :: l)).t.length ≤ _; omega
    · intro j hj
      have hj' : j < (nextT (c :: l)).t.length := hj
      show (nextT (c :: l)).t.getD j 0 = if (nextT (c :: l)).k = 1 then _ else _
      by_cases hk : (nextT (c :: l)).k = 1
      · rw [if_pos hk, ho.word hk, getD_map_low, getD_take _ _ _ hj', hs, getD_drop]
      · rw [if_neg hk, ho.same hk, getD_take _ _ _ hj', hs, getD_drop]
    · refine ih s0 (q + (nextT (c :: l)).t.length) (q + (nextT (c :: l)).t.length) ?_ (by omega) (by omega) (Nat.le_refl _) (fun j h1 h2 => absurd h2 (by omega))
      rw [hs, List.drop_drop]

/-! ### Again -/
def againL (l : List Tok) : List UInt8 := l.flatMap fun t => t.t ++ [32]
theorem again_of {s : List UInt8} {p : Int} {r : List Tok} (h : LexTo s p r) : ∀ q : Int, ∃ m, LexTo (againL r) q m ∧ m.map (fun t => t.at 0) = r.map (fun t => t.at 0) := by
  induction h with
  | fin p => exact fun q => ⟨[Tok.fin (q + 1)], .blank rfl (.fin _), rfl⟩
  | blank _ _ ih => exact ih
  | @tok c l p r hc ht hr ih =>
    intro q
    obtain ⟨d, r', hd, ho⟩ := nextT_head ht
    obtain ⟨m, hm, he⟩ := ih (q + (nextT (c :: l)).t.length + 1)
    have hn := nextT_own (againL r) ht
    have ha : againL ((nextT (c :: l)).at p :: r) = (nextT (c :: l)).t ++ 32 :: againL r := by
      unfold againL
      rw [List.flatMap_cons, List.append_assoc]; rfl
    have hd1 : (nextT (c :: l)).t ++ 32 :: againL r = d :: (r' ++ 32 :: againL r) := by rw [hd]; rfl
    refine ⟨(nextT (c :: l)).at q :: m, ?_, ?_⟩
    · rw [ha, hd1]
      rw [hd1] at hn
      have hk : LexTo (d :: (r' ++ 32 :: againL r)) q ((nextT (d :: (r' ++ 32 :: againL r))).at q :: m) := by
        refine .tok (by rw [ho]; exact hc) (by rw [hn]; exact ht) ?_
        rw [hn, ← hd1, List.drop_append, List.drop_eq_nil_of_le (Nat.le_refl _), Nat.sub_self]
        exact .blank rfl hm
      rw [hn] at hk
      exact hk
    · rw [List.map_cons, List.map_cons, he]; rfl
theorem again_len {s : List UInt8} {p : Int} {r : List Tok} (h : LexTo s p r) : (againL r).length ≤ 2 * s.length + 1 := by
  induction h with
  | fin p => simp [againL, Tok.fin]
  | blank _ _ ih => simp only [List.length_cons]; omega
  | @tok c l p r hc ht hr ih =>
    have hp : 0 < (nextT (c :: l)).t.length := List.length_pos_iff.2 ht
    have ho := (nextT_of ht).len
    have ha : (againL ((nextT (c :: l)).at p :: r)).length = (nextT (c :: l)).t.length + 1 + (againL r).length := by
      unfold againL
      rw [List.flatMap_cons, List.length_append, List.length_append]; rfl
    rw [ha]
    simp only [List.length_drop, List.length_cons] at ih ho ⊢
    omega

/-! ### Text by text -/
def Tok.later (d : Int) (t : Tok) : Tok := t.at (t.at_ + d)
theorem LexTo.shift {s : List UInt8} {p : Int} {r : List Tok} (h : LexTo s p r) : ∀ d : Int, LexTo s (p + d) (r.map (Tok.later d)) := by
  induction h with
  | fin p => exact fun d => .fin _
  | @blank c l p r hb _ ih => exact fun d => .blank hb (by have := ih d; rwa [show p + 1 + d = p + d + 1 by omega] at this)
  | @tok c l p r hb ht _ ih =>
    intro d
    rw [List.map_cons]
    refine .tok hb ht ?_
    have := ih d
    rwa [show p + ↑(nextT (c :: l)).t.length + d = p + d + ↑(nextT (c :: l)).t.length by omega] at this
theorem join_of {a b : List UInt8} {p : Int} {x y : List Tok} (h : LexTo a p x) (hb : LexTo b 0 y) : LexTo (a ++ 32 :: b) p (x.dropLast ++ y.map (Tok.later (p + a.length + 1))) := by
  induction h with
  | fin p =>
    refine .blank rfl ?_
    have := hb.shift (p + 1)
    rw [Int.zero_add] at this
    simpa using this
  | @blank c l p r hc _ ih =>
    rw [List.cons_append]
    refine .blank hc ?_
    rw [show p + ((c :: l).length : Int) + 1 = p + 1 + l.length + 1 by simp only [List.length_cons]; omega]
    exact ih
  | @tok c l p r hc ht hr ih =>
    have hn := nextT_app b ht
    have ho := (nextT_of ht).len
    rw [List.dropLast_cons_of_ne_nil hr.ne, List.cons_append, List.cons_append]
    rw [List.cons_append] at hn
    have hk : LexTo (c :: (l ++ 32 :: b)) p ((nextT (c :: (l ++ 32 :: b))).at p :: (r.dropLast ++ y.map (Tok.later (p + (c :: l).length + 1)))) := by
      refine .tok hc (by rw [hn]; exact ht) ?_
      rw [hn, ← List.cons_append, drop_app ho]
      have e : p + ((nextT (c :: l)).t.length : Int) + (((c :: l).drop (nextT (c :: l)).t.length).length : Int) + 1 = p + ((c :: l).length : Int) + 1 := by
        rw [List.length_drop]; omega
      rw [e] at ih
      exact ih
    rw [hn] at hk
    exact hk

/-! ### Great letters and small ones -/
def caseB (c : UInt8) : Bool := c == 32 || c == 95 || (decide (97 ≤ c.toNat) && decide (c.toNat ≤ 122))
def upB (c : UInt8) : UInt8 := if 97 ≤ c.toNat ∧ c.toNat ≤ 122 then c - 32 else c
def casesF : Bool → List UInt8 → Option Nat
  | _, [] => some 0
  | b, c :: l => if caseB c = false then none
    else if c = 32 then casesF true l
    else if b = true then (if c = 95 then none else (casesF false l).map (· + 1)) else casesF false l

theorem up_sub (c : UInt8) (h : 97 ≤ c.toNat ∧ c.toNat ≤ 122) : (c - 32).toNat = c.toNat - 32 := by
  rw [UInt8.toNat_sub_of_le]
  · rfl
  · rw [UInt8.le_iff_toNat_le]; show 32 ≤ _; omega
theorem low_up {c : UInt8} (h : caseB c = true) : lowB (upB c) = c ∧ lowB c = c ∧ ofB (upB c) = ofB c ∧ (c = 32 ∨ partK (ofB c) = true) ∧ c ≠ 39 ∧ upB c ≠ 39 := by
  unfold caseB at h
  rw [Bool.or_eq_true, Bool.or_eq_true, Bool.and_eq_true] at h
  rcases h with (h | h) | h
  · rw [beq_iff_eq] at h; subst h; decide
  · rw [beq_iff_eq] at h; subst h; decide
  · have h1 : 97 ≤ c.toNat ∧ c.toNat ≤ 122 := by simpa using h
    have hu : upB c = c - 32 := if_pos h1
    have hs := up_sub c h1
    have hl : lowB c = c := if_neg (by omega)
    have e : c - 32 + 32 = c := by
      apply UInt8.toNat_inj.1
      rw [UInt8.toNat_add, hs]; show (c.toNat - 32 + 32) % 256 = _; omega
    have ho : ofB c = 2 := by unfold ofB; rw [if_pos (.inl h1)]
    have ho2 : ofB (c - 32) = 2 := by unfold ofB; rw [if_pos (.inr (by rw [hs]; omega))]
    refine ⟨by rw [hu]; unfold lowB; rw [if_pos (by rw [hs]; omega), e], hl, by rw [hu, ho, ho2], .inr (by rw [ho]; rfl), ?_, ?_⟩
    · rintro rfl; revert h1; decide
    · rw [hu]; intro e39
      have : (c - 32).toNat = 39 := by rw [e39]; rfl
      omega
theorem casesF_all : ∀ (l : List UInt8) (b : Bool) (n : Nat), casesF b l = some n → ∀ c ∈ l, caseB c = true
  | [], _, _, _, c, hc => by simp at hc
  | d :: l, b, n, h, c, hc => by
    unfold casesF at h
    by_cases hd : caseB d = false
    · rw [if_pos hd] at h; cases h
    · rw [if_neg hd] at h
      rcases List.mem_cons.1 hc with rfl | hc
      · simpa using hd
      · split at h
        · exact casesF_all l _ _ h c hc
        · split at h
          · split at h
            · cases h
            · obtain ⟨m, hm, _⟩ := Option.map_eq_some_iff.1 h
              exact casesF_all l _ _ hm c hc
          · exact casesF_all l _ _ h c hc
theorem casesF_drop : ∀ (l : List UInt8) (n : Nat), casesF false l = some n → casesF true (l.drop (spanL partK l)) = some n
  | [], n, h => h
  | c :: l, n, h => by
    have hall := casesF_all _ _ _ h c (by simp)
    have hc := low_up hall
    unfold casesF at h
    rw [if_neg (by rw [hall]; decide)] at h
    by_cases h32 : c = 32
    · subst h32
      rw [if_pos rfl] at h
      show casesF true ((32 :: l).drop (if partK (ofB 32) = true then _ else 0)) = _
      rw [if_neg (by decide)]
      rw [List.drop_zero]
      unfold casesF
      rw [if_neg (by decide), if_pos rfl]; exact h
    · rw [if_neg h32, if_neg (by decide)] at h
      show casesF true ((c :: l).drop (if partK (ofB c) = true then spanL partK l + 1 else 0)) = _
      rw [if_pos (by rcases hc.2.2.2.1 with h' | h'; exact absurd h' h32; exact h'), List.drop_succ_cons]
      exact casesF_drop l n h
theorem spanL_up : ∀ (l : List UInt8), (∀ c ∈ l, caseB c = true) → spanL partK (l.map upB) = spanL partK l
  | [], _ => rfl
  | c :: l, h => by
    show (if partK (ofB (upB c)) = true then spanL partK (l.map upB) + 1 else 0) = (if partK (ofB c) = true then spanL partK l + 1 else 0)
    rw [(low_up (h c (by simp))).2.2.1, spanL_up l (fun x hx => h x (by simp [hx]))]
theorem map_low_id : ∀ (l : List UInt8), (∀ c ∈ l, caseB c = true) → l.map lowB = l ∧ (l.map upB).map lowB = l
  | [], _ => ⟨rfl, rfl⟩
  | c :: l, h => by
    have hc := low_up (h c (by simp))
    have ih := map_low_id l (fun x hx => h x (by simp [hx]))
    rw [List.map_cons, List.map_cons, List.map_cons, ih.1, ih.2, hc.1, hc.2.1]; exact ⟨rfl, rfl⟩
theorem word_of {c : UInt8} {l : List UInt8} (h : ∀ x ∈ l, x ≠ 39) (h2 : ofB c = 2) : nextT (c :: l) = ⟨1, ((c :: l).take (spanL partK (c :: l))).map lowB, 0, 0, [], 0⟩ := by
  have hr : ¬ rawLike (c :: l) = true := by
    unfold rawLike
    rw [Bool.and_eq_true]
    intro h'
    have h1 : (c :: l)[1]? = some 39 := by simpa using h'.2
    have : (39 : UInt8) ∈ l := List.mem_of_getElem? (by simpa using h1 : l[0]? = some 39)
    exact h _ this rfl
  unfold nextT
  rw [List.headD_cons, if_pos h2, if_neg hr]

theorem cases_of : ∀ (f : Nat) (s : List UInt8) (n : Nat) (p : Int), s.length < f → casesF true s = some n → ∃ r, LexTo s p r ∧ LexTo (s.map upB) p r ∧ r.length = n + 1
  | 0, _, _, _, h, _ => absurd h (by omega)
  | f + 1, [], n, p, _, h => by
    have : 0 = n := by simpa [casesF] using h
    subst this
    exact ⟨_, .fin p, .fin p, rfl⟩
  | f + 1, c :: l, n, p, hf, h => by
    simp only [List.length_cons] at hf
    have hall := casesF_all _ _ _ h
    have hc := hall c (by simp)
    have hu := low_up hc
    unfold casesF at h
    rw [if_neg (by rw [hc]; decide)] at h
    by_cases h32 : c = 32
    · subst h32
      rw [if_pos rfl] at h
      obtain ⟨r, h1, h2, h3⟩ := cases_of f l n (p + 1) (by omega) h
      exact ⟨r, .blank rfl h1, .blank (c := upB 32) (by decide) h2, h3⟩
    · rw [if_neg h32, if_pos rfl] at h
      by_cases h95 : c = 95
      · rw [if_pos h95] at h; cases h
      · rw [if_neg h95] at h
        obtain ⟨m, hm, rfl⟩ := Option.map_eq_some_iff.1 h
        have ho : ofB c = 2 := by
          unfold caseB at hc
          rw [Bool.or_eq_true, Bool.or_eq_true, Bool.and_eq_true] at hc
          rcases hc with (h' | h') | h'
          · exact absurd (beq_iff_eq.1 h') h32
          · exact absurd (beq_iff_eq.1 h') h95
          · unfold ofB; rw [if_pos (.inl (by simpa using h'))]
        have hsp : spanL partK (c :: l) = spanL partK l + 1 := by
          show (if partK (ofB c) = true then spanL partK l + 1 else 0) = _
          rw [ho]; rfl
        have hall' : ∀ x ∈ l, caseB x = true := fun x hx => hall x (by simp [hx])
        have hle := spanL_le partK l
        have hd := casesF_drop l m hm
        obtain ⟨r, h1, h2, h3⟩ := cases_of f (l.drop (spanL partK l)) m (p + (spanL partK l + 1 : Nat)) (by rw [List.length_drop]; omega) hd
        have w1 := word_of (fun x hx => (low_up (hall' x hx)).2.2.2.2.1) ho
        have w2 := word_of (c := upB c) (l := l.map upB) (fun x hx => by
          obtain ⟨y, hy, rfl⟩ := List.mem_map.1 hx
          exact (low_up (hall' y hy)).2.2.2.2.2) (by rw [hu.2.2.1]; exact ho)
        have hT : ∀ x ∈ (c :: l).take (spanL partK l + 1), caseB x = true := fun x hx => hall x (List.mem_of_mem_take hx)
        rw [hsp, (map_low_id _ hT).1] at w1
        rw [← List.map_cons, spanL_up _ hall, hsp, ← List.map_take, (map_low_id _ hT).2] at w2
        have hl1 : ((c :: l).take (spanL partK l + 1)).length = spanL partK l + 1 := by rw [List.length_take, List.length_cons]; omega
        have hne : (c :: l).take (spanL partK l + 1) ≠ [] := by rw [List.take_succ_cons]; simp
        refine ⟨(nextT (c :: l)).at p :: r, ?_, ?_, by rw [List.length_cons, h3]⟩
        · refine .tok (by rw [ho]; decide) (by rw [w1]; exact hne) ?_
          rw [w1]
          show LexTo ((c :: l).drop ((c :: l).take (spanL partK l + 1)).length) (p + (((c :: l).take (spanL partK l + 1)).length : Nat)) r
          rw [hl1, List.drop_succ_cons]; exact h1
        · rw [w1, ← w2, List.map_cons]
          refine .tok (by rw [hu.2.2.1, ho]; decide) ?_ ?_
          · rw [← List.map_cons, w2]; exact hne
          · rw [← List.map_cons, w2]
            show LexTo (((c :: l).map upB).drop ((c :: l).take (spanL partK l + 1)).length) (p + (((c :: l).take (spanL partK l + 1)).length : Nat)) r
            rw [hl1, ← List.map_drop, List.drop_succ_cons]; exact h2

end Go.Proofs.YtodhdbikbdlcaaaGreatDoor
