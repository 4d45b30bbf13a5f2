/-
  A statement's text as tokens: plain words, no program in sight.
-/
import Derived.Test.YtodhdbikbdlcaaaGreatDoorLibC
namespace Go.Proofs.YtodhdbikbdlcaaaGreatDoor
set_option linter.unusedSimpArgs false
set_option linter.unusedVariables false

/-- A byte's kind: 2 a letter, 3 a figure, 1 a blank, 4 an underline, 0 another one. -/
def ofB (c : UInt8) : Nat :=
  if (97 ≤ c.toNat ∧ c.toNat ≤ 122) ∨ (65 ≤ c.toNat ∧ c.toNat ≤ 90) then 2
  else if 48 ≤ c.toNat ∧ c.toNat ≤ 57 then 3
  else if c.toNat = 32 ∨ c.toNat = 9 ∨ c.toNat = 10 ∨ c.toNat = 13 then 1
  else if c.toNat = 95 then 4 else 0
def figK (k : Nat) : Bool := k == 3
def partK (k : Nat) : Bool := decide (2 ≤ k)
def spanL (p : Nat → Bool) : List UInt8 → Nat
  | [] => 0
  | c :: l => if p (ofB c) = true then spanL p l + 1 else 0
def lowB (c : UInt8) : UInt8 := if 65 ≤ c.toNat ∧ c.toNat ≤ 90 then c + 32 else c

/-- A token: its kind, its text, its value's kind, number and text, its place. -/
structure Tok where
  k : Int
  t : List UInt8
  vk : Int
  vn : Int
  vs : List UInt8
  at_ : Int
deriving DecidableEq
def Tok.no : Tok := ⟨0, [], 0, 0, [], 0⟩
def Tok.fin (p : Int) : Tok := ⟨6, [], 0, 0, [], p⟩

/-- The end of a number: what stands behind it, and whether it fits. -/
def tailT (txt fs rest : List UInt8) (kind : Int) : Tok :=
  if rest.head? = some 46 ∨ 0 < spanL partK rest then Tok.no
  else match parseR fs with
    | some v => ⟨2, txt, kind, v, [], 0⟩
    | none => Tok.no
def decT (s : List UInt8) (n : Nat) : Tok :=
  let k := spanL figK (s.drop (n + 1))
  if k = 0 ∨ 4 < k then Tok.no
  else tailT (s.take (n + 1 + k)) (s.take n ++ ((s.drop (n + 1)).take k ++ List.replicate (4 - k) 48)) (s.drop (n + 1 + k)) 3
def numberT (s : List UInt8) : Tok :=
  let n := spanL figK s
  if (s.drop n).head? = some 46 then decT s n
  else tailT (s.take n) (s.take n) (s.drop n) 2

/-- What stands behind an opening quote, up to the closing one, and how many bytes that is with the closing one. -/
def quotedL : List UInt8 → Option (List UInt8 × Nat)
  | [] => none
  | [c] => if c = 39 then some ([], 1) else none
  | c :: d :: r =>
    if c = 39 then
      if d = 39 then (quotedL r).map fun x => (39 :: x.1, x.2 + 2) else some ([], 1)
    else (quotedL (d :: r)).map fun x => (c :: x.1, x.2 + 1)
def textT (s : List UInt8) : Tok := match quotedL (s.drop 1) with
  | none => Tok.no
  | some (o, n) => if 200 < o.length then Tok.no else ⟨3, s.take (n + 1), 4, 0, o, 0⟩

def hexN (c : UInt8) : Int := Lib.indexByte [48, 49, 50, 51, 52, 53, 54, 55, 56, 57, 97, 98, 99, 100, 101, 102] (if 65 ≤ c.toNat ∧ c.toNat ≤ 70 then c + 32 else c)
def pairB (a b : Int) : UInt8 := UInt8.ofNat ((a * 16 + b) % 256).toNat
def rawL : List UInt8 → Option (List UInt8)
  | [] => some []
  | [_] => none
  | a :: b :: r => if hexN a < 0 ∨ hexN b < 0 then none else (rawL r).map fun l => pairB (hexN a) (hexN b) :: l
def rawT (s : List UInt8) : Tok := match quotedL (s.drop 2) with
  | none => Tok.no
  | some (o, n) => if o.length % 2 = 1 ∨ 400 < o.length then Tok.no else match rawL o with
    | none => Tok.no
    | some b => ⟨4, s.take (n + 2), 5, 0, b, 0⟩

def signL : List UInt8 := [40, 41, 44, 42, 43, 45, 47, 61, 60, 62, 46, 59]
def signT (s : List UInt8) : Tok :=
  if s.take 2 = [60, 61] ∨ s.take 2 = [62, 61] ∨ s.take 2 = [60, 62] then ⟨5, s.take 2, 0, 0, [], 0⟩
  else if (s.headD 0) ∈ signL then ⟨5, s.take 1, 0, 0, [], 0⟩
  else Tok.no

def rawLike (s : List UInt8) : Bool := (s.headD 0 == 120 || s.headD 0 == 88) && s[1]? == some 39
/-- The token that a text begins with; no text: none. -/
def nextT (s : List UInt8) : Tok :=
  if ofB (s.headD 0) = 2 then
    if rawLike s = true then rawT s else ⟨1, (s.take (spanL partK s)).map lowB, 0, 0, [], 0⟩
  else if ofB (s.headD 0) = 3 then numberT s
  else if s.headD 0 = 39 then textT s
  else signT s

/-- Tokens, or the place of what is none. -/
inductive LexR where
  | ok (l : List Tok)
  | bad (p : Int)
deriving DecidableEq
def LexR.cons (t : Tok) : LexR → LexR
  | .ok l => .ok (t :: l)
  | .bad p => .bad p
def LexR.app (a : List Tok) : LexR → LexR
  | .ok l => .ok (a ++ l)
  | .bad p => .bad p

def Tok.at (t : Tok) (p : Int) : Tok := { t with at_ := p }
def lexF : Nat → List UInt8 → Int → LexR
  | 0, _, p => .ok [Tok.fin p]
  | _ + 1, [], p => .ok [Tok.fin p]
  | f + 1, c :: l, p =>
    if ofB c = 1 then lexF f l (p + 1)
    else if (nextT (c :: l)).t = [] then .bad p
    else LexR.cons ((nextT (c :: l)).at p) (lexF f ((c :: l).drop (nextT (c :: l)).t.length) (p + (nextT (c :: l)).t.length))
def lexA (s : List UInt8) (p : Int) : LexR := lexF (s.length + 1) s p
def lexL (s : List UInt8) : LexR := if 1000 < s.length then .bad 0 else lexA s 0

theorem lexF_fuel : ∀ (f g : Nat) (s : List UInt8) (p : Int), s.length < f → s.length < g → lexF f s p = lexF g s p
  | 0, _, _, _, h, _ => absurd h (by omega)
  | _ + 1, 0, _, _, _, h => absurd h (by omega)
  | f + 1, g + 1, [], p, _, _ => rfl
  | f + 1, g + 1, c :: l, p, hf, hg => by
    simp only [List.length_cons] at hf hg
    simp only [lexF]
    split
    · exact lexF_fuel f g l _ (by omega) (by omega)
    · split
      · rfl
      · rename_i h
        have : 0 < (nextT (c :: l)).t.length := List.length_pos_iff.2 h
        rw [lexF_fuel f g _ _ (by simp only [List.length_drop, List.length_cons]; omega) (by simp only [List.length_drop, List.length_cons]; omega)]
theorem lexA_nil (p : Int) : lexA [] p = .ok [Tok.fin p] := rfl
theorem lexA_blank {c : UInt8} {l : List UInt8} (p : Int) (h : ofB c = 1) : lexA (c :: l) p = lexA l (p + 1) := by
  unfold lexA
  simp only [List.length_cons, lexF]
  rw [if_pos h]
theorem lexA_bad {c : UInt8} {l : List UInt8} (p : Int) (h : ¬ ofB c = 1) (ht : (nextT (c :: l)).t = []) : lexA (c :: l) p = .bad p := by
  unfold lexA
  simp only [List.length_cons, lexF]
  rw [if_neg h, if_pos ht]
theorem lexA_tok {c : UInt8} {l : List UInt8} (p : Int) (h : ¬ ofB c = 1) (ht : (nextT (c :: l)).t ≠ []) :
    lexA (c :: l) p = LexR.cons ((nextT (c :: l)).at p) (lexA ((c :: l).drop (nextT (c :: l)).t.length) (p + (nextT (c :: l)).t.length)) := by
  have hp : 0 < (nextT (c :: l)).t.length := List.length_pos_iff.2 ht
  unfold lexA
  simp only [List.length_cons, lexF]
  rw [if_neg h, if_neg ht, lexF_fuel _ (((c :: l).drop (nextT (c :: l)).t.length).length + 1) _ _ (by simp only [List.length_drop, List.length_cons]; omega) (by omega)]
theorem app_cons (a : List Tok) (t : Tok) (r : LexR) : LexR.app a (LexR.cons t r) = LexR.app (a ++ [t]) r := by
  cases r <;> simp [LexR.app, LexR.cons]
theorem app_nil (r : LexR) : LexR.app [] r = r := by cases r <;> rfl

theorem spanL_le (p : Nat → Bool) : ∀ l, spanL p l ≤ l.length
  | [] => Nat.le_refl _
  | c :: l => by
    have := spanL_le p l
    unfold spanL; split <;> simp only [List.length_cons] <;> omega
theorem spanL_app (p : Nat → Bool) (h1 : p 1 = false) (r : List UInt8) : ∀ l, spanL p (l ++ 32 :: r) = spanL p l
  | [] => by
    show (if p (ofB 32) = true then _ else 0) = 0
    rw [show ofB 32 = 1 from rfl, h1]; rfl
  | c :: l => by
    show (if p (ofB c) = true then spanL p (l ++ 32 :: r) + 1 else 0) = (if p (ofB c) = true then spanL p l + 1 else 0)
    rw [spanL_app p h1 r l]
theorem spanL_take (p : Nat → Bool) : ∀ (l : List UInt8) (m : Nat), spanL p (l.take m) = min m (spanL p l)
  | [], m => by simp [spanL]
  | c :: l, 0 => by simp [spanL]
  | c :: l, m + 1 => by
    rw [List.take_succ_cons]
    show (if p (ofB c) = true then spanL p (l.take m) + 1 else 0) = min (m + 1) (if p (ofB c) = true then spanL p l + 1 else 0)
    rw [spanL_take p l m]
    split <;> omega
theorem fig1 : figK 1 = false := rfl
theorem part1 : partK 1 = false := rfl

/-! ### With a blank and more behind it a token stays what it is. -/
theorem head46_app (l r : List UInt8) : ((l ++ 32 :: r).head? = some 46) = (l.head? = some 46) := by
  cases l with
  | nil => simp
  | cons a b => rfl
theorem tailT_app {txt fs rest r : List UInt8} {kind : Int} : tailT txt fs (rest ++ 32 :: r) kind = tailT txt fs rest kind := by
  unfold tailT
  rw [spanL_app _ part1]
  simp only [head46_app]
theorem take_app {s r : List UInt8} {n : Nat} (h : n ≤ s.length) : (s ++ r).take n = s.take n := by rw [List.take_append, Nat.sub_eq_zero_of_le h]; simp
theorem drop_app {s r : List UInt8} {n : Nat} (h : n ≤ s.length) : (s ++ r).drop n = s.drop n ++ r := by rw [List.drop_append, Nat.sub_eq_zero_of_le h]; simp
theorem head46_len {s : List UInt8} {n : Nat} (h : (s.drop n).head? = some 46) : n + 1 ≤ s.length := by
  rcases Nat.lt_or_ge n s.length with h' | h'
  · omega
  · rw [List.drop_eq_nil_of_le h'] at h; cases h
theorem numberT_app {s r : List UInt8} : numberT (s ++ 32 :: r) = numberT s := by
  have hn := spanL_le figK s
  unfold numberT
  simp only [spanL_app _ fig1]
  rw [drop_app hn, take_app hn]
  simp only [head46_app]
  by_cases h : (s.drop (spanL figK s)).head? = some 46
  · rw [if_pos h, if_pos h]
    have h1 := head46_len h
    unfold decT
    have hk := spanL_le figK (s.drop (spanL figK s + 1))
    rw [List.length_drop] at hk
    simp only [drop_app h1, spanL_app _ fig1]
    split
    · rfl
    · rw [take_app (by omega), take_app hn, take_app (by rw [List.length_drop]; omega), drop_app (by omega), tailT_app]
  · rw [if_neg h, if_neg h, tailT_app]

theorem quotedL_app (r : List UInt8) : ∀ (l o : List UInt8) (n : Nat), quotedL l = some (o, n) → quotedL (l ++ 32 :: r) = some (o, n)
  | [], o, n, h => by simp [quotedL] at h
  | [c], o, n, h => by
    simp only [quotedL] at h
    split at h
    · rename_i hc; subst hc; simpa [quotedL] using h
    · cases h
  | c :: d :: l, o, n, h => by
    simp only [quotedL] at h
    simp only [List.cons_append, quotedL]
    split at h
    · rename_i hc
      rw [if_pos hc]
      split at h
      · rename_i hd
        rw [if_pos hd]
        obtain ⟨x, hx, he⟩ := Option.map_eq_some_iff.1 h
        rw [quotedL_app r l x.1 x.2 hx]
        exact congrArg some he
      · rename_i hd
        rw [if_neg hd]; exact h
    · rename_i hc
      rw [if_neg hc]
      obtain ⟨x, hx, he⟩ := Option.map_eq_some_iff.1 h
      have := quotedL_app r (d :: l) x.1 x.2 hx
      rw [List.cons_append] at this
      rw [this]
      exact congrArg some he
theorem quotedL_take : ∀ (l o : List UInt8) (n : Nat), quotedL l = some (o, n) → n ≤ l.length ∧ 1 ≤ n ∧ o.length < n ∧ quotedL (l.take n) = some (o, n)
  | [], o, n, h => by simp [quotedL] at h
  | [c], o, n, h => by
    simp only [quotedL] at h
    split at h
    · rename_i hc
      obtain ⟨rfl, rfl⟩ : [] = o ∧ 1 = n := by simpa using h
      subst hc; simp [quotedL]
    · cases h
  | c :: d :: l, o, n, h => by
    simp only [quotedL] at h
    split at h
    · rename_i hc
      split at h
      · rename_i hd
        obtain ⟨x, hx, he⟩ := Option.map_eq_some_iff.1 h
        obtain ⟨rfl, rfl⟩ : 39 :: x.1 = o ∧ x.2 + 2 = n := by simpa using he
        obtain ⟨h1, h2, h3, h4⟩ := quotedL_take l x.1 x.2 hx
        refine ⟨by simp; omega, by omega, by simp; omega, ?_⟩
        rw [List.take_succ_cons, List.take_succ_cons]
        simp only [quotedL]
        rw [if_pos hc, if_pos hd, h4]; rfl
      · rename_i hd
        obtain ⟨rfl, rfl⟩ : [] = o ∧ 1 = n := by simpa using h
        refine ⟨by simp, by omega, by simp, ?_⟩
        simp [quotedL, hc]
    · rename_i hc
      obtain ⟨x, hx, he⟩ := Option.map_eq_some_iff.1 h
      obtain ⟨rfl, rfl⟩ : c :: x.1 = o ∧ x.2 + 1 = n := by simpa using he
      obtain ⟨h1, h2, h3, h4⟩ := quotedL_take (d :: l) x.1 x.2 hx
      refine ⟨by simp only [List.length_cons] at h1 ⊢; omega, by omega, by simp; omega, ?_⟩
      obtain ⟨m, hm⟩ : ∃ m, x.2 = m + 1 := ⟨x.2 - 1, by omega⟩
      rw [hm] at h4 ⊢
      rw [List.take_succ_cons] at h4
      rw [List.take_succ_cons, List.take_succ_cons]
      simp only [quotedL]
      rw [if_neg hc, h4]
      simp [hm]

end Go.Proofs.YtodhdbikbdlcaaaGreatDoor
