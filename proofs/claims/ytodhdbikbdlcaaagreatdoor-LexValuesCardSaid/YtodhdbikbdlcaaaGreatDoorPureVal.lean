/-
  A right value's text is one token, whose value it is: plain words, no program in sight.
-/
import Derived.Test.YtodhdbikbdlcaaaGreatDoorPureDig
import Derived.Test.YtodhdbikbdlcaaaGreatDoorPureLex3
import Derived.Test.YtodhdbikbdlcaaaGreatDoorVHex
namespace Go.Proofs.YtodhdbikbdlcaaaGreatDoor
set_option linter.unusedSimpArgs false
set_option linter.unusedVariables false

theorem vof_dig {c : UInt8} (h : isDig c) : ofB c = 3 := by
  unfold isDig at h
  unfold ofB
  rw [if_neg (by omega), if_pos h]
theorem vspan_dig : ∀ l : List UInt8, (∀ c ∈ l, isDig c) → spanL figK l = l.length
  | [], _ => rfl
  | c :: l, h => by
    show (if figK (ofB c) = true then spanL figK l + 1 else 0) = l.length + 1
    rw [vof_dig (h c (by simp)), if_pos (show figK 3 = true from rfl), vspan_dig l (fun x hx => h x (by simp [hx]))]
theorem vspan_point : ∀ (a b : List UInt8), (∀ c ∈ a, isDig c) → spanL figK (a ++ 46 :: b) = a.length
  | [], b, _ => rfl
  | c :: l, b, h => by
    show (if figK (ofB c) = true then spanL figK (l ++ 46 :: b) + 1 else 0) = l.length + 1
    rw [vof_dig (h c (by simp)), if_pos (show figK 3 = true from rfl), vspan_point l b (fun x hx => h x (by simp [hx]))]

/-- What a value's text is as a token. -/
def valTok (tk : Int) (l : List UInt8) (k n : Int) (vs : List UInt8) : Tok := ⟨tk, l, k, n, vs, 0⟩

theorem vnext_dig {c : UInt8} {l : List UInt8} (h : isDig c) : nextT (c :: l) = numberT (c :: l) := by
  unfold nextT
  simp only [List.headD_cons, vof_dig h]
  rfl

theorem vnext_int (n : Int) (h0 : 0 ≤ n) (h1 : n ≤ 9223372036854775807) : nextT (Lib.itoa n) = valTok 2 (Lib.itoa n) 2 n [] ∧ ofB ((Lib.itoa n).headD 0) ≠ 1 ∧ Lib.itoa n ≠ [] := by
  obtain ⟨u, ⟨_, hu, he⟩ | ⟨hn, _, _⟩⟩ := itoa_form n
  · have hd := decDigits_dig u
    have hne := decDigits_ne u
    have hp := parse_pos hd hne (decDigits_val u) (by omega)
    rw [he]
    generalize Lib.decDigits u = l at hd hne hp ⊢
    cases l with
    | nil => exact absurd rfl hne
    | cons c r =>
      have hc := hd c (by simp)
      refine ⟨?_, by rw [List.headD_cons, vof_dig hc]; decide, hne⟩
      rw [vnext_dig hc]
      unfold numberT
      simp only [vspan_dig _ hd, List.drop_length, List.take_length]
      rw [if_neg (by simp)]
      unfold tailT
      rw [if_neg (by simp [spanL]), hp, ← hu]
      rfl
  · omega

theorem vnext_dec (n : Int) (h0 : 0 ≤ n) (h1 : n ≤ 9223372036854775807) : nextT (decL n) = valTok 2 (decL n) 3 n [] ∧ ofB ((decL n).headD 0) ≠ 1 ∧ decL n ≠ [] := by
  obtain ⟨u, ⟨_, hu, he⟩ | ⟨hn, _, _⟩⟩ := itoa_form n
  · have hd := decDigits_dig u
    have hne := decDigits_ne u
    have hv := decDigits_val u
    generalize Lib.decDigits u = d at hd hne hv he
    obtain ⟨p, hp⟩ : ∃ p, p = if d.length < 5 then List.replicate (5 - d.length) 48 ++ d else d := ⟨_, rfl⟩
    have hp5 : 5 ≤ p.length := by
      rw [hp]; split
      · rw [List.length_append, List.length_replicate]; omega
      · omega
    have hpd : ∀ c ∈ p, isDig c := by
      rw [hp]; split
      · intro c hc
        rcases List.mem_append.1 hc with h | h
        · rw [(List.mem_replicate.1 h).2]; unfold isDig; decide
        · exact hd c h
      · exact hd
    have hpv : dval 0 p = u := by
      rw [hp]; split
      · rw [dval_zeros, hv]
      · exact hv
    have hpn : p ≠ [] := by intro h; rw [h] at hp5; simp at hp5
    have hpre : Lib.hasPrefix (Lib.itoa n) [45] = false := by
      rw [he]
      cases d with
      | nil => exact absurd rfl hne
      | cons c r =>
        have := hd c (by simp)
        have h45 : (45 : UInt8) ≠ c := by rintro rfl; revert this; unfold isDig; decide
        simp [Lib.hasPrefix, List.isPrefixOf, h45]
    have hdl : decL n = p.take (p.length - 4) ++ 46 :: p.drop (p.length - 4) := by
      unfold decL decBody Lib.trimPrefix
      rw [hpre]
      simp only [Bool.false_eq_true, if_false]
      rw [he, ← hp]
      simp
    have hpos := parse_pos hpd hpn hpv (by omega)
    rw [hdl]
    obtain ⟨a, ha⟩ : ∃ a, p.take (p.length - 4) = a := ⟨_, rfl⟩
    obtain ⟨b, hb⟩ : ∃ b, p.drop (p.length - 4) = b := ⟨_, rfl⟩
    have hab : p = a ++ b := by rw [← ha, ← hb, List.take_append_drop]
    have hal : 1 ≤ a.length := by rw [← ha, List.length_take]; omega
    have hbl : b.length = 4 := by rw [← hb, List.length_drop]; omega
    rw [ha, hb]
    rw [hab] at hpd hpos
    have had : ∀ c ∈ a, isDig c := fun c hc => hpd c (List.mem_append_left _ hc)
    have hbd : ∀ c ∈ b, isDig c := fun c hc => hpd c (List.mem_append_right _ hc)
    have hsp := vspan_point a b had
    cases a with
    | nil => simp at hal
    | cons c r =>
      have hc := had c (by simp)
      refine ⟨?_, by rw [List.cons_append, List.headD_cons, vof_dig hc]; decide, by simp⟩
      rw [List.cons_append, vnext_dig hc, ← List.cons_append]
      have hdr : ((c :: r) ++ 46 :: b).drop (c :: r).length = 46 :: b := by simp
      have htk : ((c :: r) ++ 46 :: b).take (c :: r).length = c :: r := by simp
      have hdr1 : ((c :: r) ++ 46 :: b).drop ((c :: r).length + 1) = b := by
        rw [List.drop_append, List.drop_eq_nil_of_le (by omega)]; simp
      have hlen : ((c :: r) ++ 46 :: b).length = (c :: r).length + 5 := by simp only [List.length_append, List.length_cons, hbl]
      unfold numberT
      simp only [hsp]
      rw [if_pos (by rw [hdr]; rfl)]
      unfold decT
      simp only [hdr1, vspan_dig b hbd, hbl, htk]
      rw [if_neg (by decide), show b.take 4 = b from List.take_of_length_le (by omega), List.take_of_length_le (by omega), List.drop_eq_nil_of_le (by omega)]
      simp only [Nat.sub_self, List.replicate_zero, List.append_nil]
      unfold tailT
      rw [if_neg (by simp [spanL]), hpos, ← hu]
      rfl
  · omega

theorem vquoted_quote : ∀ s : List UInt8, quotedL (quoteL s ++ [39]) = some (s, (quoteL s).length + 1)
  | [] => rfl
  | c :: r => by
    unfold quoteL
    by_cases hc : c = 39
    · subst hc
      rw [if_pos rfl]
      simp only [List.cons_append, quotedL, if_true]
      rw [vquoted_quote r]
      simp
    · rw [if_neg hc]
      cases hq : quoteL r ++ [39] with
      | nil => simp at hq
      | cons d t =>
        simp only [List.cons_append, hq, quotedL]
        rw [if_neg hc, ← hq, vquoted_quote r]
        simp
theorem vquoted_plain : ∀ s : List UInt8, (∀ c ∈ s, c ≠ 39) → quotedL (s ++ [39]) = some (s, s.length + 1)
  | [], _ => rfl
  | c :: r, h => by
    have hc := h c (by simp)
    cases hq : r ++ [39] with
    | nil => simp at hq
    | cons d t =>
      simp only [List.cons_append, hq, quotedL]
      rw [if_neg hc, ← hq, vquoted_plain r (fun x hx => h x (by simp [hx]))]
      simp
theorem vfig_plain : ∀ i : Fin 16, fig i.val ≠ 39 ∧ hexN (fig i.val) = (i.val : Int) := by decide +kernel
theorem vhex_plain : ∀ s : List UInt8, ∀ c ∈ hexL s, c ≠ 39
  | [], c, h => by simp [hexL] at h
  | x :: r, c, h => by
    have hx := x.toNat_lt
    rw [show hexL (x :: r) = fig (x.toNat / 16) :: fig (x.toNat % 16) :: hexL r from rfl] at h
    rcases List.mem_cons.1 h with rfl | h
    · exact (vfig_plain ⟨x.toNat / 16, by omega⟩).1
    · rcases List.mem_cons.1 h with rfl | h
      · exact (vfig_plain ⟨x.toNat % 16, by omega⟩).1
      · exact vhex_plain r c h
theorem vraw_hex : ∀ s : List UInt8, rawL (hexL s) = some s
  | [] => rfl
  | x :: r => by
    have hx := x.toNat_lt
    have h1 := (vfig_plain ⟨x.toNat / 16, by omega⟩).2
    have h2 := (vfig_plain ⟨x.toNat % 16, by omega⟩).2
    simp only at h1 h2
    rw [show hexL (x :: r) = fig (x.toNat / 16) :: fig (x.toNat % 16) :: hexL r from rfl, rawL, h1, h2, if_neg (by omega), vraw_hex r]
    have : pairB ((x.toNat / 16 : Nat) : Int) ((x.toNat % 16 : Nat) : Int) = x := by
      unfold pairB
      rw [show ((((x.toNat / 16 : Nat) : Int) * 16 + ((x.toNat % 16 : Nat) : Int)) % 256).toNat = x.toNat by omega]
      simp
    show some (pairB ((x.toNat / 16 : Nat) : Int) ((x.toNat % 16 : Nat) : Int) :: r) = some (x :: r)
    rw [this]

theorem vnext_text (s : List UInt8) (hs : s.length ≤ 200) : nextT ([39] ++ Lib.replaceAll s [39] [39, 39] ++ [39]) = valTok 3 ([39] ++ Lib.replaceAll s [39] [39, 39] ++ [39]) 4 0 s := by
  rw [replaceAll_quote]
  have hq := vquoted_quote s
  rw [show [39] ++ quoteL s ++ [39] = 39 :: (quoteL s ++ [39]) from rfl]
  unfold nextT
  simp only [List.headD_cons]
  rw [if_neg (by decide), if_neg (by decide), if_pos trivial]
  unfold textT
  rw [List.drop_one, List.tail_cons, hq]
  simp only
  rw [if_neg (by omega), List.take_of_length_le (by simp)]
  rfl
theorem vnext_bytes (s : List UInt8) (hs : s.length ≤ 200) : nextT ([120, 39] ++ hexL s ++ [39]) = valTok 4 ([120, 39] ++ hexL s ++ [39]) 5 0 s := by
  have hq := vquoted_plain (hexL s) (vhex_plain s)
  rw [show [120, 39] ++ hexL s ++ [39] = 120 :: 39 :: (hexL s ++ [39]) from rfl]
  rw [show nextT (120 :: 39 :: (hexL s ++ [39])) = rawT (120 :: 39 :: (hexL s ++ [39])) from rfl]
  unfold rawT
  rw [show List.drop 2 ((120 : UInt8) :: 39 :: (hexL s ++ [39])) = hexL s ++ [39] from rfl, hq]
  simp only
  rw [if_neg (by rw [hexL_length]; omega), vraw_hex]
  simp only
  rw [List.take_of_length_le (by simp)]
  rfl

theorem decL_length (n : Int) (h0 : -9223372036854775808 ≤ n) (h1 : n ≤ 9223372036854775807) : (decL n).length ≤ 23 := by
  have hi := (itoa_length n h0 h1).2
  have ht := trim_length (Lib.itoa n) [45]
  unfold decL
  generalize Lib.trimPrefix (Lib.itoa n) [45] = d at ht ⊢
  have hb : (decBody d).length ≤ 22 := by
    unfold decBody
    simp only
    rw [List.length_append, List.length_append, List.length_take, List.length_drop]
    split
    · rw [List.length_append, List.length_replicate]; simp only [List.length_cons, List.length_nil]; omega
    · simp only [List.length_cons, List.length_nil]; omega
  rw [List.length_append]
  split
  · simp only [List.length_cons, List.length_nil]; omega
  · simp only [List.length_nil]; omega
theorem val_next {k n : Int} {s : ByteArray} (hr : rightB k n s = true) (hk : 2 ≤ k) (h0 : 0 ≤ n) (h1 : n ≤ 9223372036854775807) :
    ∃ tk, nextT (textL k n s) = valTok tk (textL k n s) k n s.data.toList ∧ ofB ((textL k n s).headD 0) ≠ 1 ∧ textL k n s ≠ [] ∧ (textL k n s).length ≤ 403 := by
  have hs := right_size hr
  rw [Lib.size_eq] at hs
  rcases right_kind hr with rfl | rfl | rfl | rfl | rfl | rfl
  · omega
  · omega
  · have e : textL 2 n s = Lib.itoa n := by unfold textL; rw [hr]; rfl
    have hse : s.data.toList = [] := by
      unfold rightB at hr
      rw [if_neg (by omega), if_neg (by omega), if_pos (by omega)] at hr
      have h1 : s = ⟨#[]⟩ := ba_ext.1 (by simpa using hr)
      subst h1; rfl
    rw [e, hse]
    obtain ⟨a, b, c⟩ := vnext_int n h0 h1
    exact ⟨2, a, b, c, Nat.le_trans (itoa_length n (by omega) h1).2 (by decide)⟩
  · have e : textL 3 n s = decL n := by unfold textL; rw [hr]; rfl
    have hse : s.data.toList = [] := by
      unfold rightB at hr
      rw [if_neg (by omega), if_neg (by omega), if_pos (by omega)] at hr
      have h1 : s = ⟨#[]⟩ := ba_ext.1 (by simpa using hr)
      subst h1; rfl
    rw [e, hse]
    obtain ⟨a, b, c⟩ := vnext_dec n h0 h1
    exact ⟨2, a, b, c, Nat.le_trans (decL_length n (by omega) h1) (by decide)⟩
  · have e : textL 4 n s = [39] ++ Lib.replaceAll s.data.toList [39] [39, 39] ++ [39] := by unfold textL; rw [hr]; rfl
    have hn : n = 0 := by
      unfold rightB at hr
      rw [if_neg (by omega), if_neg (by omega), if_neg (by omega), if_pos (by omega)] at hr
      simp only [Bool.and_eq_true, beq_iff_eq] at hr
      exact hr.1
    rw [e, hn]
    refine ⟨3, vnext_text _ hs, by show ofB 39 ≠ 1; decide, by simp, ?_⟩
    have := quoteL_length s.data.toList
    rw [replaceAll_quote]
    simp only [List.length_append, List.length_cons, List.length_nil]; omega
  · have e : textL 5 n s = [120, 39] ++ hexL s.data.toList ++ [39] := by unfold textL; rw [hr]; rfl
    have hn : n = 0 := by
      unfold rightB at hr
      rw [if_neg (by omega), if_neg (by omega), if_neg (by omega), if_pos (by omega)] at hr
      simp only [Bool.and_eq_true, beq_iff_eq] at hr
      exact hr.1
    rw [e, hn]
    refine ⟨4, vnext_bytes _ hs, by show ofB 120 ≠ 1; decide, by simp, ?_⟩
    simp only [List.length_append, List.length_cons, List.length_nil, hexL_length]; omega

/-! ### The tokens of a value's text, and with more behind it. -/
theorem lexA_ge : ∀ (f : Nat) (s : List UInt8) (q p : Int), lexF f s q = .bad p → q ≤ p
  | 0, _, _, _, h => by cases h
  | _ + 1, [], _, _, h => by cases h
  | f + 1, c :: l, q, p, h => by
    unfold lexF at h
    split at h
    · have := lexA_ge f _ _ _ h; omega
    · split at h
      · cases h; exact Int.le_refl _
      · cases hx : lexF f ((c :: l).drop (nextT (c :: l)).t.length) (q + (nextT (c :: l)).t.length) with
        | ok m => rw [hx] at h; cases h
        | bad p' =>
          rw [hx] at h
          obtain rfl : p' = p := by cases h; rfl
          have := lexA_ge f _ _ _ hx; omega
theorem lexF_ne : ∀ (f : Nat) (s : List UInt8) (q : Int) (m : List Tok), lexF f s q = .ok m → m ≠ []
  | 0, _, _, _, h => by cases h; simp
  | _ + 1, [], _, _, h => by cases h; simp
  | f + 1, c :: l, q, m, h => by
    unfold lexF at h
    split at h
    · exact lexF_ne f _ _ _ h
    · split at h
      · cases h
      · cases hx : lexF f ((c :: l).drop (nextT (c :: l)).t.length) (q + (nextT (c :: l)).t.length) with
        | ok m' => rw [hx] at h; cases h; simp
        | bad p' => rw [hx] at h; cases h

theorem val_lex {l : List UInt8} {tk k n : Int} {vs : List UInt8} (h : nextT l = valTok tk l k n vs) (hb : ofB (l.headD 0) ≠ 1) (hne : l ≠ []) (hl : l.length ≤ 1000) :
    lexL l = .ok [valTok tk l k n vs, Tok.fin l.length] := by
  unfold lexL
  rw [if_neg (by omega)]
  cases l with
  | nil => exact absurd rfl hne
  | cons c r =>
    have hb' : ¬ ofB c = 1 := hb
    rw [lexA_tok 0 hb' (by rw [h]; exact hne), h]
    rw [show (valTok tk (c :: r) k n vs).t = c :: r from rfl, List.drop_length, lexA_nil, Int.zero_add]
    rfl
/-- With a blank and more behind: too long, or a bad place behind, or the value first. -/
theorem val_more {l m : List UInt8} {tk k n : Int} {vs : List UInt8} (h : nextT l = valTok tk l k n vs) (hb : ofB (l.headD 0) ≠ 1) (hne : l ≠ []) :
    (lexL (l ++ 32 :: m) = .bad 0 ∧ 1000 < l.length + 1 + m.length) ∨ (∃ p : Int, lexL (l ++ 32 :: m) = .bad p ∧ (l.length : Int) < p) ∨ (∃ x, lexL (l ++ 32 :: m) = .ok (valTok tk l k n vs :: x) ∧ x ≠ []) := by
  unfold lexL
  by_cases hlen : 1000 < (l ++ 32 :: m).length
  · rw [if_pos hlen]
    refine .inl ⟨rfl, ?_⟩
    simp only [List.length_append, List.length_cons] at hlen
    omega
  · rw [if_neg hlen]
    clear hlen
    have hx : lexA (l ++ 32 :: m) 0 = LexR.cons (valTok tk l k n vs) (lexA m (l.length + 1)) := by
      have happ := nextT_app m (s := l) (by rw [h]; exact hne)
      cases l with
      | nil => exact absurd rfl hne
      | cons c r =>
        rw [List.cons_append] at happ ⊢
        have hb' : ¬ ofB c = 1 := hb
        rw [lexA_tok 0 hb' (by rw [happ, h]; exact hne), happ, h]
        rw [show (valTok tk (c :: r) k n vs).t = c :: r from rfl, ← List.cons_append, List.drop_append, List.drop_length, Nat.sub_self, Int.zero_add]
        rw [List.nil_append, List.drop_zero, lexA_blank _ (by decide)]
        rfl
    rw [hx]
    cases hm : lexA m (l.length + 1) with
    | ok x => exact .inr (.inr ⟨x, rfl, lexF_ne _ _ _ _ hm⟩)
    | bad p =>
      have := lexA_ge _ _ _ _ hm
      exact .inr (.inl ⟨p, rfl, by omega⟩)

end Go.Proofs.YtodhdbikbdlcaaaGreatDoor
