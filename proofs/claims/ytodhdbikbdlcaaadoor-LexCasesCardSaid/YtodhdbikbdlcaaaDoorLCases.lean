/-
  LexCases answers true.
-/
import Derived.Test.YtodhdbikbdlcaaaDoorLJoined
import Derived.Maps.AppendAt
namespace Go.Proofs.YtodhdbikbdlcaaaDoor
set_option linter.unusedSimpArgs false
set_option linter.unusedVariables false
open Go.RowKit

def Apart (v v2 : Value) : Prop := ∀ k, v.ownBlock = some k → v2.ownBlock ≠ some k
theorem Apart.symm {v v2 : Value} (h : Apart v v2) : Apart v2 v := fun k hk e => h k e hk
/-- append(b, some new bytes..), beside another slice of the call's own. -/
theorem wpList_append_two {w : World} {ops : Array Oper} {rest : List Oper} {o : Oper} {a : Act} {Q : Exit → Act → World → Prop} (hgd : o.guard = none) (s x : Operand)
    (ho : o.op = .call { callee := .builtin .append, args := #[s, x], argTypes := #[37, 37] }) (base : Nat) (v : Value) (l : List UInt8) (v2 : Value) (l2 : List UInt8) (hs : a.eval s = v) (hown : OwnB w base v l) (hown2 : OwnB w base v2 l2) (hap : Apart v v2)
    (ad : Addr) (m c : Nat) (news : List UInt8) (hx : a.eval x = .slice (some ad) m c) (hl : news.length = m) (hnews : ∀ j u, news[j]? = some u → w.cell? (ad.add j) = some (.int .u8 (u.toNat : Int)))
    (hlen : l.length + m ≤ 1000000) (hbase : base ≤ w.heap.size)
    (h : ∀ v' w', OwnB w' base v' (l ++ news) → OwnB w' base v2 l2 → Apart v' v2 → Below base w w' → True → wpList Tryd.prog ops Q rest (a.put o.dst v') w') : wpList Tryd.prog ops Q (o :: rest) a w := by
  obtain ⟨i0, hi, hz0, hz1, hz2⟩ := info_parts Tryd.infoB
  refine wpList_append_own_at w hgd s x 37 ho base 5 i0 (.int .u8 0) 1 1 Tryd.underlying37 hi hz0 hz1 hz2 rfl (by decide) v l.length (bytesV l) hs hown ad m c (bytesV news) hx (by simp [hl]) ?_ ?_ (by unfold maxLen; omega) (by omega) hbase ?_
  · intro j u hu
    simp only [bytesV, List.getElem?_map, Option.map_eq_some_iff] at hu
    obtain ⟨q, hq, rfl⟩ := hu
    exact hnews j q hq
  · intro u hu
    simp only [bytesV, List.mem_map] at hu
    obtain ⟨q, _, rfl⟩ := hu
    rfl
  · intro v' w' h1 h2 _ h4
    refine h v' w' ?_ (World.ownsRow.kept hown2 h2 ?_) ?_ ((Below.refl base w).grown h2 hbase (own_block hown)) trivial
    · show w'.ownsRow base 5 1 v' (l ++ news).length (bytesV (l ++ news))
      rw [List.length_append, bytesV_append, hl]; exact h1
    · cases hb : v2.ownBlock with
      | none => exact .inl rfl
      | some k => exact .inr (fun e => hap k e.symm hb)
    · intro k hk e
      rcases h4 with h4 | h4
      · exact hap k (h4 ▸ hk) e
      · have hlt := (World.ownsRow.lt hown2 k e).2
        rw [h4] at hk
        injection hk with hk
        omega
theorem take_snoc' (s : ByteArray) (k : Nat) (h : k < s.size) : s.data.toList.take (k + 1) = s.data.toList.take k ++ [s[k]] := by
  rw [List.take_succ_eq_append_getElem (by simpa using h)]; rfl

/-- The case where one more byte is read. -/
theorem casesF_cons {b : Bool} {c : UInt8} {l : List UInt8} (h : caseB c = true) : casesF b (c :: l) = if c = 32 then casesF true l else if b = true then (if c = 95 then none else (casesF false l).map (· + 1)) else casesF false l := by
  show (if caseB c = false then none else _) = _
  rw [if_neg (by rw [h]; decide)]

set_option maxRecDepth 100000 in
theorem cases_long (s : ByteArray) (w : World) (hl : Laid w) (h : (400 : Int) < s.size) : Calls Tryd.prog 6 #[.string s] w fun e w' => e = .returned (.bool true) ∧ Below w.heap.size w w' := by
  have HL := Lib.hid hl; clear hl
  go_enter Tryd.func6, Tryd.ntmps6
  go_wp2_with fail
  refine (alive16 _ HL.out).mono ?_
  rintro e w4 ⟨rfl, hb⟩
  have HB4 := Lib.hid hb
  clear hb
  go_wp2_with fail
  go_ret
  exact ⟨rfl, HB4.out⟩

set_option maxRecDepth 100000 in
set_option maxHeartbeats 6400000 in
theorem cases_short (s : ByteArray) (w : World) (hl : Laid w) (hs : s.size ≤ 400) : Calls Tryd.prog 6 #[.string s] w fun e w' => e = .returned (.bool true) ∧ Below w.heap.size w w' := by
  have HL := Lib.hid hl; clear hl
  have g0 : decide ((400 : Int) < s.size) = false := decide_eq_false (by omega)
  go_enter Tryd.func6, Tryd.ntmps6
  go_wp2_with fail
  go_loopw [3, 4, 5, 6] (fun v v2 y i wr => ∃ (k n : Nat) (b : Bool), i = .int .i64 k ∧ y = .int .i64 n ∧ k ≤ s.size ∧ n ≤ k ∧ Hid (OwnB wr w.heap.size v (s.data.toList.take k)) ∧ Hid (OwnB wr w.heap.size v2 ((s.data.toList.take k).map upB)) ∧ Hid (Apart v v2) ∧ Hid (b = true ↔ k = 0 ∨ s.data.toList[k - 1]? = some 32) ∧ Hid (casesF true s.data.toList = (casesF b (s.data.toList.drop k)).map (n + ·)) ∧ Hid (Below w.heap.size w wr)) (fun _ _ _ i _ => s.size - (intOf i).toNat)
  case atStart => exact ⟨0, 0, true, rfl, rfl, Nat.zero_le _, Nat.le_refl _, Lib.hid (OwnB.nil _ _), Lib.hid (OwnB.nil _ _), Lib.hid (fun k hk => by cases hk), Lib.hid (by simp), Lib.hid (by rw [List.drop_zero]; cases casesF true s.data.toList <;> simp), Lib.hid (Below.refl _ _)⟩
  case round =>
    obtain ⟨k, n, b, rfl, rfl, hk, hn, HS, HG, HAP, HBF, HC, HB⟩ := hrel
    by_cases hlt : k < s.size
    · have hd : s.data.toList.drop k = s[k] :: s.data.toList.drop (k + 1) := by
        rw [List.drop_eq_getElem_cons (by simpa using hlt)]; rfl
      have HD := Lib.hid hd; clear hd
      have hc := (s[k]).toNat_lt
      have hprev : s.data.toList[k]? = some s[k] := get_at s k hlt
      have HPV := Lib.hid hprev; clear hprev
      cases hcb : caseB s[k] with
      | false =>
        have f1 : ((s[k].toNat : Int) != 32) = true := by
          rw [bne_iff_ne]; intro e
          have : s[k] = 32 := UInt8.toNat_inj.1 (by show s[k].toNat = 32; omega)
          rw [this] at hcb; revert hcb; decide
        have f2 : ((s[k].toNat : Int) != 95) = true := by
          rw [bne_iff_ne]; intro e
          have : s[k] = 95 := UInt8.toNat_inj.1 (by show s[k].toNat = 95; omega)
          rw [this] at hcb; revert hcb; decide
        have h3 : s[k].toNat < 97 ∨ (¬ s[k].toNat < 97 ∧ 122 < s[k].toNat) := by
          unfold caseB at hcb
          rw [Bool.or_eq_false_iff, Bool.and_eq_false_iff] at hcb
          rcases hcb.2 with h | h
          · have := of_decide_eq_false h; omega
          · have := of_decide_eq_false h; omega
        clear hcb
        rcases h3 with h3 | ⟨h3, h4⟩
        · have f3 : decide ((s[k].toNat : Int) < 97) = true := decide_eq_true (by omega)
          go_wp2_with fail
          refine (alive16 _ (HL.out.later HB.out)).mono ?_
          rintro e w4 ⟨rfl, hb⟩
          have HB4 := Lib.hid (bstep HB.out hb)
          clear hb
          go_wp2_with fail
          go_ret
          exact ⟨rfl, HB4.out⟩
        · have f3 : decide ((s[k].toNat : Int) < 97) = false := decide_eq_false (by omega)
          have f4 : decide ((122 : Int) < s[k].toNat) = true := decide_eq_true (by omega)
          go_wp2_with fail
          refine (alive16 _ (HL.out.later HB.out)).mono ?_
          rintro e w4 ⟨rfl, hb⟩
          have HB4 := Lib.hid (bstep HB.out hb)
          clear hb
          go_wp2_with fail
          go_ret
          exact ⟨rfl, HB4.out⟩
      | true =>
        have HCC : Hid (casesF true s.data.toList = (if s[k] = 32 then casesF true (s.data.toList.drop (k + 1)) else if b = true then (if s[k] = 95 then none else (casesF false (s.data.toList.drop (k + 1))).map (· + 1)) else casesF false (s.data.toList.drop (k + 1))).map (n + ·)) := Lib.hid (by rw [HC.out, HD.out, casesF_cons hcb])
        by_cases h32 : s[k] = 32
        · have f1 : ((s[k].toNat : Int) != 32) = false := by rw [h32]; rfl
          have f3 : decide ((97 : Int) ≤ s[k].toNat) = false := by rw [h32]; rfl
          have HU : Hid (((upB s[k]).toNat : Int) = s[k].toNat) := Lib.hid (by rw [h32]; rfl)
          have H32 := Lib.hid h32
          clear hcb h32
          have hsz := HB.out.size
          go_wp2_with (first | (at_builtin; refine wpList_append_two rfl (.tmp 59) (.tmp 61) rfl w.heap.size u3 (s.data.toList.take k) u4 ((s.data.toList.take k).map upB) rfl (OwnB.later HS.out (b_alloc (Below.refl _ _) _)) (OwnB.later HG.out (b_alloc (Below.refl _ _) _)) HAP.out ⟨wr.heap.size, 0, none⟩ 1 1 [s[k]] rfl rfl (by intro j u hu; match j, hu with | 0, hu => (simp at hu; subst hu; exact cell_new1 _ _ _ _ rfl)) (by rw [List.length_take]; omega) (by simp; omega) ?_; intro v1 W1 hown hown2 hap hbel hkp; have HO1 := Lib.hid hown; have HP1 := Lib.hid hown2; have HA1 := Lib.hid hap; have HB1 := Lib.hid hbel; clear hown hown2 hap hbel hkp; have hz1 := HB1.out.size; simp only [World.size_alloc] at hz1) | (at_builtin; refine wpList_append_two rfl (.tmp 71) (.tmp 73) rfl w.heap.size u4 ((s.data.toList.take k).map upB) v1 (s.data.toList.take k ++ [s[k]]) rfl (OwnB.later HP1.out (b_alloc (Below.refl _ _) _)) (OwnB.later HO1.out (b_alloc (Below.refl _ _) _)) (Apart.symm HA1.out) ⟨W1.heap.size, 0, none⟩ 1 1 [upB s[k]] rfl rfl (by intro j u hu; match j, hu with | 0, hu => (simp at hu; subst hu; rw [HU.out]; exact cell_new1 _ _ _ _ rfl)) (by rw [List.length_map, List.length_take]; omega) (by simp; omega) ?_; intro v2 W2 hown hown2 hap hbel hkp; have HO2 := Lib.hid hown; have HP2 := Lib.hid hown2; have HA2 := Lib.hid hap; have HB2 := Lib.hid hbel; clear hown hown2 hap hbel hkp))
          go_roundw
          case rel =>
            refine ⟨k + 1, n, true, by go_num, rfl, by omega, by omega, ?_, ?_, ?_, ?_, ?_, ?_⟩
            · rw [take_snoc' s k hlt]; exact HP2
            · rw [take_snoc' s k hlt, List.map_append]; exact HO2
            · exact Lib.hid (Apart.symm HA2.out)
            · exact Lib.hid ⟨fun _ => .inr (by rw [Nat.add_sub_cancel, HPV.out, H32.out]), fun _ => rfl⟩
            · exact Lib.hid (by rw [HCC.out, if_pos H32.out])
            · exact Lib.hid ((b_alloc ((b_alloc HB.out _).trans HB1.out) _).trans HB2.out)
          case measure => simp [intOf]; omega
        · have f1 : ((s[k].toNat : Int) != 32) = true := by
            rw [bne_iff_ne]; intro e
            exact h32 (UInt8.toNat_inj.1 (by show s[k].toNat = 32; omega))
          by_cases h95 : s[k] = 95
          · have f2 : ((s[k].toNat : Int) != 95) = false := by rw [h95]; rfl
            have f5 : ((s[k].toNat : Int) == 95) = true := by rw [h95]; rfl
            have f3 : decide ((97 : Int) ≤ s[k].toNat) = false := by rw [h95]; rfl
            have HU : Hid (((upB s[k]).toNat : Int) = s[k].toNat) := Lib.hid (by rw [h95]; rfl)
            have H32 := Lib.hid h32
            have H95 := Lib.hid h95
            clear hcb h32 h95
            cases b with
            | true =>
              have hbt := HBF.out.1 rfl
              by_cases hkz : k = 0
              · clear hbt
                have e0 : ((k : Int) == 0) = true := beq_iff_eq.2 (by omega)
                clear hkz
                go_wp2_with fail
                refine (alive16 _ (HL.out.later HB.out)).mono ?_
                rintro e w4 ⟨rfl, hb⟩
                have HB4 := Lib.hid (bstep HB.out hb)
                clear hb
                go_wp2_with fail
                go_ret
                exact ⟨rfl, HB4.out⟩
              · have hp : s.data.toList[k - 1]? = some 32 := by rcases hbt with h | h; exact absurd h hkz; exact h
                clear hbt
                have hk1 : k - 1 < s.size := by omega
                have hk1i : (k : Int) - 1 < s.size := by omega
                have hk0 : 1 ≤ k := by omega
                have e0 : ((k : Int) == 0) = false := beq_eq_false_iff_ne.2 (by omega)
                rw [get_at s (k - 1) hk1] at hp
                have hpv : s[k - 1] = 32 := Option.some.inj hp
                have e1 : ((s[k - 1].toNat : Int) == 32) = true := by rw [hpv]; rfl
                clear hp hpv
                go_wp2_with fail
                refine (alive16 _ (HL.out.later HB.out)).mono ?_
                rintro e w4 ⟨rfl, hb⟩
                have HB4 := Lib.hid (bstep HB.out hb)
                clear hb
                go_wp2_with fail
                go_ret
                exact ⟨rfl, HB4.out⟩
            | false =>
              have hbf : ¬ (k = 0 ∨ s.data.toList[k - 1]? = some 32) := fun h => by have := HBF.out.2 h; cases this
              have hkz : ¬ k = 0 := fun h => hbf (.inl h)
              have hk1 : k - 1 < s.size := by omega
              have hk1i : (k : Int) - 1 < s.size := by omega
              have hk0 : 1 ≤ k := by omega
              have e0 : ((k : Int) == 0) = false := beq_eq_false_iff_ne.2 (by omega)
              have e1 : ((s[k - 1].toNat : Int) == 32) = false := beq_eq_false_iff_ne.2 (fun e => hbf (.inr (by rw [get_at s (k - 1) hk1]; exact congrArg some (UInt8.toNat_inj.1 (by show s[k - 1].toNat = 32; omega)))))
              clear hbf
              have hsz := HB.out.size
              go_wp2_with (first | (at_builtin; refine wpList_append_two rfl (.tmp 59) (.tmp 61) rfl w.heap.size u3 (s.data.toList.take k) u4 ((s.data.toList.take k).map upB) rfl (OwnB.later HS.out (b_alloc (Below.refl _ _) _)) (OwnB.later HG.out (b_alloc (Below.refl _ _) _)) HAP.out ⟨wr.heap.size, 0, none⟩ 1 1 [s[k]] rfl rfl (by intro j u hu; match j, hu with | 0, hu => (simp at hu; subst hu; exact cell_new1 _ _ _ _ rfl)) (by rw [List.length_take]; omega) (by simp; omega) ?_; intro v1 W1 hown hown2 hap hbel hkp; have HO1 := Lib.hid hown; have HP1 := Lib.hid hown2; have HA1 := Lib.hid hap; have HB1 := Lib.hid hbel; clear hown hown2 hap hbel hkp; have hz1 := HB1.out.size; simp only [World.size_alloc] at hz1) | (at_builtin; refine wpList_append_two rfl (.tmp 71) (.tmp 73) rfl w.heap.size u4 ((s.data.toList.take k).map upB) v1 (s.data.toList.take k ++ [s[k]]) rfl (OwnB.later HP1.out (b_alloc (Below.refl _ _) _)) (OwnB.later HO1.out (b_alloc (Below.refl _ _) _)) (Apart.symm HA1.out) ⟨W1.heap.size, 0, none⟩ 1 1 [upB s[k]] rfl rfl (by intro j u hu; match j, hu with | 0, hu => (simp at hu; subst hu; rw [HU.out]; exact cell_new1 _ _ _ _ rfl)) (by rw [List.length_map, List.length_take]; omega) (by simp; omega) ?_; intro v2 W2 hown hown2 hap hbel hkp; have HO2 := Lib.hid hown; have HP2 := Lib.hid hown2; have HA2 := Lib.hid hap; have HB2 := Lib.hid hbel; clear hown hown2 hap hbel hkp))
              go_roundw
              case rel =>
                refine ⟨k + 1, n, false, by go_num, rfl, by omega, by omega, ?_, ?_, ?_, ?_, ?_, ?_⟩
                · rw [take_snoc' s k hlt]; exact HP2
                · rw [take_snoc' s k hlt, List.map_append]; exact HO2
                · exact Lib.hid (Apart.symm HA2.out)
                · exact Lib.hid ⟨fun h => (by cases h), fun h => (by rcases h with h | h; exact absurd h (by omega); rw [Nat.add_sub_cancel, HPV.out] at h; exact absurd (Option.some.inj h) H32.out)⟩
                · exact Lib.hid (by rw [HCC.out, if_neg H32.out, if_neg (by decide)])
                · exact Lib.hid ((b_alloc ((b_alloc HB.out _).trans HB1.out) _).trans HB2.out)
              case measure => simp [intOf]; omega
          · have hlet : 97 ≤ s[k].toNat ∧ s[k].toNat ≤ 122 := by
              unfold caseB at hcb
              rw [Bool.or_eq_true, Bool.or_eq_true, Bool.and_eq_true] at hcb
              rcases hcb with (h | h) | h
              · exact absurd (beq_iff_eq.1 h) h32
              · exact absurd (beq_iff_eq.1 h) h95
              · simpa using h
            obtain ⟨hl0, hl1⟩ := hlet
            have f2 : ((s[k].toNat : Int) != 95) = true := by
              rw [bne_iff_ne]; intro e
              exact h95 (UInt8.toNat_inj.1 (by show s[k].toNat = 95; omega))
            have f5 : ((s[k].toNat : Int) == 95) = false := by
              rw [beq_eq_false_iff_ne]; intro e
              exact h95 (UInt8.toNat_inj.1 (by show s[k].toNat = 95; omega))
            have f6 : decide ((s[k].toNat : Int) < 97) = false := decide_eq_false (by omega)
            have f7 : decide ((122 : Int) < s[k].toNat) = false := decide_eq_false (by omega)
            have f3 : decide ((97 : Int) ≤ s[k].toNat) = true := decide_eq_true (by omega)
            have f4 : decide ((s[k].toNat : Int) ≤ 122) = true := decide_eq_true (by omega)
            have HU : Hid (((upB s[k]).toNat : Int) = (s[k].toNat : Int) - 32) := Lib.hid (by
              unfold upB; rw [if_pos ⟨hl0, hl1⟩, up_sub _ ⟨hl0, hl1⟩]; omega)
            have H32 := Lib.hid h32; have H95 := Lib.hid h95
            clear hcb h32 h95
            cases b with
            | true =>
              have hbt := HBF.out.1 rfl
              by_cases hkz : k = 0
              · clear hbt
                have e0 : ((k : Int) == 0) = true := beq_iff_eq.2 (by omega)
                clear hkz
                have hsz := HB.out.size
                go_wp2_with (first | (at_builtin; refine wpList_append_two rfl (.tmp 59) (.tmp 61) rfl w.heap.size u3 (s.data.toList.take k) u4 ((s.data.toList.take k).map upB) rfl (OwnB.later HS.out (b_alloc (Below.refl _ _) _)) (OwnB.later HG.out (b_alloc (Below.refl _ _) _)) HAP.out ⟨wr.heap.size, 0, none⟩ 1 1 [s[k]] rfl rfl (by intro j u hu; match j, hu with | 0, hu => (simp at hu; subst hu; exact cell_new1 _ _ _ _ rfl)) (by rw [List.length_take]; omega) (by simp; omega) ?_; intro v1 W1 hown hown2 hap hbel hkp; have HO1 := Lib.hid hown; have HP1 := Lib.hid hown2; have HA1 := Lib.hid hap; have HB1 := Lib.hid hbel; clear hown hown2 hap hbel hkp; have hz1 := HB1.out.size; simp only [World.size_alloc] at hz1) | (at_builtin; refine wpList_append_two rfl (.tmp 71) (.tmp 73) rfl w.heap.size u4 ((s.data.toList.take k).map upB) v1 (s.data.toList.take k ++ [s[k]]) rfl (OwnB.later HP1.out (b_alloc (Below.refl _ _) _)) (OwnB.later HO1.out (b_alloc (Below.refl _ _) _)) (Apart.symm HA1.out) ⟨W1.heap.size, 0, none⟩ 1 1 [upB s[k]] rfl rfl (by intro j u hu; match j, hu with | 0, hu => (simp at hu; subst hu; rw [HU.out]; exact cell_new1 _ _ _ _ rfl)) (by rw [List.length_map, List.length_take]; omega) (by simp; omega) ?_; intro v2 W2 hown hown2 hap hbel hkp; have HO2 := Lib.hid hown; have HP2 := Lib.hid hown2; have HA2 := Lib.hid hap; have HB2 := Lib.hid hbel; clear hown hown2 hap hbel hkp))
                go_roundw
                case rel =>
                  refine ⟨k + 1, n + 1, false, by go_num, by go_num, by omega, by omega, ?_, ?_, ?_, ?_, ?_, ?_⟩
                  · rw [take_snoc' s k hlt]; exact HP2
                  · rw [take_snoc' s k hlt, List.map_append]; exact HO2
                  · exact Lib.hid (Apart.symm HA2.out)
                  · exact Lib.hid ⟨fun h => (by cases h), fun h => (by rcases h with h | h; exact absurd h (by omega); rw [Nat.add_sub_cancel, HPV.out] at h; exact absurd (Option.some.inj h) H32.out)⟩
                  · exact Lib.hid (by rw [HCC.out, if_neg H32.out]; (first | rw [if_pos trivial] | rw [if_pos rfl]); rw [if_neg H95.out]; cases casesF false (s.data.toList.drop (k + 1)) <;> simp <;> omega)
                  · exact Lib.hid ((b_alloc ((b_alloc HB.out _).trans HB1.out) _).trans HB2.out)
                case measure => simp [intOf]; omega
              · have hp : s.data.toList[k - 1]? = some 32 := by rcases hbt with h | h; exact absurd h hkz; exact h
                clear hbt
                have hk1 : k - 1 < s.size := by omega
                have hk1i : (k : Int) - 1 < s.size := by omega
                have hk0 : 1 ≤ k := by omega
                have e0 : ((k : Int) == 0) = false := beq_eq_false_iff_ne.2 (by omega)
                rw [get_at s (k - 1) hk1] at hp
                have hpv : s[k - 1] = 32 := Option.some.inj hp
                have e1 : ((s[k - 1].toNat : Int) == 32) = true := by rw [hpv]; rfl
                clear hp hpv
                have hsz := HB.out.size
                go_wp2_with (first | (at_builtin; refine wpList_append_two rfl (.tmp 59) (.tmp 61) rfl w.heap.size u3 (s.data.toList.take k) u4 ((s.data.toList.take k).map upB) rfl (OwnB.later HS.out (b_alloc (Below.refl _ _) _)) (OwnB.later HG.out (b_alloc (Below.refl _ _) _)) HAP.out ⟨wr.heap.size, 0, none⟩ 1 1 [s[k]] rfl rfl (by intro j u hu; match j, hu with | 0, hu => (simp at hu; subst hu; exact cell_new1 _ _ _ _ rfl)) (by rw [List.length_take]; omega) (by simp; omega) ?_; intro v1 W1 hown hown2 hap hbel hkp; have HO1 := Lib.hid hown; have HP1 := Lib.hid hown2; have HA1 := Lib.hid hap; have HB1 := Lib.hid hbel; clear hown hown2 hap hbel hkp; have hz1 := HB1.out.size; simp only [World.size_alloc] at hz1) | (at_builtin; refine wpList_append_two rfl (.tmp 71) (.tmp 73) rfl w.heap.size u4 ((s.data.toList.take k).map upB) v1 (s.data.toList.take k ++ [s[k]]) rfl (OwnB.later HP1.out (b_alloc (Below.refl _ _) _)) (OwnB.later HO1.out (b_alloc (Below.refl _ _) _)) (Apart.symm HA1.out) ⟨W1.heap.size, 0, none⟩ 1 1 [upB s[k]] rfl rfl (by intro j u hu; match j, hu with | 0, hu => (simp at hu; subst hu; rw [HU.out]; exact cell_new1 _ _ _ _ rfl)) (by rw [List.length_map, List.length_take]; omega) (by simp; omega) ?_; intro v2 W2 hown hown2 hap hbel hkp; have HO2 := Lib.hid hown; have HP2 := Lib.hid hown2; have HA2 := Lib.hid hap; have HB2 := Lib.hid hbel; clear hown hown2 hap hbel hkp))
                go_roundw
                case rel =>
                  refine ⟨k + 1, n + 1, false, by go_num, by go_num, by omega, by omega, ?_, ?_, ?_, ?_, ?_, ?_⟩
                  · rw [take_snoc' s k hlt]; exact HP2
                  · rw [take_snoc' s k hlt, List.map_append]; exact HO2
                  · exact Lib.hid (Apart.symm HA2.out)
                  · exact Lib.hid ⟨fun h => (by cases h), fun h => (by rcases h with h | h; exact absurd h (by omega); rw [Nat.add_sub_cancel, HPV.out] at h; exact absurd (Option.some.inj h) H32.out)⟩
                  · exact Lib.hid (by rw [HCC.out, if_neg H32.out]; (first | rw [if_pos trivial] | rw [if_pos rfl]); rw [if_neg H95.out]; cases casesF false (s.data.toList.drop (k + 1)) <;> simp <;> omega)
                  · exact Lib.hid ((b_alloc ((b_alloc HB.out _).trans HB1.out) _).trans HB2.out)
                case measure => simp [intOf]; omega
            | false =>
              have hbf : ¬ (k = 0 ∨ s.data.toList[k - 1]? = some 32) := fun h => by have := HBF.out.2 h; cases this
              have hkz : ¬ k = 0 := fun h => hbf (.inl h)
              have hk1 : k - 1 < s.size := by omega
              have hk1i : (k : Int) - 1 < s.size := by omega
              have hk0 : 1 ≤ k := by omega
              have e0 : ((k : Int) == 0) = false := beq_eq_false_iff_ne.2 (by omega)
              have e1 : ((s[k - 1].toNat : Int) == 32) = false := beq_eq_false_iff_ne.2 (fun e => hbf (.inr (by rw [get_at s (k - 1) hk1]; exact congrArg some (UInt8.toNat_inj.1 (by show s[k - 1].toNat = 32; omega)))))
              clear hbf
              have hsz := HB.out.size
              go_wp2_with (first | (at_builtin; refine wpList_append_two rfl (.tmp 59) (.tmp 61) rfl w.heap.size u3 (s.data.toList.take k) u4 ((s.data.toList.take k).map upB) rfl (OwnB.later HS.out (b_alloc (Below.refl _ _) _)) (OwnB.later HG.out (b_alloc (Below.refl _ _) _)) HAP.out ⟨wr.heap.size, 0, none⟩ 1 1 [s[k]] rfl rfl (by intro j u hu; match j, hu with | 0, hu => (simp at hu; subst hu; exact cell_new1 _ _ _ _ rfl)) (by rw [List.length_take]; omega) (by simp; omega) ?_; intro v1 W1 hown hown2 hap hbel hkp; have HO1 := Lib.hid hown; have HP1 := Lib.hid hown2; have HA1 := Lib.hid hap; have HB1 := Lib.hid hbel; clear hown hown2 hap hbel hkp; have hz1 := HB1.out.size; simp only [World.size_alloc] at hz1) | (at_builtin; refine wpList_append_two rfl (.tmp 71) (.tmp 73) rfl w.heap.size u4 ((s.data.toList.take k).map upB) v1 (s.data.toList.take k ++ [s[k]]) rfl (OwnB.later HP1.out (b_alloc (Below.refl _ _) _)) (OwnB.later HO1.out (b_alloc (Below.refl _ _) _)) (Apart.symm HA1.out) ⟨W1.heap.size, 0, none⟩ 1 1 [upB s[k]] rfl rfl (by intro j u hu; match j, hu with | 0, hu => (simp at hu; subst hu; rw [HU.out]; exact cell_new1 _ _ _ _ rfl)) (by rw [List.length_map, List.length_take]; omega) (by simp; omega) ?_; intro v2 W2 hown hown2 hap hbel hkp; have HO2 := Lib.hid hown; have HP2 := Lib.hid hown2; have HA2 := Lib.hid hap; have HB2 := Lib.hid hbel; clear hown hown2 hap hbel hkp))
              go_roundw
              case rel =>
                refine ⟨k + 1, n, false, by go_num, rfl, by omega, by omega, ?_, ?_, ?_, ?_, ?_, ?_⟩
                · rw [take_snoc' s k hlt]; exact HP2
                · rw [take_snoc' s k hlt, List.map_append]; exact HO2
                · exact Lib.hid (Apart.symm HA2.out)
                · exact Lib.hid ⟨fun h => (by cases h), fun h => (by rcases h with h | h; exact absurd h (by omega); rw [Nat.add_sub_cancel, HPV.out] at h; exact absurd (Option.some.inj h) H32.out)⟩
                · exact Lib.hid (by rw [HCC.out, if_neg H32.out, if_neg (by decide)])
                · exact Lib.hid ((b_alloc ((b_alloc HB.out _).trans HB1.out) _).trans HB2.out)
              case measure => simp [intOf]; omega
    · have hge : s.size ≤ k := by omega
      have hkt : s.data.toList.take k = s.data.toList := List.take_of_length_le (by rw [← Lib.size_eq]; exact hge)
      have hcn : casesF true s.data.toList = some n := by
        rw [HC.out, List.drop_eq_nil_of_le (by rw [← Lib.size_eq]; exact hge)]
        show (some 0).map (n + ·) = some n
        simp
      obtain ⟨r, hr1, hr2, hr3⟩ := cases_of (s.data.toList.length + 1) s.data.toList n 0 (Nat.lt_succ_self _) hcn
      have hx := lexL_of (by rw [← Lib.size_eq]; omega) hr1
      have hy := lexL_of (by rw [List.length_map, ← Lib.size_eq]; omega) hr2
      have hrn := hr1.ne
      have hs1 := HS.out; have hg1 := HG.out
      rw [hkt] at hs1 hg1
      have HX := Lib.hid hx; have HY := Lib.hid hy; have HG1 := Lib.hid hg1
      clear hx hy hr1 hr2 hcn hkt hg1
      have hrb : ((r.length : Int) != (n : Int) + 1) = false := by rw [bne_eq_false_iff_eq]; omega
      have hconv := run_string_own hs1
      clear hs1
      go_wp2_with fail
      refine (lex_any _ _ (HL.out.later HB.out)).mono ?_
      rintro e w1 ⟨v, rfl, hv, hb⟩
      rw [show (⟨s.data.toList.toArray⟩ : ByteArray).data.toList = s.data.toList by simp, HX.out] at hv
      obtain ⟨sv, rfl, ho⟩ := hv
      obtain ⟨ga, ca, rfl, hga, hca, hta⟩ := ho.form hrn
      have hconv2 := run_string_own (OwnB.later HG1.out hb)
      have HB1 := Lib.hid (bstep HB.out hb); have HTA := Lib.hid hta; clear hb ho hta hconv
      go_wp2_with fail
      refine (lex_any _ _ (HL.out.later HB1.out)).mono ?_
      rintro e w2 ⟨v, rfl, hv, hb⟩
      rw [show (⟨(s.data.toList.map upB).toArray⟩ : ByteArray).data.toList = s.data.toList.map upB by simp, HY.out] at hv
      obtain ⟨sv, rfl, ho⟩ := hv
      obtain ⟨gb, cb, rfl, hgb, hcb, htb⟩ := ho.form hrn
      have HB2 := Lib.hid (bstep HB1.out hb); have HTA2 := Lib.hid (HTA.out.later hb); have HTB := Lib.hid htb; clear hb ho htb hconv2
      go_wp2_with fail
      go_loopw [12] (fun i wq => ∃ j : Nat, i = .int .i64 j ∧ j ≤ r.length ∧ Hid (TokIs wq ga r) ∧ Hid (TokIs wq gb r) ∧ Hid (Below w.heap.size w wq)) (fun i _ => r.length - (intOf i).toNat)
      case atStart => exact ⟨0, rfl, Nat.zero_le _, HTA2, HTB, HB2⟩
      case round =>
        obtain ⟨j, rfl, hj, HTA, HTB, HB3⟩ := hrel
        by_cases hjl : j < r.length
        · have c1 := HTA.out.2 j hjl
          have c2 := HTB.out.2 j hjl
          obtain ⟨t, ht⟩ : ∃ t, tget r j = t := ⟨_, rfl⟩
          rw [ht] at c1 c2
          have a0 := c1 0 _ rfl; have a1 := c1 1 _ rfl; have a2 := c1 2 _ rfl; have a3 := c1 3 _ rfl; have a4 := c1 4 _ rfl; have a5 := c1 5 _ rfl
          have b0 := c2 0 _ rfl; have b1 := c2 1 _ rfl; have b2 := c2 2 _ rfl; have b3 := c2 3 _ rfl; have b4 := c2 4 _ rfl; have b5 := c2 5 _ rfl
          rw [Nat.add_zero] at a0 b0
          clear c1 c2 ht
          go_wp2_with fail
          go_quiet (fail)
          go_wp2_with fail
          go_roundw
          case rel => exact ⟨j + 1, by go_num, by omega, HTA, HTB, Lib.hid (b_drewN HB3.out _)⟩
          case measure => simp [intOf]; omega
        · have hge2 : r.length ≤ j := by omega
          go_wp2_with fail
          refine (alive16 _ (HL.out.later HB3.out)).mono ?_
          rintro e w3 ⟨rfl, hb⟩
          have HB4 := Lib.hid (bstep HB3.out hb)
          clear hb
          go_wp2_with fail
          go_ret
          exact ⟨rfl, HB4.out⟩

theorem cases_any (s : ByteArray) (w : World) (hl : Laid w) : Calls Tryd.prog 6 #[.string s] w fun e w' => e = .returned (.bool true) ∧ Below w.heap.size w w' := by
  by_cases h : (400 : Int) < s.size
  · exact cases_long s w hl h
  · exact cases_short s w hl (by omega)

end Go.Proofs.YtodhdbikbdlcaaaDoor
