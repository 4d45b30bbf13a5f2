/-
  LexPlaces answers true.
-/
import Derived.Test.YtodhdbikbdlcaaaDoorLexAlive
namespace Go.Proofs.YtodhdbikbdlcaaaDoor
set_option linter.unusedSimpArgs false
set_option linter.unusedVariables false
open Go.RowKit

theorem low_any (c : UInt8) (w : World) : Calls Tryd.prog 9 #[.int .u8 (c.toNat : Int)] w fun e w' => e = .returned (.int .u8 ((lowB c).toNat : Int)) ∧ w' = w := by
  have hc := c.toNat_lt
  by_cases h : 65 ≤ c.toNat ∧ c.toNat ≤ 90
  · have HE : Hid (((lowB c).toNat : Int) = (c.toNat : Int) + 32) := Lib.hid (by
      unfold lowB; rw [if_pos h, UInt8.toNat_add, show UInt8.toNat 32 = 32 from rfl]; omega)
    obtain ⟨h1, h2⟩ := h
    have g1 : decide ((65 : Int) ≤ c.toNat) = true := decide_eq_true (by omega)
    have g2 : decide ((c.toNat : Int) ≤ 90) = true := decide_eq_true (by omega)
    go_enter Tryd.func9, Tryd.ntmps9
    go_wp2_with fail
    go_ret
    exact ⟨ret_int HE.out.symm, rfl⟩
  · have HE : Hid (((lowB c).toNat : Int) = (c.toNat : Int)) := Lib.hid (by unfold lowB; rw [if_neg h])
    have g1 : (decide ((65 : Int) ≤ c.toNat) && decide ((c.toNat : Int) ≤ 90)) = false := by
      rw [Bool.and_eq_false_iff]
      rcases Nat.lt_or_ge c.toNat 65 with h' | h'
      · exact .inl (decide_eq_false (by omega))
      · exact .inr (decide_eq_false (by omega))
    go_enter Tryd.func9, Tryd.ntmps9
    go_wp2_with fail
    all_goals
      go_ret
      exact ⟨ret_int HE.out.symm, rfl⟩

theorem TokIs.later {w w' : World} {g : Nat} {l : List Tok} (h : TokIs w g l) (hb : Below w.heap.size w w') : TokIs w' g l :=
  ⟨Nat.lt_of_lt_of_le h.1 hb.size, fun k hk j u hu => (hb.cell (p := ⟨g, k * 6 + j, none⟩) h.1).trans (h.2 k hk j u hu)⟩

set_option maxRecDepth 100000 in
theorem places_bad (s : ByteArray) (w : World) (hl : Laid w) (p : Int) (hx : lexL s.data.toList = .bad p) : Calls Tryd.prog 3 #[.string s] w fun e w' => e = .returned (.bool true) ∧ Below w.heap.size w w' := by
  have HL := Lib.hid hl; clear hl
  have HX := Lib.hid hx; clear hx
  go_enter Tryd.func3, Tryd.ntmps3
  go_wp2_with fail
  refine (lex_any _ _ HL.out).mono ?_
  rintro e w1 ⟨v, rfl, hv, hb⟩
  rw [HX.out] at hv
  obtain ⟨ev, rfl, he⟩ := hv
  obtain ⟨bb, rfl⟩ := he.open
  clear he
  have HB := Lib.hid hb; clear hb
  go_wp2_with fail
  all_goals
    refine (alive16 _ (HL.out.later HB.out)).mono ?_
    rintro e w2 ⟨rfl, hb⟩
    have HB2 := Lib.hid (bstep HB.out hb)
    clear hb
    go_wp2_with fail
    go_ret
    exact ⟨rfl, HB2.out⟩

set_option maxRecDepth 100000 in
set_option maxHeartbeats 3200000 in
theorem places_ok (s : ByteArray) (w : World) (hl : Laid w) (l : List Tok) (hx : lexL s.data.toList = .ok l) : Calls Tryd.prog 3 #[.string s] w fun e w' => e = .returned (.bool true) ∧ Below w.heap.size w w' := by
  have HL := Lib.hid hl; clear hl
  obtain ⟨hs, hto⟩ := lexL_ok hx
  rw [← Lib.size_eq] at hs
  have hpl := places_of hto s.data.toList 0 0 rfl rfl (Nat.zero_le _) (Nat.le_refl _) (fun j h1 h2 => absurd h2 (by omega))
  have hne := hto.ne
  have hll := hto.len
  rw [← Lib.size_eq] at hll
  have HX := Lib.hid hx; have HP := Lib.hid hpl
  clear hx hpl hto
  have g0 : decide ((1200 : Int) < s.size) = false := decide_eq_false (by omega)
  go_enter Tryd.func3, Tryd.ntmps3
  go_wp2_with fail
  refine (lex_any _ _ HL.out).mono ?_
  rintro e w1 ⟨v, rfl, hv, hb⟩
  rw [HX.out] at hv
  obtain ⟨sv, rfl, ho⟩ := hv
  obtain ⟨g, cap, rfl, hbg, hcap, htk⟩ := ho.form hne
  have HB := Lib.hid hb; have HT := Lib.hid htk
  clear hb ho htk
  go_wp2_with fail
  go_loopw [5, 6] (fun x y wr => ∃ (a k : Nat), x = .int .i64 a ∧ y = .int .i64 k ∧ k ≤ l.length ∧ a ≤ s.size ∧ Hid (Places s.data.toList a (l.drop k)) ∧ Hid (TokIs wr g l) ∧ Hid (Below w.heap.size w wr)) (fun _ y _ => l.length - (intOf y).toNat)
  case atStart => exact ⟨0, 0, rfl, rfl, Nat.zero_le _, Nat.zero_le _, HP, HT, HB⟩
  case round =>
    obtain ⟨a, k, rfl, rfl, hk, ha, HP, HT, HB⟩ := hrel
    by_cases hlt : k < l.length
    · have hd : l.drop k = tget l k :: l.drop (k + 1) := by
        rw [List.drop_eq_getElem_cons hlt]; simp [tget, hlt]
      have hp := HP.out
      rw [hd] at hp
      obtain ⟨h6, q, hq, haq, hqs, hbl, hch, hpn⟩ := hp
      have hcell := HT.out.2 k hlt
      obtain ⟨t, ht⟩ : ∃ t, tget l k = t := ⟨_, rfl⟩
      rw [ht] at h6 hq hqs hch hpn hcell
      obtain ⟨U, hT⟩ : ∃ U : ByteArray, U.data.toList = t.t := ⟨⟨t.t.toArray⟩, by simp⟩
      rw [← hT] at hqs hch hpn
      have c0 := hcell 0 _ rfl
      have c1 := hcell 1 _ rfl
      have c2 := hcell 2 _ rfl
      have c3 := hcell 3 _ rfl
      have c4 := hcell 4 _ rfl
      have c5 := hcell 5 _ rfl
      rw [show (⟨t.t.toArray⟩ : ByteArray) = U from (ba_list' hT).symm] at c1
      rw [hq] at c5
      have HH6 := Lib.hid h6; have HBL := Lib.hid hbl; have HCH := Lib.hid hch; have HPN := Lib.hid hpn
      clear hd h6 hbl hch hpn hcell ht hT hq
      rw [Nat.add_zero] at c0
      simp only [← Lib.size_eq] at hqs
      obtain ⟨b6, hb6⟩ : ∃ b, (t.k == 6) = b := ⟨_, rfl⟩
      have hb7 : ((k : Int) == (l.length : Int) - 1) = b6 := by
        rw [← hb6, Bool.eq_iff_iff, beq_iff_eq, beq_iff_eq, HH6.out, List.drop_eq_nil_iff]
        omega
      have d1 : decide (q < a) = false := decide_eq_false (by omega)
      have d2 : decide (s.size < q) = false := decide_eq_false (by omega)
      have d3 : decide ((s.size : Int) < (q : Int) + U.size) = false := decide_eq_false (by omega)
      go_wp2_with fail
      have y0 : (wr.alloc (Obj.cells #[Value.int .i64 t.k, .string U, .int .i64 t.vk, .int .i64 t.vn, .string ⟨t.vs.toArray⟩, .int .i64 (q : Int)] 33)).cell? ⟨wr.heap.size, 0, none⟩ = some (.int .i64 t.k) := by simp [go_sem]
      have y1 : (wr.alloc (Obj.cells #[Value.int .i64 t.k, .string U, .int .i64 t.vk, .int .i64 t.vn, .string ⟨t.vs.toArray⟩, .int .i64 (q : Int)] 33)).cell? ⟨wr.heap.size, 1, none⟩ = some (.string U) := by simp [go_sem]
      have y5 : (wr.alloc (Obj.cells #[Value.int .i64 t.k, .string U, .int .i64 t.vk, .int .i64 t.vn, .string ⟨t.vs.toArray⟩, .int .i64 (q : Int)] 33)).cell? ⟨wr.heap.size, 5, none⟩ = some (.int .i64 (q : Int)) := by simp [go_sem]
      have HB2 : Hid (Below w.heap.size w (wr.alloc (Obj.cells #[Value.int .i64 t.k, .string U, .int .i64 t.vk, .int .i64 t.vn, .string ⟨t.vs.toArray⟩, .int .i64 (q : Int)] 33))) := Lib.hid (b_alloc HB.out _)
      have HT2 : Hid (TokIs (wr.alloc (Obj.cells #[Value.int .i64 t.k, .string U, .int .i64 t.vk, .int .i64 t.vn, .string ⟨t.vs.toArray⟩, .int .i64 (q : Int)] 33)) g l) := Lib.hid (HT.out.later (b_alloc (Below.refl _ _) _))
      generalize (wr.alloc (Obj.cells #[Value.int .i64 t.k, .string U, .int .i64 t.vk, .int .i64 t.vn, .string ⟨t.vs.toArray⟩, .int .i64 (q : Int)] 33)) = wv at y0 y1 y5 HB2 HT2 ⊢
      clear c0 c1 c2 c3 c4 c5 d1 d2 d3 hb6 hb7
      go_loop [8] (fun x => ∃ j : Nat, x = .int .i64 j ∧ a ≤ j ∧ j ≤ q) (fun x => q - (intOf x).toNat)
      case atStart => exact ⟨a, rfl, Nat.le_refl _, haq⟩
      case round =>
        obtain ⟨j, rfl, hj1, hj2⟩ := hrel
        by_cases hjq : j < q
        · have hbj := HBL.out j hj1 hjq
          have hjs : j < s.size := by omega
          have hji : (j : Int) < s.size := by omega
          rw [List.getD_eq_getElem?_getD, get_at s j hjs, Option.getD_some] at hbj
          have hc := (s[j]).toNat_lt
          have hbb : s[j].toNat = 32 ∨ s[j].toNat = 9 ∨ s[j].toNat = 10 ∨ s[j].toNat = 13 := by
            unfold ofB at hbj
            (repeat' split at hbj) <;> omega
          clear hbj
          rcases hbb with h | h | h | h
          all_goals
            first
              | have f1 : ((s[j].toNat : Int) != 32) = false := by rw [h]; rfl
              | (have f1 : ((s[j].toNat : Int) != 32) = true := by rw [h]; rfl
                 have f2 : ((s[j].toNat : Int) != 9) = false := by rw [h]; rfl)
              | (have f1 : ((s[j].toNat : Int) != 32) = true := by rw [h]; rfl
                 have f2 : ((s[j].toNat : Int) != 9) = true := by rw [h]; rfl
                 have f3 : ((s[j].toNat : Int) != 10) = false := by rw [h]; rfl)
              | (have f1 : ((s[j].toNat : Int) != 32) = true := by rw [h]; rfl
                 have f2 : ((s[j].toNat : Int) != 9) = true := by rw [h]; rfl
                 have f3 : ((s[j].toNat : Int) != 10) = true := by rw [h]; rfl
                 have f4 : ((s[j].toNat : Int) != 13) = false := by rw [h]; rfl)
            clear h
            go_wp2_with fail
            go_round
            case rel => exact ⟨j + 1, by go_num, by omega, by omega⟩
            case measure => simp [intOf]; omega
        · have hqj : q ≤ j := by omega
          go_wp2_with fail
          go_loop [9] (fun x => ∃ i : Nat, x = .int .i64 i ∧ i ≤ U.size) (fun x => U.size - (intOf x).toNat)
          case atStart => exact ⟨0, rfl, Nat.zero_le _⟩
          case round =>
            obtain ⟨i, rfl, hi⟩ := hrel
            by_cases hit : i < U.size
            · have hqi : q + i < s.size := by omega
              have hqii : (q : Int) + i < s.size := by omega
              have hti : (i : Int) < U.size := by omega
              have hcc := HCH.out i (by rw [← Lib.size_eq]; exact hit)
              rw [List.getD_eq_getElem?_getD, get_at U i hit, Option.getD_some, List.getD_eq_getElem?_getD, get_at s (q + i) hqi, Option.getD_some] at hcc
              have hc := (s[q + i]).toNat_lt
              have hc2 := (U[i]).toNat_lt
              by_cases hk1 : t.k = 1
              · rw [if_pos hk1] at hcc
                have hkb : (t.k == 1) = true := beq_iff_eq.2 hk1
                have f1 : (((lowB s[q + i]).toNat : Int) != U[i].toNat) = false := by rw [hcc]; simp
                clear hcc hk1
                go_wp2_with (go_at_call 9; refine (low_any _ _).mono ?_; rintro e w2 ⟨rfl, rfl⟩)
                go_round
                case rel => exact ⟨i + 1, by go_num, by omega⟩
                case measure => simp [intOf]; omega
              · rw [if_neg hk1] at hcc
                have hkb : (t.k == 1) = false := beq_eq_false_iff_ne.2 hk1
                have f1 : ((s[q + i].toNat : Int) != U[i].toNat) = false := by rw [hcc]; simp
                clear hcc hk1
                go_wp2_with fail
                go_round
                case rel => exact ⟨i + 1, by go_num, by omega⟩
                case measure => simp [intOf]; omega
            · have hui : U.size ≤ i := by omega
              have HPN2 : Hid (Places s.data.toList (q + U.size) (l.drop (k + 1))) := Lib.hid (by rw [Lib.size_eq U]; exact HPN.out)
              go_wp2_with fail
              go_roundw
              case rel => exact ⟨q + U.size, k + 1, by go_num, by go_num, by omega, hqs, HPN2, HT2, HB2⟩
              case measure => simp [intOf]; omega
    · have hge : l.length ≤ k := by omega
      have hae : a = s.size := by
        have hp := HP.out
        rw [List.drop_eq_nil_of_le hge] at hp
        rw [Lib.size_eq]; exact hp
      have hab : ((a : Int) == s.size) = true := beq_iff_eq.2 (by omega)
      clear hae
      go_wp2_with fail
      refine (alive16 _ (HL.out.later HB.out)).mono ?_
      rintro e w2 ⟨rfl, hb⟩
      have HB2 := Lib.hid (bstep HB.out hb)
      clear hb
      go_wp2_with fail
      go_ret
      exact ⟨rfl, HB2.out⟩

theorem places_any (s : ByteArray) (w : World) (hl : Laid w) : Calls Tryd.prog 3 #[.string s] w fun e w' => e = .returned (.bool true) ∧ Below w.heap.size w w' := by
  cases h : lexL s.data.toList with
  | bad p => exact places_bad s w hl p h
  | ok l => exact places_ok s w hl l h

end Go.Proofs.YtodhdbikbdlcaaaDoor
