/-
  LexJoined answers true.
-/
import Derived.Test.YtodhdbikbdlcaaaDoorLAgain
namespace Go.Proofs.YtodhdbikbdlcaaaDoor
set_option linter.unusedSimpArgs false
set_option linter.unusedVariables false
open Go.RowKit

set_option maxRecDepth 100000 in
set_option maxHeartbeats 1600000 in
theorem joined_out (a b : ByteArray) (w : World) (hl : Laid w)
    (h : (∃ p, lexL a.data.toList = .bad p) ∨ (∃ x p, lexL a.data.toList = .ok x ∧ lexL b.data.toList = .bad p) ∨ (∃ x y, lexL a.data.toList = .ok x ∧ lexL b.data.toList = .ok y ∧ ((400 : Int) < a.size ∨ (¬ (400 : Int) < a.size ∧ (400 : Int) < b.size)))) :
    Calls Tryd.prog 5 #[.string a, .string b] w fun e w' => e = .returned (.bool true) ∧ Below w.heap.size w w' := by
  have HL := Lib.hid hl; clear hl
  rcases h with ⟨p, hx⟩ | ⟨x, p, hx, hy⟩ | ⟨x, y, hx, hy, h4 | ⟨h4, h5⟩⟩
  · have HX := Lib.hid hx; clear hx
    go_enter Tryd.func5, Tryd.ntmps5
    go_wp2_with fail
    refine (lex_any _ _ HL.out).mono ?_
    rintro e w1 ⟨v, rfl, hv, hb⟩
    rw [HX.out] at hv
    obtain ⟨ev, rfl, he⟩ := hv
    obtain ⟨bb, rfl⟩ := he.open
    have HB := Lib.hid hb; clear hb he
    go_wp2_with fail
    refine (lex_any _ _ (HL.out.later HB.out)).mono ?_
    rintro e w2 ⟨v, rfl, hv, hb⟩
    have HB2 := Lib.hid (bstep HB.out hb); clear hb
    obtain ⟨s2, v2, rfl⟩ : ∃ s2 v2, v = .tuple #[s2, v2] := by
      cases hq : lexL b.data.toList with
      | ok l => rw [hq] at hv; obtain ⟨sv, rfl, _⟩ := hv; exact ⟨_, _, rfl⟩
      | bad p => rw [hq] at hv; obtain ⟨ev, rfl, _⟩ := hv; exact ⟨_, _, rfl⟩
    clear hv
    go_wp2_with fail
    all_goals
      refine (alive16 _ (HL.out.later HB2.out)).mono ?_
      rintro e w3 ⟨rfl, hb⟩
      have HB3 := Lib.hid (bstep HB2.out hb)
      clear hb
      go_wp2_with fail
      go_ret
      exact ⟨rfl, HB3.out⟩
  · have HX := Lib.hid hx; have HY := Lib.hid hy; clear hx hy
    go_enter Tryd.func5, Tryd.ntmps5
    go_wp2_with fail
    refine (lex_any _ _ HL.out).mono ?_
    rintro e w1 ⟨v, rfl, hv, hb⟩
    rw [HX.out] at hv
    obtain ⟨sv, rfl, he⟩ := hv
    have HB := Lib.hid hb; clear hb he
    go_wp2_with fail
    refine (lex_any _ _ (HL.out.later HB.out)).mono ?_
    rintro e w2 ⟨v, rfl, hv, hb⟩
    have HB2 := Lib.hid (bstep HB.out hb); clear hb
    rw [HY.out] at hv
    obtain ⟨ev, rfl, he⟩ := hv
    obtain ⟨bb, rfl⟩ := he.open
    clear he
    go_wp2_with fail
    all_goals
      refine (alive16 _ (HL.out.later HB2.out)).mono ?_
      rintro e w3 ⟨rfl, hb⟩
      have HB3 := Lib.hid (bstep HB2.out hb)
      clear hb
      go_wp2_with fail
      go_ret
      exact ⟨rfl, HB3.out⟩
  · have HX := Lib.hid hx; have HY := Lib.hid hy; clear hx hy
    go_enter Tryd.func5, Tryd.ntmps5
    go_wp2_with fail
    refine (lex_any _ _ HL.out).mono ?_
    rintro e w1 ⟨v, rfl, hv, hb⟩
    rw [HX.out] at hv
    obtain ⟨sv, rfl, he⟩ := hv
    have HB := Lib.hid hb; clear hb he
    go_wp2_with fail
    refine (lex_any _ _ (HL.out.later HB.out)).mono ?_
    rintro e w2 ⟨v, rfl, hv, hb⟩
    have HB2 := Lib.hid (bstep HB.out hb); clear hb
    rw [HY.out] at hv
    obtain ⟨ev, rfl, he⟩ := hv
    clear he
    go_wp2_with fail
    all_goals
      refine (alive16 _ (HL.out.later HB2.out)).mono ?_
      rintro e w3 ⟨rfl, hb⟩
      have HB3 := Lib.hid (bstep HB2.out hb)
      clear hb
      go_wp2_with fail
      go_ret
      exact ⟨rfl, HB3.out⟩
  · have HX := Lib.hid hx; have HY := Lib.hid hy; clear hx hy
    go_enter Tryd.func5, Tryd.ntmps5
    go_wp2_with fail
    refine (lex_any _ _ HL.out).mono ?_
    rintro e w1 ⟨v, rfl, hv, hb⟩
    rw [HX.out] at hv
    obtain ⟨sv, rfl, he⟩ := hv
    have HB := Lib.hid hb; clear hb he
    go_wp2_with fail
    refine (lex_any _ _ (HL.out.later HB.out)).mono ?_
    rintro e w2 ⟨v, rfl, hv, hb⟩
    have HB2 := Lib.hid (bstep HB.out hb); clear hb
    rw [HY.out] at hv
    obtain ⟨ev, rfl, he⟩ := hv
    clear he
    go_wp2_with fail
    all_goals
      refine (alive16 _ (HL.out.later HB2.out)).mono ?_
      rintro e w3 ⟨rfl, hb⟩
      have HB3 := Lib.hid (bstep HB2.out hb)
      clear hb
      go_wp2_with fail
      go_ret
      exact ⟨rfl, HB3.out⟩

theorem at_bounds {s : List UInt8} {p : Int} {r : List Tok} (h : LexTo s p r) : ∀ t ∈ r, p ≤ t.at_ ∧ t.at_ ≤ p + s.length := by
  induction h with
  | fin p =>
    intro t ht
    rw [List.mem_singleton.1 ht]
    show p ≤ p ∧ p ≤ p + (([] : List UInt8).length : Int)
    simp
  | blank _ _ ih =>
    intro t ht
    have := ih t ht
    simp only [List.length_cons]; omega
  | @tok c l p r hc ht hr ih =>
    intro t hm
    have ho := (nextT_of ht).len
    rcases List.mem_cons.1 hm with rfl | hm
    · show p ≤ p ∧ p ≤ _
      omega
    · have := ih t hm
      rw [List.length_drop] at this
      omega
theorem tget_mem {y : List Tok} {j : Nat} (h : j < y.length) : tget y j ∈ y := by
  unfold tget
  rw [List.getD_eq_getElem?_getD, List.getElem?_eq_getElem h]
  exact List.getElem_mem h
theorem tget_left {x : List Tok} {z : List Tok} {k : Nat} (hk : k < x.length - 1) : tget (x.dropLast ++ z) k = tget x k := by
  unfold tget
  rw [List.getD_eq_getElem?_getD, List.getD_eq_getElem?_getD, List.getElem?_append_left (by rw [List.length_dropLast]; exact hk), List.getElem?_dropLast, if_pos hk]
theorem tget_right {x y : List Tok} {d : Int} {k j : Nat} (hk : k = x.length - 1 + j) (hj : j < y.length) : tget (x.dropLast ++ y.map (Tok.later d)) k = (tget y j).later d := by
  unfold tget
  rw [List.getD_eq_getElem?_getD, List.getD_eq_getElem?_getD, List.getElem?_append_right (by rw [List.length_dropLast]; omega), List.getElem?_map, List.length_dropLast, show k - (x.length - 1) = j by omega, List.getElem?_eq_getElem hj]
  rfl

set_option maxRecDepth 100000 in
set_option maxHeartbeats 3200000 in
theorem joined_ok (a b : ByteArray) (w : World) (hl : Laid w) (x y : List Tok) (hx : lexL a.data.toList = .ok x) (hy : lexL b.data.toList = .ok y) (h4 : a.size ≤ 400) (h5 : b.size ≤ 400) :
    Calls Tryd.prog 5 #[.string a, .string b] w fun e w' => e = .returned (.bool true) ∧ Below w.heap.size w w' := by
  have HL := Lib.hid hl; clear hl
  obtain ⟨_, hta⟩ := lexL_ok hx
  obtain ⟨_, htb⟩ := lexL_ok hy
  have hj := join_of hta htb
  rw [Int.zero_add, ← Lib.size_eq a] at hj
  have hxy := lexL_of (by rw [List.length_append, List.length_cons, ← Lib.size_eq, ← Lib.size_eq]; omega) hj
  have hxn := hta.ne; have hyn := htb.ne; have hzn := hj.ne
  have hxl := hta.len; have hyl := htb.len
  rw [← Lib.size_eq] at hxl hyl
  have hx1 : 1 ≤ x.length := List.length_pos_iff.2 hxn
  have hy1 : 1 ≤ y.length := List.length_pos_iff.2 hyn
  obtain ⟨z, hz⟩ : ∃ z, x.dropLast ++ y.map (Tok.later ((a.size : Int) + 1)) = z := ⟨_, rfl⟩
  rw [hz] at hxy hzn
  have hzl : z.length = x.length - 1 + y.length := by rw [← hz, List.length_append, List.length_dropLast, List.length_map]
  have hyb := at_bounds htb
  rw [← Lib.size_eq] at hyb
  have HYB := Lib.hid hyb; clear hyb
  have hzb : ((z.length : Int) != (x.length : Int) - 1 + y.length) = false := by rw [bne_eq_false_iff_eq]; omega
  have hzll : z.length ≤ 900 := by omega
  have HZL := Lib.hid hzl
  have HTL : Hid (∀ k, k < x.length - 1 → tget z k = tget x k) := Lib.hid (fun k hk => by rw [← hz]; exact tget_left hk)
  have HTR : Hid (∀ k j, k = x.length - 1 + j → j < y.length → tget z k = (tget y j).later ((a.size : Int) + 1)) := Lib.hid (fun k j hk hj => by rw [← hz]; exact tget_right hk hj)
  have HX := Lib.hid hx; have HY := Lib.hid hy; have HXY := Lib.hid hxy
  clear hx hy hxy hta htb hj hz hzl
  have g0 : decide ((400 : Int) < a.size) = false := decide_eq_false (by omega)
  have g1 : decide ((400 : Int) < b.size) = false := decide_eq_false (by omega)
  go_enter Tryd.func5, Tryd.ntmps5
  go_wp2_with fail
  refine (lex_any _ _ HL.out).mono ?_
  rintro e w1 ⟨v, rfl, hv, hb⟩
  rw [HX.out] at hv
  obtain ⟨sv, rfl, ho⟩ := hv
  obtain ⟨ga, ca, rfl, hga, hca, hta⟩ := ho.form hxn
  have HB := Lib.hid hb; have HTA := Lib.hid hta; clear hb ho hta
  go_wp2_with fail
  refine (lex_any _ _ (HL.out.later HB.out)).mono ?_
  rintro e w2 ⟨v, rfl, hv, hb⟩
  rw [HY.out] at hv
  obtain ⟨sv, rfl, ho⟩ := hv
  obtain ⟨gb, cb, rfl, hgb, hcb, htb⟩ := ho.form hyn
  have HB2 := Lib.hid (bstep HB.out hb); have HTA2 := Lib.hid (HTA.out.later hb); have HTB := Lib.hid htb; clear hb ho htb
  go_wp2_with fail
  refine (lex_any _ _ (HL.out.later HB2.out)).mono ?_
  rintro e w3 ⟨v, rfl, hv, hb⟩
  rw [show (a ++ (⟨#[32]⟩ : ByteArray) ++ b).data.toList = a.data.toList ++ 32 :: b.data.toList by rw [data_append, data_append, List.append_assoc]; rfl, HXY.out] at hv
  obtain ⟨sv, rfl, ho⟩ := hv
  obtain ⟨gz, cz, rfl, hgz, hcz, htz⟩ := ho.form hzn
  have HB3 := Lib.hid (bstep HB2.out hb); have HTA3 := Lib.hid (HTA2.out.later hb); have HTB3 := Lib.hid (HTB.out.later hb); have HTZ := Lib.hid htz; clear hb ho htz
  go_wp2_with fail
  go_loopw [11] (fun i wr => ∃ k : Nat, i = .int .i64 k ∧ k ≤ z.length ∧ Hid (TokIs wr ga x) ∧ Hid (TokIs wr gb y) ∧ Hid (TokIs wr gz z) ∧ Hid (Below w.heap.size w wr)) (fun i _ => z.length - (intOf i).toNat)
  case atStart => exact ⟨0, rfl, Nat.zero_le _, HTA3, HTB3, HTZ, HB3⟩
  case round =>
    obtain ⟨k, rfl, hk, HTA, HTB, HTZ, HB⟩ := hrel
    by_cases hkz : k < z.length
    · have cz := HTZ.out.2 k hkz
      by_cases hkx : k < x.length - 1
      · have ca := HTA.out.2 k (by omega)
        rw [HTL.out k hkx] at cz
        obtain ⟨t, ht⟩ : ∃ t, tget x k = t := ⟨_, rfl⟩
        rw [ht] at ca cz
        have a0 := ca 0 _ rfl; have a1 := ca 1 _ rfl; have a2 := ca 2 _ rfl; have a3 := ca 3 _ rfl; have a4 := ca 4 _ rfl; have a5 := ca 5 _ rfl
        have z0 := cz 0 _ rfl; have z1 := cz 1 _ rfl; have z2 := cz 2 _ rfl; have z3 := cz 3 _ rfl; have z4 := cz 4 _ rfl; have z5 := cz 5 _ rfl
        rw [Nat.add_zero] at a0 z0
        have hgl := HTA.out.1
        clear ca cz ht
        have hki : (k : Int) < (x.length : Int) - 1 := by omega
        have hkx2 : k < x.length := by omega
        have e0 := fun o => (World.cell?_alloc_lt wr o ⟨ga, k * 6, none⟩ hgl).trans a0
        have e1 := fun o => (World.cell?_alloc_lt wr o ⟨ga, k * 6 + 1, none⟩ hgl).trans a1
        have e2 := fun o => (World.cell?_alloc_lt wr o ⟨ga, k * 6 + 2, none⟩ hgl).trans a2
        have e3 := fun o => (World.cell?_alloc_lt wr o ⟨ga, k * 6 + 3, none⟩ hgl).trans a3
        have e4 := fun o => (World.cell?_alloc_lt wr o ⟨ga, k * 6 + 4, none⟩ hgl).trans a4
        have e5 := fun o => (World.cell?_alloc_lt wr o ⟨ga, k * 6 + 5, none⟩ hgl).trans a5
        clear a0 a1 a2 a3 a4 a5
        go_wp2_with fail
        go_quiet (fail)
        go_wp2_with fail
        go_roundw
        case rel =>
          refine ⟨k + 1, by go_num, by omega, Lib.hid (TokIs.later HTA.out ?_), Lib.hid (TokIs.later HTB.out ?_), Lib.hid (TokIs.later HTZ.out ?_), Lib.hid (b_drewN (b_alloc HB.out _) _)⟩
          · exact b_drewN (b_alloc (Below.refl _ _) _) _
          · exact b_drewN (b_alloc (Below.refl _ _) _) _
          · exact b_drewN (b_alloc (Below.refl _ _) _) _
        case measure => simp [intOf]; omega
      · obtain ⟨j, hj⟩ : ∃ j, k = x.length - 1 + j := ⟨k - (x.length - 1), by omega⟩
        have hjy : j < y.length := by have := HZL.out; omega
        have cy := HTB.out.2 j hjy
        have hub := HYB.out _ (tget_mem hjy)
        rw [HTR.out k j hj hjy] at cz
        obtain ⟨u, hu⟩ : ∃ u, tget y j = u := ⟨_, rfl⟩
        rw [hu] at cy cz hub
        rw [show u.later ((a.size : Int) + 1) = ⟨u.k, u.t, u.vk, u.vn, u.vs, u.at_ + a.size + 1⟩ by unfold Tok.later Tok.at; rw [Int.add_assoc]] at cz
        obtain ⟨hu0, hu1⟩ := hub
        have b0 := cy 0 _ rfl; have b1 := cy 1 _ rfl; have b2 := cy 2 _ rfl; have b3 := cy 3 _ rfl; have b4 := cy 4 _ rfl; have b5 := cy 5 _ rfl
        have z0 := cz 0 _ rfl; have z1 := cz 1 _ rfl; have z2 := cz 2 _ rfl; have z3 := cz 3 _ rfl; have z4 := cz 4 _ rfl; have z5 := cz 5 _ rfl
        rw [Nat.add_zero] at b0 z0
        dsimp only at z0 z1 z2 z3 z4 z5
        have hgl := HTB.out.1
        clear cy cz hu
        have hki : ¬ (k : Int) < (x.length : Int) - 1 := by omega
        have hidx : (k : Int) - (x.length : Int) + 1 = (j : Int) := by omega
        clear hj
        have e0 := fun o => (World.cell?_alloc_lt wr o ⟨gb, j * 6, none⟩ hgl).trans b0
        have e1 := fun o => (World.cell?_alloc_lt wr o ⟨gb, j * 6 + 1, none⟩ hgl).trans b1
        have e2 := fun o => (World.cell?_alloc_lt wr o ⟨gb, j * 6 + 2, none⟩ hgl).trans b2
        have e3 := fun o => (World.cell?_alloc_lt wr o ⟨gb, j * 6 + 3, none⟩ hgl).trans b3
        have e4 := fun o => (World.cell?_alloc_lt wr o ⟨gb, j * 6 + 4, none⟩ hgl).trans b4
        have e5 := fun o => (World.cell?_alloc_lt wr o ⟨gb, j * 6 + 5, none⟩ hgl).trans b5
        clear b0 b1 b2 b3 b4 b5
        go_wp2_with fail
        go_roundw
        case rel =>
          refine ⟨k + 1, by go_num, by omega, Lib.hid (TokIs.later HTA.out ?_), Lib.hid (TokIs.later HTB.out ?_), Lib.hid (TokIs.later HTZ.out ?_), Lib.hid (b_alloc (b_alloc HB.out _) _)⟩
          · exact b_alloc (b_alloc (Below.refl _ _) _) _
          · exact b_alloc (b_alloc (Below.refl _ _) _) _
          · exact b_alloc (b_alloc (Below.refl _ _) _) _
        case measure => simp [intOf]; omega
    · have hge : z.length ≤ k := by omega
      go_wp2_with fail
      refine (alive16 _ (HL.out.later HB.out)).mono ?_
      rintro e w4 ⟨rfl, hb⟩
      have HB4 := Lib.hid (bstep HB.out hb)
      clear hb
      go_wp2_with fail
      go_ret
      exact ⟨rfl, HB4.out⟩

theorem joined_any (a b : ByteArray) (w : World) (hl : Laid w) : Calls Tryd.prog 5 #[.string a, .string b] w fun e w' => e = .returned (.bool true) ∧ Below w.heap.size w w' := by
  cases hx : lexL a.data.toList with
  | bad p => exact joined_out a b w hl (.inl ⟨p, hx⟩)
  | ok x =>
    cases hy : lexL b.data.toList with
    | bad p => exact joined_out a b w hl (.inr (.inl ⟨x, p, hx, hy⟩))
    | ok y =>
      by_cases h4 : (400 : Int) < a.size
      · exact joined_out a b w hl (.inr (.inr ⟨x, y, hx, hy, .inl h4⟩))
      · by_cases h5 : (400 : Int) < b.size
        · exact joined_out a b w hl (.inr (.inr ⟨x, y, hx, hy, .inr ⟨h4, h5⟩⟩))
        · exact joined_ok a b w hl x y hx hy (by omega) (by omega)

end Go.Proofs.YtodhdbikbdlcaaaDoor
