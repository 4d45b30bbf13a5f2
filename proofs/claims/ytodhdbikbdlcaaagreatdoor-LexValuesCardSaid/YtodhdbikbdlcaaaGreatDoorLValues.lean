/-
  LexValues answers true.
-/
import Derived.Test.YtodhdbikbdlcaaaGreatDoorPureVal
import Derived.Test.YtodhdbikbdlcaaaGreatDoorLexAlive
import Derived.Test.YtodhdbikbdlcaaaGreatDoorFaultA
namespace Go.Proofs.YtodhdbikbdlcaaaGreatDoor
set_option linter.unusedSimpArgs false
set_option linter.unusedVariables false
open Go.RowKit

theorem ba_of_listv {a b : ByteArray} (h : a.data.toList = b.data.toList) : a = b := by
  cases a; cases b; congr 1; exact Array.toList_inj.1 h
theorem ba_listr {l : List UInt8} {r : ByteArray} (h : r.data.toList = l) : (⟨l.toArray⟩ : ByteArray) = r := ba_of_listv (by simp [h])

set_option maxRecDepth 100000 in
set_option maxHeartbeats 1600000 in
theorem values_out (k n : Int) (s more : ByteArray) (w : World) (hl : Laid w) (h0 : -9223372036854775808 ≤ n) (h1 : n ≤ 9223372036854775807)
    (h : (400 : Int) < more.size ∨ (¬ (400 : Int) < more.size ∧ rightB k n s = false) ∨ (¬ (400 : Int) < more.size ∧ rightB k n s = true ∧ k < 2) ∨ (¬ (400 : Int) < more.size ∧ rightB k n s = true ∧ ¬ k < 2 ∧ n < 0)) :
    Calls Tryz.prog 3 #[.agg #[.int .i64 k, .int .i64 n, .string s], .string more] w fun e w' => e = .returned (.bool true) ∧ Below w.heap.size w w' := by
  have HL := Lib.hid hl; clear hl
  rcases h with h | ⟨h, hr⟩ | ⟨h, hr, hk⟩ | ⟨h, hr, hk, hn⟩
  · go_enter Tryz.func3, Tryz.ntmps3
    go_wp2_with fail
    refine (text_any _ _ _ _ (HL.out.later (b_alloc (Below.refl _ _) _)) h0 h1).mono ?_
    rintro e w1 ⟨v, rfl, ⟨r, rfl, _⟩, hb⟩
    have HB1 := Lib.hid (bstep (b_alloc (Below.refl _ _) _) hb); clear hb
    go_wp2_with fail
    refine (alive16 _ (HL.out.later HB1.out)).mono ?_
    rintro e w2 ⟨rfl, hb⟩
    have HB2 := Lib.hid (bstep HB1.out hb); clear hb
    go_wp2_with fail
    go_ret
    exact ⟨rfl, HB2.out⟩
  · have HR := Lib.hid hr; clear hr
    go_enter Tryz.func3, Tryz.ntmps3
    go_wp2_with fail
    refine (text_any _ _ _ _ (HL.out.later (b_alloc (Below.refl _ _) _)) h0 h1).mono ?_
    rintro e w1 ⟨v, rfl, ⟨r, rfl, _⟩, hb⟩
    have Y0 : Hid (w1.cell? ⟨w.heap.size, 0, none⟩ = some (.int .i64 k)) := Lib.hid ((hb.cell (p := ⟨w.heap.size, 0, none⟩) (by simp)).trans (by simp [go_sem]))
    have Y1 : Hid (w1.cell? ⟨w.heap.size, 1, none⟩ = some (.int .i64 n)) := Lib.hid ((hb.cell (p := ⟨w.heap.size, 1, none⟩) (by simp)).trans (by simp [go_sem]))
    have Y2 : Hid (w1.cell? ⟨w.heap.size, 2, none⟩ = some (.string s)) := Lib.hid ((hb.cell (p := ⟨w.heap.size, 2, none⟩) (by simp)).trans (by simp [go_sem]))
    have HB1 := Lib.hid (bstep (b_alloc (Below.refl _ _) _) hb)
    have HZ1 : w.heap.size < w1.heap.size := by have h := hb.size; simp only [World.size_alloc] at h; omega
    clear hb
    have c0 := Y0.out; have c1 := Y1.out; have c2 := Y2.out
    go_wp2_with fail
    refine (right_any _ _ _ _).mono ?_
    rintro e w2 ⟨rfl, hb⟩
    rw [HR.out]
    clear c0 c1 c2
    replace Y0 : Hid (w2.cell? ⟨w.heap.size, 0, none⟩ = some (.int .i64 k)) := Lib.hid ((hb.cell (p := ⟨w.heap.size, 0, none⟩) HZ1).trans Y0.out)
    replace Y1 : Hid (w2.cell? ⟨w.heap.size, 1, none⟩ = some (.int .i64 n)) := Lib.hid ((hb.cell (p := ⟨w.heap.size, 1, none⟩) HZ1).trans Y1.out)
    replace Y2 : Hid (w2.cell? ⟨w.heap.size, 2, none⟩ = some (.string s)) := Lib.hid ((hb.cell (p := ⟨w.heap.size, 2, none⟩) HZ1).trans Y2.out)
    have HB2 := Lib.hid (bstep HB1.out hb)
    have HZ2 : w.heap.size < w2.heap.size := Nat.lt_of_lt_of_le HZ1 hb.size
    clear hb
    have c0 := Y0.out; have c1 := Y1.out; have c2 := Y2.out
    go_wp2_with fail
    refine (alive16 _ (HL.out.later HB2.out)).mono ?_
    rintro e w3 ⟨rfl, hb⟩
    have HB3 := Lib.hid (bstep HB2.out hb); clear hb
    go_wp2_with fail
    go_ret
    exact ⟨rfl, HB3.out⟩
  · have HR := Lib.hid hr; clear hr
    go_enter Tryz.func3, Tryz.ntmps3
    go_wp2_with fail
    refine (text_any _ _ _ _ (HL.out.later (b_alloc (Below.refl _ _) _)) h0 h1).mono ?_
    rintro e w1 ⟨v, rfl, ⟨r, rfl, _⟩, hb⟩
    have Y0 : Hid (w1.cell? ⟨w.heap.size, 0, none⟩ = some (.int .i64 k)) := Lib.hid ((hb.cell (p := ⟨w.heap.size, 0, none⟩) (by simp)).trans (by simp [go_sem]))
    have Y1 : Hid (w1.cell? ⟨w.heap.size, 1, none⟩ = some (.int .i64 n)) := Lib.hid ((hb.cell (p := ⟨w.heap.size, 1, none⟩) (by simp)).trans (by simp [go_sem]))
    have Y2 : Hid (w1.cell? ⟨w.heap.size, 2, none⟩ = some (.string s)) := Lib.hid ((hb.cell (p := ⟨w.heap.size, 2, none⟩) (by simp)).trans (by simp [go_sem]))
    have HB1 := Lib.hid (bstep (b_alloc (Below.refl _ _) _) hb)
    have HZ1 : w.heap.size < w1.heap.size := by have h := hb.size; simp only [World.size_alloc] at h; omega
    clear hb
    have c0 := Y0.out; have c1 := Y1.out; have c2 := Y2.out
    go_wp2_with fail
    refine (right_any _ _ _ _).mono ?_
    rintro e w2 ⟨rfl, hb⟩
    rw [HR.out]
    clear c0 c1 c2
    replace Y0 : Hid (w2.cell? ⟨w.heap.size, 0, none⟩ = some (.int .i64 k)) := Lib.hid ((hb.cell (p := ⟨w.heap.size, 0, none⟩) HZ1).trans Y0.out)
    replace Y1 : Hid (w2.cell? ⟨w.heap.size, 1, none⟩ = some (.int .i64 n)) := Lib.hid ((hb.cell (p := ⟨w.heap.size, 1, none⟩) HZ1).trans Y1.out)
    replace Y2 : Hid (w2.cell? ⟨w.heap.size, 2, none⟩ = some (.string s)) := Lib.hid ((hb.cell (p := ⟨w.heap.size, 2, none⟩) HZ1).trans Y2.out)
    have HB2 := Lib.hid (bstep HB1.out hb)
    have HZ2 : w.heap.size < w2.heap.size := Nat.lt_of_lt_of_le HZ1 hb.size
    clear hb
    have c0 := Y0.out; have c1 := Y1.out; have c2 := Y2.out
    go_wp2_with fail
    refine (alive16 _ (HL.out.later HB2.out)).mono ?_
    rintro e w3 ⟨rfl, hb⟩
    have HB3 := Lib.hid (bstep HB2.out hb); clear hb
    go_wp2_with fail
    go_ret
    exact ⟨rfl, HB3.out⟩
  · have HR := Lib.hid hr; clear hr
    go_enter Tryz.func3, Tryz.ntmps3
    go_wp2_with fail
    refine (text_any _ _ _ _ (HL.out.later (b_alloc (Below.refl _ _) _)) h0 h1).mono ?_
    rintro e w1 ⟨v, rfl, ⟨r, rfl, _⟩, hb⟩
    have Y0 : Hid (w1.cell? ⟨w.heap.size, 0, none⟩ = some (.int .i64 k)) := Lib.hid ((hb.cell (p := ⟨w.heap.size, 0, none⟩) (by simp)).trans (by simp [go_sem]))
    have Y1 : Hid (w1.cell? ⟨w.heap.size, 1, none⟩ = some (.int .i64 n)) := Lib.hid ((hb.cell (p := ⟨w.heap.size, 1, none⟩) (by simp)).trans (by simp [go_sem]))
    have Y2 : Hid (w1.cell? ⟨w.heap.size, 2, none⟩ = some (.string s)) := Lib.hid ((hb.cell (p := ⟨w.heap.size, 2, none⟩) (by simp)).trans (by simp [go_sem]))
    have HB1 := Lib.hid (bstep (b_alloc (Below.refl _ _) _) hb)
    have HZ1 : w.heap.size < w1.heap.size := by have h := hb.size; simp only [World.size_alloc] at h; omega
    clear hb
    have c0 := Y0.out; have c1 := Y1.out; have c2 := Y2.out
    go_wp2_with fail
    refine (right_any _ _ _ _).mono ?_
    rintro e w2 ⟨rfl, hb⟩
    rw [HR.out]
    clear c0 c1 c2
    replace Y0 : Hid (w2.cell? ⟨w.heap.size, 0, none⟩ = some (.int .i64 k)) := Lib.hid ((hb.cell (p := ⟨w.heap.size, 0, none⟩) HZ1).trans Y0.out)
    replace Y1 : Hid (w2.cell? ⟨w.heap.size, 1, none⟩ = some (.int .i64 n)) := Lib.hid ((hb.cell (p := ⟨w.heap.size, 1, none⟩) HZ1).trans Y1.out)
    replace Y2 : Hid (w2.cell? ⟨w.heap.size, 2, none⟩ = some (.string s)) := Lib.hid ((hb.cell (p := ⟨w.heap.size, 2, none⟩) HZ1).trans Y2.out)
    have HB2 := Lib.hid (bstep HB1.out hb)
    have HZ2 : w.heap.size < w2.heap.size := Nat.lt_of_lt_of_le HZ1 hb.size
    clear hb
    have c0 := Y0.out; have c1 := Y1.out; have c2 := Y2.out
    go_wp2_with fail
    refine (alive16 _ (HL.out.later HB2.out)).mono ?_
    rintro e w3 ⟨rfl, hb⟩
    have HB3 := Lib.hid (bstep HB2.out hb); clear hb
    go_wp2_with fail
    go_ret
    exact ⟨rfl, HB3.out⟩

set_option maxRecDepth 100000 in
set_option maxHeartbeats 3200000 in
theorem values_main (k n : Int) (s more : ByteArray) (w : World) (hl : Laid w) (h0 : -9223372036854775808 ≤ n) (h1 : n ≤ 9223372036854775807)
    (hm : ¬ (400 : Int) < more.size) (hr : rightB k n s = true) (hk : ¬ k < 2) (hn : ¬ n < 0) :
    Calls Tryz.prog 3 #[.agg #[.int .i64 k, .int .i64 n, .string s], .string more] w fun e w' => e = .returned (.bool true) ∧ Below w.heap.size w w' := by
  have HL := Lib.hid hl; clear hl
  obtain ⟨tk, hnx, hbl, hne, hlen⟩ := val_next hr (by omega) (by omega) h1
  have hlx := val_lex hnx hbl hne (by omega)
  have hmo := val_more (m := more.data.toList) hnx hbl hne
  have hpos := List.length_pos_iff.2 hne
  have HLX := Lib.hid hlx; have HMO := Lib.hid hmo
  clear hnx hbl hne hlx hmo
  have HR := Lib.hid hr; clear hr
  go_enter Tryz.func3, Tryz.ntmps3
  go_wp2_with fail
  refine (text_any _ _ _ _ (HL.out.later (b_alloc (Below.refl _ _) _)) h0 h1).mono ?_
  rintro e w1 ⟨v, rfl, ⟨r, rfl, ht⟩, hb⟩
  have Y0 : Hid (w1.cell? ⟨w.heap.size, 0, none⟩ = some (.int .i64 k)) := Lib.hid ((hb.cell (p := ⟨w.heap.size, 0, none⟩) (by simp)).trans (by simp [go_sem]))
  have Y1 : Hid (w1.cell? ⟨w.heap.size, 1, none⟩ = some (.int .i64 n)) := Lib.hid ((hb.cell (p := ⟨w.heap.size, 1, none⟩) (by simp)).trans (by simp [go_sem]))
  have Y2 : Hid (w1.cell? ⟨w.heap.size, 2, none⟩ = some (.string s)) := Lib.hid ((hb.cell (p := ⟨w.heap.size, 2, none⟩) (by simp)).trans (by simp [go_sem]))
  have HB1 := Lib.hid (bstep (b_alloc (Below.refl _ _) _) hb)
  have HZ1 : w.heap.size < w1.heap.size := by have h := hb.size; simp only [World.size_alloc] at h; omega
  clear hb
  have hrl := ba_listr ht
  have hrz : r.size = (textL k n s).length := by rw [Lib.size_eq, ht]
  have hre : (⟨s.data.toList.toArray⟩ : ByteArray) = s := ba_listr rfl
  have HT := Lib.hid ht; clear ht
  have c0 := Y0.out; have c1 := Y1.out; have c2 := Y2.out
  go_wp2_with fail
  refine (right_any _ _ _ _).mono ?_
  rintro e w2 ⟨rfl, hb⟩
  rw [HR.out]
  clear c0 c1 c2
  replace Y0 : Hid (w2.cell? ⟨w.heap.size, 0, none⟩ = some (.int .i64 k)) := Lib.hid ((hb.cell (p := ⟨w.heap.size, 0, none⟩) HZ1).trans Y0.out)
  replace Y1 : Hid (w2.cell? ⟨w.heap.size, 1, none⟩ = some (.int .i64 n)) := Lib.hid ((hb.cell (p := ⟨w.heap.size, 1, none⟩) HZ1).trans Y1.out)
  replace Y2 : Hid (w2.cell? ⟨w.heap.size, 2, none⟩ = some (.string s)) := Lib.hid ((hb.cell (p := ⟨w.heap.size, 2, none⟩) HZ1).trans Y2.out)
  have HB2 := Lib.hid (bstep HB1.out hb)
  have HZ2 : w.heap.size < w2.heap.size := Nat.lt_of_lt_of_le HZ1 hb.size
  clear hb
  have c0 := Y0.out; have c1 := Y1.out; have c2 := Y2.out
  go_wp2_with fail
  refine (lex_any _ _ (HL.out.later HB2.out)).mono ?_
  rintro e w3 ⟨v, rfl, hv, hb⟩
  rw [HT.out, HLX.out] at hv
  clear c0 c1 c2
  replace Y0 : Hid (w3.cell? ⟨w.heap.size, 0, none⟩ = some (.int .i64 k)) := Lib.hid ((hb.cell (p := ⟨w.heap.size, 0, none⟩) HZ2).trans Y0.out)
  replace Y1 : Hid (w3.cell? ⟨w.heap.size, 1, none⟩ = some (.int .i64 n)) := Lib.hid ((hb.cell (p := ⟨w.heap.size, 1, none⟩) HZ2).trans Y1.out)
  replace Y2 : Hid (w3.cell? ⟨w.heap.size, 2, none⟩ = some (.string s)) := Lib.hid ((hb.cell (p := ⟨w.heap.size, 2, none⟩) HZ2).trans Y2.out)
  have HB3 := Lib.hid (bstep HB2.out hb)
  have HZ3 : w.heap.size < w3.heap.size := Nat.lt_of_lt_of_le HZ2 hb.size
  obtain ⟨sv, rfl, ho⟩ := hv
  obtain ⟨ga, ca, rfl, hga, hca, hgl, hta⟩ := ho.form (by simp)
  have d1 := hta 0 (by simp) 1 _ rfl
  have d2 := hta 0 (by simp) 2 _ rfl
  have d3 := hta 0 (by simp) 3 _ rfl
  have d4 : w3.cell? ⟨ga, 4, none⟩ = some (.string s) := by have h := hta 0 (by simp) 4 _ rfl; simpa [tget, valTok] using h
  have d5 := hta 0 (by simp) 5 _ rfl
  clear hb ho hta
  simp only [tget, List.getD_cons_zero, valTok, Nat.zero_mul, Nat.zero_add, List.length_cons, List.length_nil, hrl, hre] at d1 d2 d3 d5 hca ⊢
  have c0 := Y0.out; have c1 := Y1.out; have c2 := Y2.out
  clear hre hrl
  go_wp2_with fail
  go_quiet (fail)
  clear c0 c1 c2 d1 d2 d3 d4 d5
  go_wp2_with fail
  refine (lex_any _ _ (HL.out.later (b_drewN HB3.out _))).mono ?_
  rintro e w4 ⟨v, rfl, hv, hb⟩
  rw [show (r ++ (⟨#[32]⟩ : ByteArray) ++ more).data.toList = textL k n s ++ 32 :: more.data.toList by rw [data_append, data_append, List.append_assoc, HT.out]; rfl] at hv
  have hb2 : Below w3.heap.size w3 w4 := b_drewN_l hb
  clear hb
  have hb := hb2
  clear hb2
  replace Y0 : Hid (w4.cell? ⟨w.heap.size, 0, none⟩ = some (.int .i64 k)) := Lib.hid ((hb.cell (p := ⟨w.heap.size, 0, none⟩) HZ3).trans Y0.out)
  replace Y1 : Hid (w4.cell? ⟨w.heap.size, 1, none⟩ = some (.int .i64 n)) := Lib.hid ((hb.cell (p := ⟨w.heap.size, 1, none⟩) HZ3).trans Y1.out)
  replace Y2 : Hid (w4.cell? ⟨w.heap.size, 2, none⟩ = some (.string s)) := Lib.hid ((hb.cell (p := ⟨w.heap.size, 2, none⟩) HZ3).trans Y2.out)
  have HB4 := Lib.hid (bstep HB3.out hb)
  have HZ4 : w.heap.size < w4.heap.size := Nat.lt_of_lt_of_le HZ3 hb.size
  clear hb
  rw [← hrz] at hlen hpos
  have HM2 := HMO.out
  clear HMO
  rw [← hrz, ← Lib.size_eq] at HM2
  rcases HM2 with ⟨hx, hlong⟩ | ⟨p, hx, hp⟩ | ⟨x, hx, hxn⟩
  · rw [hx] at hv
    obtain ⟨ev, rfl, he⟩ := hv
    obtain ⟨bb, rfl⟩ := he.open
    have HE := Lib.hid he
    clear hx he
    go_wp2_with fail
    refine (alive16 _ (HL.out.later HB4.out)).mono ?_
    rintro e w5 ⟨rfl, hb⟩
    have HE5 := Lib.hid (HE.out.later hb)
    have HB5 := Lib.hid (bstep HB4.out hb); clear hb
    go_wp2_with fail
    refine (at_any _ _ _ (HL.out.later HB5.out) HE5.out).mono ?_
    rintro e w6 ⟨rfl, hb⟩
    have HB6 := Lib.hid (bstep HB5.out hb); clear hb
    simp only [atE]
    go_wp2_with fail
    all_goals go_ret
    all_goals refine ⟨ret_bool ?_, HB6.out⟩
    all_goals simp
    all_goals omega
  · rw [hx] at hv
    obtain ⟨ev, rfl, he⟩ := hv
    obtain ⟨bb, rfl⟩ := he.open
    have HE := Lib.hid he
    clear hx he
    go_wp2_with fail
    refine (alive16 _ (HL.out.later HB4.out)).mono ?_
    rintro e w5 ⟨rfl, hb⟩
    have HE5 := Lib.hid (HE.out.later hb)
    have HB5 := Lib.hid (bstep HB4.out hb); clear hb
    go_wp2_with fail
    refine (at_any _ _ _ (HL.out.later HB5.out) HE5.out).mono ?_
    rintro e w6 ⟨rfl, hb⟩
    have HB6 := Lib.hid (bstep HB5.out hb); clear hb
    simp only [atE]
    go_wp2_with fail
    all_goals go_ret
    all_goals refine ⟨ret_bool ?_, HB6.out⟩
    all_goals simp
    all_goals omega
  · rw [hx] at hv
    obtain ⟨sv, rfl, ho⟩ := hv
    obtain ⟨gb, cb, rfl, hgb, hcb, hgl2, htb⟩ := ho.form (by simp)
    have hxl := List.length_pos_iff.2 hxn
    have d2 := htb 0 (by simp) 2 _ rfl
    have d3 := htb 0 (by simp) 3 _ rfl
    have d4 : w4.cell? ⟨gb, 4, none⟩ = some (.string s) := by have h := htb 0 (by simp) 4 _ rfl; simpa [tget, valTok] using h
    clear ho htb hx hxn
    simp only [tget, List.getD_cons_zero, valTok, Nat.zero_mul, Nat.zero_add, List.length_cons] at d2 d3 hcb ⊢
    have hgw : w.heap.size < gb := by simp at hgb; omega
    have c0 := Y0.out; have c1 := Y1.out; have c2 := Y2.out
    go_wp2_with fail
    have h1a : decide ((1 : Int) < ((x.length + 1 : Nat) : Int)) = true := decide_eq_true (by omega)
    have h1b : decide ((1 : Int) < (x.length : Int) + 1) = true := decide_eq_true (by omega)
    have CD : Hid (Below w.heap.size w w4.drew) := Lib.hid HB4.out.drew
    go_region_held3 (fun w' => w'.cell? ⟨w.heap.size, 0, none⟩ = some (.int .i64 k) ∧ w'.cell? ⟨w.heap.size, 1, none⟩ = some (.int .i64 n) ∧ w'.cell? ⟨w.heap.size, 2, none⟩ = some (.string s) ∧ w'.cell? ⟨gb, 2, none⟩ = some (.int .i64 k) ∧ w'.cell? ⟨gb, 3, none⟩ = some (.int .i64 n) ∧ w'.cell? ⟨gb, 4, none⟩ = some (.string s) ∧ gb < w'.heap.size ∧ Hid (Below w.heap.size w w')) (first | go_keep | assumption | (go_split_ands; (repeat' (with_reducible apply And.intro)); all_goals assumption) | (go_split_ands; refine ⟨?_, ?_, ?_, ?_, ?_, ?_, ?_, ?_⟩; (rw [hb.cell (p := ⟨w.heap.size, 0, none⟩) (by simp; omega)]; assumption); (rw [hb.cell (p := ⟨w.heap.size, 1, none⟩) (by simp; omega)]; assumption); (rw [hb.cell (p := ⟨w.heap.size, 2, none⟩) (by simp; omega)]; assumption); (rw [hb.cell (p := ⟨gb, 2, none⟩) (by simp; omega)]; assumption); (rw [hb.cell (p := ⟨gb, 3, none⟩) (by simp; omega)]; assumption); (rw [hb.cell (p := ⟨gb, 4, none⟩) (by simp; omega)]; assumption); (have := hb.size; omega); exact Lib.hid (bstep (Hid.out (by assumption)) hb))) (first | (go_at_call 6; go_split_ands; refine (alive16 _ (HL.out.later (Hid.out (by assumption)))).mono ?_; rintro e u1 ⟨rfl, hb⟩))
    go_split_ands
    have HB5 : Hid (Below w.heap.size w u1) := by assumption
    go_wp2_with fail
    go_ret
    exact ⟨rfl, HB5.out⟩

theorem values_any (k n : Int) (s more : ByteArray) (w : World) (hl : Laid w) (h0 : -9223372036854775808 ≤ n) (h1 : n ≤ 9223372036854775807) :
    Calls Tryz.prog 3 #[.agg #[.int .i64 k, .int .i64 n, .string s], .string more] w fun e w' => e = .returned (.bool true) ∧ Below w.heap.size w w' := by
  by_cases h : (400 : Int) < more.size
  · exact values_out k n s more w hl h0 h1 (.inl h)
  · cases hr : rightB k n s
    · exact values_out k n s more w hl h0 h1 (.inr (.inl ⟨h, hr⟩))
    · by_cases hk : k < 2
      · exact values_out k n s more w hl h0 h1 (.inr (.inr (.inl ⟨h, hr, hk⟩)))
      · by_cases hn : n < 0
        · exact values_out k n s more w hl h0 h1 (.inr (.inr (.inr ⟨h, hr, hk, hn⟩)))
        · exact values_main k n s more w hl h0 h1 h hr hk hn

end Go.Proofs.YtodhdbikbdlcaaaGreatDoor
