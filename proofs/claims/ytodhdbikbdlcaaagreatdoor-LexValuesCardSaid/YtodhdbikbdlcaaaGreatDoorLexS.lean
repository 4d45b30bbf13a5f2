/-
  Bytes, whatever stands there; a sign.
-/
import Derived.Test.YtodhdbikbdlcaaaGreatDoorLexR
namespace Go.Proofs.YtodhdbikbdlcaaaGreatDoor
set_option linter.unusedSimpArgs false
set_option linter.unusedVariables false
open Go.RowKit

set_option maxRecDepth 100000 in
theorem raw_no (s : ByteArray) (w : World) (hs : s.size ≤ 1000) (h2 : 2 ≤ s.size) (h : quotedL (s.data.toList.drop 2) = none ∨ ∃ o n, quotedL (s.data.toList.drop 2) = some (o, n) ∧ (o.length % 2 = 1 ∨ (¬ o.length % 2 = 1 ∧ 400 < o.length))) :
    Calls Tryz.prog 28 #[.string s] w (RT w (rawT s.data.toList)) := by
  have h1 : (1 : Int) ≤ s.size := by omega
  have h1' : 1 ≤ s.size := by omega
  rcases h with hq | ⟨o, n, hq, ho | ⟨ho, h4⟩⟩
  · have HT : Hid (rawT s.data.toList = Tok.no) := Lib.hid (by unfold rawT; rw [hq])
    have HQ : Hid (quoR [] 1 (((s.extract 1 s.size).data.toList).drop 1) = ([], 0)) := Lib.hid (by
      rw [Lib.extract_to_end, List.drop_drop]; unfold quoR; rw [hq])
    clear hq
    go_enter Tryz.func28, Tryz.ntmps28
    go_wp2_with (go_at_call 48; refine (quoted_any _ _ (by rw [ByteArray.size_extract]; omega)).mono ?_; rintro e w1 ⟨v, rfl, hv, hb⟩; rw [HQ.out] at hv; subst hv; have hz := hb.size; (try simp only [World.size_alloc, World.size_setCell, World.size_drew] at hz); (try (have z0 : w.heap.size < w1.heap.size := (by omega); have y0 := fun o => hb.cell (p := ⟨w.heap.size, o, none⟩) (by (try simp only [World.size_alloc, World.size_setCell, World.size_drew]); omega); have x0 := fun o => hb.frozen (p := ⟨w.heap.size, o, none⟩) (by (try simp only [World.size_alloc, World.size_setCell, World.size_drew]); omega); have q0 := tag_below hb (w.heap.size) (by (try simp only [World.size_alloc, World.size_setCell, World.size_drew]); omega); (try simp [go_sem] at y0); (try simp [go_sem] at x0); (try simp [tag_alloc, tag_set, tag_drew, tagObj] at q0))); (try (have z1 : w.heap.size + 1 < w1.heap.size := (by omega); have y1 := fun o => hb.cell (p := ⟨w.heap.size + 1, o, none⟩) (by (try simp only [World.size_alloc, World.size_setCell, World.size_drew]); omega); have x1 := fun o => hb.frozen (p := ⟨w.heap.size + 1, o, none⟩) (by (try simp only [World.size_alloc, World.size_setCell, World.size_drew]); omega); have q1 := tag_below hb (w.heap.size + 1) (by (try simp only [World.size_alloc, World.size_setCell, World.size_drew]); omega); (try simp [go_sem] at y1); (try simp [go_sem] at x1); (try simp [tag_alloc, tag_set, tag_drew, tagObj] at q1))); (try (have z2 : w.heap.size + 1 + 1 < w1.heap.size := (by omega); have y2 := fun o => hb.cell (p := ⟨w.heap.size + 1 + 1, o, none⟩) (by (try simp only [World.size_alloc, World.size_setCell, World.size_drew]); omega); have x2 := fun o => hb.frozen (p := ⟨w.heap.size + 1 + 1, o, none⟩) (by (try simp only [World.size_alloc, World.size_setCell, World.size_drew]); omega); have q2 := tag_below hb (w.heap.size + 1 + 1) (by (try simp only [World.size_alloc, World.size_setCell, World.size_drew]); omega); (try simp [go_sem] at y2); (try simp [go_sem] at x2); (try simp [tag_alloc, tag_set, tag_drew, tagObj] at q2))); (try (have z3 : w.heap.size + 1 + 1 + 1 < w1.heap.size := (by omega); have y3 := fun o => hb.cell (p := ⟨w.heap.size + 1 + 1 + 1, o, none⟩) (by (try simp only [World.size_alloc, World.size_setCell, World.size_drew]); omega); have x3 := fun o => hb.frozen (p := ⟨w.heap.size + 1 + 1 + 1, o, none⟩) (by (try simp only [World.size_alloc, World.size_setCell, World.size_drew]); omega); have q3 := tag_below hb (w.heap.size + 1 + 1 + 1) (by (try simp only [World.size_alloc, World.size_setCell, World.size_drew]); omega); (try simp [go_sem] at y3); (try simp [go_sem] at x3); (try simp [tag_alloc, tag_set, tag_drew, tagObj] at q3))); (try (have z4 : w.heap.size + 1 + 1 + 1 + 1 < w1.heap.size := (by omega); have y4 := fun o => hb.cell (p := ⟨w.heap.size + 1 + 1 + 1 + 1, o, none⟩) (by (try simp only [World.size_alloc, World.size_setCell, World.size_drew]); omega); have x4 := fun o => hb.frozen (p := ⟨w.heap.size + 1 + 1 + 1 + 1, o, none⟩) (by (try simp only [World.size_alloc, World.size_setCell, World.size_drew]); omega); have q4 := tag_below hb (w.heap.size + 1 + 1 + 1 + 1) (by (try simp only [World.size_alloc, World.size_setCell, World.size_drew]); omega); (try simp [go_sem] at y4); (try simp [go_sem] at x4); (try simp [tag_alloc, tag_set, tag_drew, tagObj] at q4))); (try (have z5 : w.heap.size + 1 + 1 + 1 + 1 + 1 < w1.heap.size := (by omega); have y5 := fun o => hb.cell (p := ⟨w.heap.size + 1 + 1 + 1 + 1 + 1, o, none⟩) (by (try simp only [World.size_alloc, World.size_setCell, World.size_drew]); omega); have x5 := fun o => hb.frozen (p := ⟨w.heap.size + 1 + 1 + 1 + 1 + 1, o, none⟩) (by (try simp only [World.size_alloc, World.size_setCell, World.size_drew]); omega); have q5 := tag_below hb (w.heap.size + 1 + 1 + 1 + 1 + 1) (by (try simp only [World.size_alloc, World.size_setCell, World.size_drew]); omega); (try simp [go_sem] at y5); (try simp [go_sem] at x5); (try simp [tag_alloc, tag_set, tag_drew, tagObj] at q5))); (try (have z6 : w.heap.size + 1 + 1 + 1 + 1 + 1 + 1 < w1.heap.size := (by omega); have y6 := fun o => hb.cell (p := ⟨w.heap.size + 1 + 1 + 1 + 1 + 1 + 1, o, none⟩) (by (try simp only [World.size_alloc, World.size_setCell, World.size_drew]); omega); have x6 := fun o => hb.frozen (p := ⟨w.heap.size + 1 + 1 + 1 + 1 + 1 + 1, o, none⟩) (by (try simp only [World.size_alloc, World.size_setCell, World.size_drew]); omega); have q6 := tag_below hb (w.heap.size + 1 + 1 + 1 + 1 + 1 + 1) (by (try simp only [World.size_alloc, World.size_setCell, World.size_drew]); omega); (try simp [go_sem] at y6); (try simp [go_sem] at x6); (try simp [tag_alloc, tag_set, tag_drew, tagObj] at q6))); (try (have z7 : w.heap.size + 1 + 1 + 1 + 1 + 1 + 1 + 1 < w1.heap.size := (by omega); have y7 := fun o => hb.cell (p := ⟨w.heap.size + 1 + 1 + 1 + 1 + 1 + 1 + 1, o, none⟩) (by (try simp only [World.size_alloc, World.size_setCell, World.size_drew]); omega); have x7 := fun o => hb.frozen (p := ⟨w.heap.size + 1 + 1 + 1 + 1 + 1 + 1 + 1, o, none⟩) (by (try simp only [World.size_alloc, World.size_setCell, World.size_drew]); omega); have q7 := tag_below hb (w.heap.size + 1 + 1 + 1 + 1 + 1 + 1 + 1) (by (try simp only [World.size_alloc, World.size_setCell, World.size_drew]); omega); (try simp [go_sem] at y7); (try simp [go_sem] at x7); (try simp [tag_alloc, tag_set, tag_drew, tagObj] at q7))); obtain ⟨hc, hf⟩ := bcell hb; have ht := tag_below hb)
    rw [HT.out]
    refine fin_t (v := Tok.no.enc) rfl ?_ rfl ?_
    · ((repeat with_reducible first | exact Below.refl _ _ | apply b_alloc | apply b_drewN | apply b_drew | refine b_set ?_ ?_ _ | (refine bstep ?_ (by assumption))); (all_goals (simp; try omega)))
    · simp [results, Tryz.results28, go_sem, Tok.enc, Tok.no, *]
  all_goals
    have HT : Hid (rawT s.data.toList = Tok.no) := Lib.hid (by unfold rawT; rw [hq]; simp only; rw [if_pos (by omega)])
    have HQ : Hid (quoR [] 1 (((s.extract 1 s.size).data.toList).drop 1) = (o, 1 + n)) := Lib.hid (by
      rw [Lib.extract_to_end, List.drop_drop]; unfold quoR; rw [hq]; rfl)
    clear hq
    have hz : (((1 : Int) + (n : Nat)) == 0) = false := beq_eq_false_iff_ne.2 (by omega)
    first | (have hg2 : ((o.length : Int) % 2 == 1) = true := beq_iff_eq.2 (by omega)) | (have hg2 : ((o.length : Int) % 2 == 1) = false := beq_eq_false_iff_ne.2 (by omega); have hg : decide ((400 : Int) < o.length) = true := decide_eq_true (by omega))
    go_enter Tryz.func28, Tryz.ntmps28
    go_wp2_with (go_at_call 48; refine (quoted_any _ _ (by rw [ByteArray.size_extract]; omega)).mono ?_; rintro e w1 ⟨v, rfl, hv, hb⟩; rw [HQ.out] at hv; subst hv; have hz := hb.size; (try simp only [World.size_alloc, World.size_setCell, World.size_drew] at hz); (try (have z0 : w.heap.size < w1.heap.size := (by omega); have y0 := fun o => hb.cell (p := ⟨w.heap.size, o, none⟩) (by (try simp only [World.size_alloc, World.size_setCell, World.size_drew]); omega); have x0 := fun o => hb.frozen (p := ⟨w.heap.size, o, none⟩) (by (try simp only [World.size_alloc, World.size_setCell, World.size_drew]); omega); have q0 := tag_below hb (w.heap.size) (by (try simp only [World.size_alloc, World.size_setCell, World.size_drew]); omega); (try simp [go_sem] at y0); (try simp [go_sem] at x0); (try simp [tag_alloc, tag_set, tag_drew, tagObj] at q0))); (try (have z1 : w.heap.size + 1 < w1.heap.size := (by omega); have y1 := fun o => hb.cell (p := ⟨w.heap.size + 1, o, none⟩) (by (try simp only [World.size_alloc, World.size_setCell, World.size_drew]); omega); have x1 := fun o => hb.frozen (p := ⟨w.heap.size + 1, o, none⟩) (by (try simp only [World.size_alloc, World.size_setCell, World.size_drew]); omega); have q1 := tag_below hb (w.heap.size + 1) (by (try simp only [World.size_alloc, World.size_setCell, World.size_drew]); omega); (try simp [go_sem] at y1); (try simp [go_sem] at x1); (try simp [tag_alloc, tag_set, tag_drew, tagObj] at q1))); (try (have z2 : w.heap.size + 1 + 1 < w1.heap.size := (by omega); have y2 := fun o => hb.cell (p := ⟨w.heap.size + 1 + 1, o, none⟩) (by (try simp only [World.size_alloc, World.size_setCell, World.size_drew]); omega); have x2 := fun o => hb.frozen (p := ⟨w.heap.size + 1 + 1, o, none⟩) (by (try simp only [World.size_alloc, World.size_setCell, World.size_drew]); omega); have q2 := tag_below hb (w.heap.size + 1 + 1) (by (try simp only [World.size_alloc, World.size_setCell, World.size_drew]); omega); (try simp [go_sem] at y2); (try simp [go_sem] at x2); (try simp [tag_alloc, tag_set, tag_drew, tagObj] at q2))); (try (have z3 : w.heap.size + 1 + 1 + 1 < w1.heap.size := (by omega); have y3 := fun o => hb.cell (p := ⟨w.heap.size + 1 + 1 + 1, o, none⟩) (by (try simp only [World.size_alloc, World.size_setCell, World.size_drew]); omega); have x3 := fun o => hb.frozen (p := ⟨w.heap.size + 1 + 1 + 1, o, none⟩) (by (try simp only [World.size_alloc, World.size_setCell, World.size_drew]); omega); have q3 := tag_below hb (w.heap.size + 1 + 1 + 1) (by (try simp only [World.size_alloc, World.size_setCell, World.size_drew]); omega); (try simp [go_sem] at y3); (try simp [go_sem] at x3); (try simp [tag_alloc, tag_set, tag_drew, tagObj] at q3))); (try (have z4 : w.heap.size + 1 + 1 + 1 + 1 < w1.heap.size := (by omega); have y4 := fun o => hb.cell (p := ⟨w.heap.size + 1 + 1 + 1 + 1, o, none⟩) (by (try simp only [World.size_alloc, World.size_setCell, World.size_drew]); omega); have x4 := fun o => hb.frozen (p := ⟨w.heap.size + 1 + 1 + 1 + 1, o, none⟩) (by (try simp only [World.size_alloc, World.size_setCell, World.size_drew]); omega); have q4 := tag_below hb (w.heap.size + 1 + 1 + 1 + 1) (by (try simp only [World.size_alloc, World.size_setCell, World.size_drew]); omega); (try simp [go_sem] at y4); (try simp [go_sem] at x4); (try simp [tag_alloc, tag_set, tag_drew, tagObj] at q4))); (try (have z5 : w.heap.size + 1 + 1 + 1 + 1 + 1 < w1.heap.size := (by omega); have y5 := fun o => hb.cell (p := ⟨w.heap.size + 1 + 1 + 1 + 1 + 1, o, none⟩) (by (try simp only [World.size_alloc, World.size_setCell, World.size_drew]); omega); have x5 := fun o => hb.frozen (p := ⟨w.heap.size + 1 + 1 + 1 + 1 + 1, o, none⟩) (by (try simp only [World.size_alloc, World.size_setCell, World.size_drew]); omega); have q5 := tag_below hb (w.heap.size + 1 + 1 + 1 + 1 + 1) (by (try simp only [World.size_alloc, World.size_setCell, World.size_drew]); omega); (try simp [go_sem] at y5); (try simp [go_sem] at x5); (try simp [tag_alloc, tag_set, tag_drew, tagObj] at q5))); (try (have z6 : w.heap.size + 1 + 1 + 1 + 1 + 1 + 1 < w1.heap.size := (by omega); have y6 := fun o => hb.cell (p := ⟨w.heap.size + 1 + 1 + 1 + 1 + 1 + 1, o, none⟩) (by (try simp only [World.size_alloc, World.size_setCell, World.size_drew]); omega); have x6 := fun o => hb.frozen (p := ⟨w.heap.size + 1 + 1 + 1 + 1 + 1 + 1, o, none⟩) (by (try simp only [World.size_alloc, World.size_setCell, World.size_drew]); omega); have q6 := tag_below hb (w.heap.size + 1 + 1 + 1 + 1 + 1 + 1) (by (try simp only [World.size_alloc, World.size_setCell, World.size_drew]); omega); (try simp [go_sem] at y6); (try simp [go_sem] at x6); (try simp [tag_alloc, tag_set, tag_drew, tagObj] at q6))); (try (have z7 : w.heap.size + 1 + 1 + 1 + 1 + 1 + 1 + 1 < w1.heap.size := (by omega); have y7 := fun o => hb.cell (p := ⟨w.heap.size + 1 + 1 + 1 + 1 + 1 + 1 + 1, o, none⟩) (by (try simp only [World.size_alloc, World.size_setCell, World.size_drew]); omega); have x7 := fun o => hb.frozen (p := ⟨w.heap.size + 1 + 1 + 1 + 1 + 1 + 1 + 1, o, none⟩) (by (try simp only [World.size_alloc, World.size_setCell, World.size_drew]); omega); have q7 := tag_below hb (w.heap.size + 1 + 1 + 1 + 1 + 1 + 1 + 1) (by (try simp only [World.size_alloc, World.size_setCell, World.size_drew]); omega); (try simp [go_sem] at y7); (try simp [go_sem] at x7); (try simp [tag_alloc, tag_set, tag_drew, tagObj] at q7))); obtain ⟨hc, hf⟩ := bcell hb; have ht := tag_below hb)
    rw [HT.out]
    refine fin_t (v := Tok.no.enc) rfl ?_ rfl ?_
    · ((repeat with_reducible first | exact Below.refl _ _ | apply b_alloc | apply b_drewN | apply b_drew | refine b_set ?_ ?_ _ | (refine bstep ?_ (by assumption))); (all_goals (simp; try omega)))
    · simp [results, Tryz.results28, go_sem, Tok.enc, Tok.no, *]
theorem raw_any (s : ByteArray) (w : World) (hs : s.size ≤ 1000) (h2 : 2 ≤ s.size) : Calls Tryz.prog 28 #[.string s] w (RT w (rawT s.data.toList)) := by
  cases hq : quotedL (s.data.toList.drop 2) with
  | none => exact raw_no s w hs h2 (.inl hq)
  | some x =>
    obtain ⟨o, n⟩ := x
    by_cases h1 : o.length % 2 = 1
    · exact raw_no s w hs h2 (.inr ⟨o, n, hq, .inl h1⟩)
    · by_cases h4 : 400 < o.length
      · exact raw_no s w hs h2 (.inr ⟨o, n, hq, .inr ⟨h1, h4⟩⟩)
      · exact raw_some s w o n hs h2 hq (by omega) (by omega)

theorem pre_two (l : List UInt8) (a b : UInt8) : (Lib.hasPrefix l [a, b] = true) ↔ l.take 2 = [a, b] := by
  unfold Lib.hasPrefix
  match l with
  | [] => simp [List.isPrefixOf]
  | [c] => simp [List.isPrefixOf]
  | c :: d :: r =>
    simp only [List.isPrefixOf, Bool.and_true, Bool.and_eq_true, beq_iff_eq, List.take_succ_cons, List.take_zero, List.cons.injEq, and_true]
    constructor <;> (rintro ⟨rfl, rfl⟩; exact ⟨rfl, rfl⟩)
theorem head_at (s : ByteArray) (h : 0 < s.size) : s.data.toList.headD 0 = s[0] := by
  rw [List.headD_eq_head?_getD, List.head?_eq_getElem?, List.getElem?_eq_getElem (by rw [← Lib.size_eq]; exact h)]; rfl
theorem index_mem (l : List UInt8) (c : UInt8) : decide (0 ≤ Lib.indexByte l c) = decide (c ∈ l) := by
  induction l with
  | nil => simp [Lib.indexByte]
  | cons b l ih =>
    have h1 := Lib.indexByte_ge l c
    have h2 := indexByte_lx l c
    unfold Lib.indexByte
    by_cases hbc : b = c
    · subst hbc; simp
    · have hcb : ¬ c = b := fun e => hbc e.symm
      rw [if_neg (by simpa using hbc)]
      simp only [List.mem_cons, hcb, false_or]
      rw [← ih]
      split
      · rename_i h; simp only [beq_iff_eq] at h; simp [h]
      · rename_i h; simp only [beq_iff_eq] at h
        rw [decide_eq_decide]; omega

set_option maxRecDepth 100000 in
set_option maxHeartbeats 800000 in
theorem sign_any (s : ByteArray) (w : World) (h1 : 1 ≤ s.size) : Calls Tryz.prog 34 #[.string s] w (RT w (signT s.data.toList)) := by
  obtain ⟨p0, hp0⟩ : ∃ p, Lib.hasPrefix s.data.toList [60, 61] = p := ⟨_, rfl⟩
  obtain ⟨p1, hp1⟩ : ∃ p, Lib.hasPrefix s.data.toList [62, 61] = p := ⟨_, rfl⟩
  obtain ⟨p2, hp2⟩ : ∃ p, Lib.hasPrefix s.data.toList [60, 62] = p := ⟨_, rfl⟩
  have H0 := Lib.hid hp0; have H1 := Lib.hid hp1; have H2 := Lib.hid hp2
  clear hp0 hp1 hp2
  have hi0 : (0 : Int) < s.size := by omega
  have hi1 : (1 : Int) ≤ s.size := by omega
  have hc := (s[0]).toNat_lt
  have HC : Hid (((s[0].toNat : Int)).toNat.toUInt8 = s[0]) := Lib.hid (by rw [Int.toNat_natCast]; simp)
  have HH : Hid (s.data.toList.headD 0 = s[0]) := Lib.hid (head_at s (by omega))
  go_enter Tryz.func34, Tryz.ntmps34
  go_wp2_with fail
  go_loopw [7] (fun i wr => wr = ((w.alloc (Obj.cells #[Value.int IntKind.i64 0, Value.string { data := #[] }, Value.int IntKind.i64 0, Value.int IntKind.i64 0, Value.string { data := #[] }, Value.int IntKind.i64 0] 35)).alloc (Obj.cells #[Value.string { data := #[60, 61] }, Value.string { data := #[62, 61] }, Value.string { data := #[60, 62] }] 9)) ∧ (i = .int .i64 0 ∨ (i = .int .i64 1 ∧ p0 = false) ∨ (i = .int .i64 2 ∧ p0 = false ∧ p1 = false) ∨ (i = .int .i64 3 ∧ p0 = false ∧ p1 = false ∧ p2 = false))) (fun i _ => 3 - (intOf i).toNat)
  case atStart => exact ⟨rfl, Or.inl rfl⟩
  case round =>
    obtain ⟨rfl, hi⟩ := hrel
    rcases hi with rfl | ⟨rfl, rfl⟩ | ⟨rfl, rfl, rfl⟩ | ⟨rfl, rfl, rfl, rfl⟩
    · cases p0
      · go_wp2_with (go_at_call 22; refine (Tryz.strings_HasPrefix _ _ _).mono ?_; rintro e w2 ⟨rfl, rfl⟩; (rw [H0.out]))
        go_roundw
        case rel => simp
        case measure => decide
      · have HT : Hid (signT s.data.toList = ⟨5, [60, 61], 0, 0, [], 0⟩) := Lib.hid (by
          have h := (pre_two _ _ _).1 H0.out
          unfold signT; rw [h, if_pos (by simp)])
        go_wp2_with (go_at_call 22; refine (Tryz.strings_HasPrefix _ _ _).mono ?_; rintro e w2 ⟨rfl, rfl⟩; (rw [H0.out]))
        rw [HT.out]
        refine fin_t (v := .agg #[.int .i64 5, .string ⟨#[60, 61]⟩, .int .i64 0, .int .i64 0, .string ⟨#[]⟩, .int .i64 0]) rfl ?_ rfl ?_
        · ((repeat with_reducible first | exact Below.refl _ _ | apply b_alloc | apply b_drewN | apply b_drew | refine b_set ?_ ?_ _ | (refine bstep ?_ (by assumption))); (all_goals (simp; try omega)))
        · simp [results, Tryz.results34, go_sem, *]
    · cases p1
      · go_wp2_with (go_at_call 22; refine (Tryz.strings_HasPrefix _ _ _).mono ?_; rintro e w2 ⟨rfl, rfl⟩; (rw [H1.out]))
        go_roundw
        case rel => simp
        case measure => decide
      · have HT : Hid (signT s.data.toList = ⟨5, [62, 61], 0, 0, [], 0⟩) := Lib.hid (by
          have h := (pre_two _ _ _).1 H1.out
          unfold signT; rw [h, if_pos (by simp)])
        go_wp2_with (go_at_call 22; refine (Tryz.strings_HasPrefix _ _ _).mono ?_; rintro e w2 ⟨rfl, rfl⟩; (rw [H1.out]))
        rw [HT.out]
        refine fin_t (v := .agg #[.int .i64 5, .string ⟨#[62, 61]⟩, .int .i64 0, .int .i64 0, .string ⟨#[]⟩, .int .i64 0]) rfl ?_ rfl ?_
        · ((repeat with_reducible first | exact Below.refl _ _ | apply b_alloc | apply b_drewN | apply b_drew | refine b_set ?_ ?_ _ | (refine bstep ?_ (by assumption))); (all_goals (simp; try omega)))
        · simp [results, Tryz.results34, go_sem, *]
    · cases p2
      · go_wp2_with (go_at_call 22; refine (Tryz.strings_HasPrefix _ _ _).mono ?_; rintro e w2 ⟨rfl, rfl⟩; (rw [H2.out]))
        go_roundw
        case rel => simp
        case measure => decide
      · have HT : Hid (signT s.data.toList = ⟨5, [60, 62], 0, 0, [], 0⟩) := Lib.hid (by
          have h := (pre_two _ _ _).1 H2.out
          unfold signT; rw [h, if_pos (by simp)])
        go_wp2_with (go_at_call 22; refine (Tryz.strings_HasPrefix _ _ _).mono ?_; rintro e w2 ⟨rfl, rfl⟩; (rw [H2.out]))
        rw [HT.out]
        refine fin_t (v := .agg #[.int .i64 5, .string ⟨#[60, 62]⟩, .int .i64 0, .int .i64 0, .string ⟨#[]⟩, .int .i64 0]) rfl ?_ rfl ?_
        · ((repeat with_reducible first | exact Below.refl _ _ | apply b_alloc | apply b_drewN | apply b_drew | refine b_set ?_ ?_ _ | (refine bstep ?_ (by assumption))); (all_goals (simp; try omega)))
        · simp [results, Tryz.results34, go_sem, *]
    · have hn : ¬ (s.data.toList.take 2 = [60, 61] ∨ s.data.toList.take 2 = [62, 61] ∨ s.data.toList.take 2 = [60, 62]) := by
        rintro (h | h | h)
        · rw [← pre_two, H0.out] at h; cases h
        · rw [← pre_two, H1.out] at h; cases h
        · rw [← pre_two, H2.out] at h; cases h
      obtain ⟨q, hq⟩ : ∃ q, decide (s[0] ∈ signL) = q := ⟨_, rfl⟩
      cases q
      · have HT : Hid (signT s.data.toList = Tok.no) := Lib.hid (by
          unfold signT; rw [if_neg hn, HH.out, if_neg (by simpa using hq)])
        have hneg : Lib.indexByte [40, 41, 44, 42, 43, 45, 47, 61, 60, 62, 46, 59] s[0] < 0 := by
          have : ¬ (0 : Int) ≤ Lib.indexByte [40, 41, 44, 42, 43, 45, 47, 61, 60, 62, 46, 59] s[0] := of_decide_eq_false ((index_mem _ _).trans hq)
          omega
        clear hn hq
        go_wp2_with (go_at_call 55; refine (Tryz.strings_IndexByte _ _ _).mono ?_; rintro e w2 ⟨rfl, rfl⟩; rw [HC.out])
        rw [HT.out]
        refine fin_t (v := Tok.no.enc) rfl ?_ rfl ?_
        · ((repeat with_reducible first | exact Below.refl _ _ | apply b_alloc | apply b_drewN | apply b_drew | refine b_set ?_ ?_ _ | (refine bstep ?_ (by assumption))); (all_goals (simp; try omega)))
        · simp [results, Tryz.results34, go_sem, Tok.enc, Tok.no, *]
      · have HT : Hid (signT s.data.toList = ⟨5, s.data.toList.take 1, 0, 0, [], 0⟩) := Lib.hid (by
          unfold signT; rw [if_neg hn, HH.out, if_pos (by simpa using hq)])
        have hpos : 0 ≤ Lib.indexByte [40, 41, 44, 42, 43, 45, 47, 61, 60, 62, 46, 59] s[0] := of_decide_eq_true ((index_mem _ _).trans hq)
        clear hn hq
        go_wp2_with (go_at_call 55; refine (Tryz.strings_IndexByte _ _ _).mono ?_; rintro e w2 ⟨rfl, rfl⟩; rw [HC.out])
        rw [HT.out]
        refine fin_t (v := .agg #[.int .i64 5, .string (s.extract 0 1), .int .i64 0, .int .i64 0, .string ⟨#[]⟩, .int .i64 0]) (by rw [ext_pre]; rfl) ?_ rfl ?_
        · ((repeat with_reducible first | exact Below.refl _ _ | apply b_alloc | apply b_drewN | apply b_drew | refine b_set ?_ ?_ _ | (refine bstep ?_ (by assumption))); (all_goals (simp; try omega)))
        · simp [results, Tryz.results34, go_sem, *]

end Go.Proofs.YtodhdbikbdlcaaaGreatDoor
