/-
  Figures to the base 16, bytes.
-/
import Derived.Test.YtodhdbikbdlcaaaGreatDoorLexT
import Derived.Lib.IndexBytes
namespace Go.Proofs.YtodhdbikbdlcaaaGreatDoor
set_option linter.unusedSimpArgs false
set_option linter.unusedVariables false
open Go.RowKit

theorem indexByte_lx (l : List UInt8) (c : UInt8) : Lib.indexByte l c < l.length ∨ Lib.indexByte l c = -1 := by
  induction l with
  | nil => right; rfl
  | cons b l ih =>
    unfold Lib.indexByte
    split
    · left; simp
    · split
      · right; rfl
      · rename_i h; left; simp only [beq_iff_eq] at h; simp; omega
theorem hexN_le (c : UInt8) : -1 ≤ hexN c ∧ hexN c ≤ 15 := by
  unfold hexN
  generalize (if 65 ≤ c.toNat ∧ c.toNat ≤ 70 then c + 32 else c) = d
  have h1 := Lib.indexByte_ge [48, 49, 50, 51, 52, 53, 54, 55, 56, 57, 97, 98, 99, 100, 101, 102] d
  have h2 := indexByte_lx [48, 49, 50, 51, 52, 53, 54, 55, 56, 57, 97, 98, 99, 100, 101, 102] d
  simp only [List.length_cons, List.length_nil] at h2
  omega
theorem pair_fin : ∀ a b : Fin 16, bits BinOp.or IntKind.i64 ((a.val : Int) * 16) (b.val : Int) % 256 = ((pairB (a.val : Int) (b.val : Int)).toNat : Int) := by decide +kernel
theorem pair_num (a b : Int) (ha : 0 ≤ a) (hb : 0 ≤ b) (ha1 : a ≤ 15) (hb1 : b ≤ 15) : bits BinOp.or IntKind.i64 (a * 16) b % 256 = ((pairB a b).toNat : Int) := by
  have := pair_fin ⟨a.toNat, by omega⟩ ⟨b.toNat, by omega⟩
  simpa [Int.toNat_of_nonneg ha, Int.toNat_of_nonneg hb] using this
theorem two_lx (r : ByteArray) (h : 1 < r.size) : r.data.toList = r[0] :: r[1] :: (r.extract 2 r.size).data.toList := by
  have h0 : r.data.toList[0]'(by rw [← Lib.size_eq]; omega) = r[0] := rfl
  have h1 : r.data.toList[1]'(by rw [← Lib.size_eq]; omega) = r[1] := rfl
  rw [Lib.extract_to_end, ← h0, ← h1, List.getElem_cons_drop, List.getElem_cons_drop, List.drop_zero]

theorem cell_new1 (w : World) (v : Value) (t : TypeId) (b : Nat) (hb : b = w.heap.size) : (w.alloc (.cells #[v] t)).cell? ⟨b, 0, none⟩ = some v := by subst hb; simp [go_sem]
theorem rawL_two (a b : UInt8) (r : List UInt8) : rawL (a :: b :: r) = if hexN a < 0 ∨ hexN b < 0 then none else (rawL r).map fun l => pairB (hexN a) (hexN b) :: l := rfl
theorem hex_any (c : UInt8) (w : World) : Calls Tryz.prog 49 #[.int .u8 (c.toNat : Int)] w fun e w' => e = .returned (.int .i64 (hexN c)) ∧ w' = w := by
  have hc := c.toNat_lt
  by_cases h : 65 ≤ c.toNat ∧ c.toNat ≤ 70
  · have HX : Hid (hexN c = Lib.indexByte [48, 49, 50, 51, 52, 53, 54, 55, 56, 57, 97, 98, 99, 100, 101, 102] (c + 32)) := Lib.hid (by unfold hexN; rw [if_pos h])
    have HE : Hid (UInt8.ofNat ((c.toNat : Int) + 32).toNat = c + 32) := Lib.hid (by
      rw [show ((c.toNat : Int) + 32).toNat = c.toNat + 32 by omega]
      apply UInt8.toNat_inj.1
      rw [UInt8.toNat_add]; simp)
    obtain ⟨h1, h2⟩ := h
    have g1 : decide ((65 : Int) ≤ c.toNat) = true := decide_eq_true (by omega)
    have g2 : decide ((c.toNat : Int) ≤ 70) = true := decide_eq_true (by omega)
    go_enter Tryz.func49, Tryz.ntmps49
    go_wp2_with fail
    refine (Tryz.strings_IndexByte _ _ _).mono ?_
    rintro e w2 ⟨rfl, rfl⟩
    go_wp2_with fail
    go_ret
    exact ⟨ret_int (by rw [HX.out, HE.out]), rfl⟩
  · have HX : Hid (hexN c = Lib.indexByte [48, 49, 50, 51, 52, 53, 54, 55, 56, 57, 97, 98, 99, 100, 101, 102] c) := Lib.hid (by unfold hexN; rw [if_neg h])
    have HE : Hid ((c.toNat : Int).toNat.toUInt8 = c) := Lib.hid (by rw [Int.toNat_natCast]; simp)
    have g1 : (decide ((65 : Int) ≤ c.toNat) && decide ((c.toNat : Int) ≤ 70)) = false := by
      rw [Bool.and_eq_false_iff]
      rcases Nat.lt_or_ge c.toNat 65 with h' | h'
      · exact .inl (decide_eq_false (by omega))
      · exact .inr (decide_eq_false (by omega))
    go_enter Tryz.func49, Tryz.ntmps49
    go_wp2_with fail
    all_goals
      refine (Tryz.strings_IndexByte _ _ _).mono ?_
      rintro e w2 ⟨rfl, rfl⟩
      go_wp2_with fail
      go_ret
      exact ⟨ret_int (by rw [HX.out]), rfl⟩

set_option maxRecDepth 100000 in
set_option maxHeartbeats 1600000 in
theorem raw_some (s : ByteArray) (w : World) (o : List UInt8) (n : Nat) (hs : s.size ≤ 1000) (h2 : 2 ≤ s.size) (hq : quotedL (s.data.toList.drop 2) = some (o, n)) (hodd : o.length % 2 = 0) (hlen : o.length ≤ 400) :
    Calls Tryz.prog 28 #[.string s] w (RT w (rawT s.data.toList)) := by
  have HQ : Hid (quoR [] 1 (((s.extract 1 s.size).data.toList).drop 1) = (o, 1 + n)) := Lib.hid (by
    rw [Lib.extract_to_end, List.drop_drop]; unfold quoR; rw [hq]; rfl)
  have ht := quotedL_take _ _ _ hq
  have hn : n + 2 ≤ s.size := by
    have h1 := ht.1
    rw [List.length_drop, ← Lib.size_eq] at h1
    omega
  have ho := ht.2.2.1
  clear ht
  have hz : (((1 : Int) + (n : Nat)) == 0) = false := beq_eq_false_iff_ne.2 (by omega)
  have h1 : (1 : Int) ≤ s.size := by omega
  have h1' : 1 ≤ s.size := by omega
  have hg : decide ((400 : Int) < o.length) = false := decide_eq_false (by omega)
  have hg2 : ((o.length : Int) % 2 == 1) = false := beq_eq_false_iff_ne.2 (by omega)
  have HR : Hid (rawT s.data.toList = match rawL o with | none => Tok.no | some b => ⟨4, s.data.toList.take (n + 2), 5, 0, b, 0⟩) := Lib.hid (by
    unfold rawT; rw [hq]; simp only; rw [if_neg (by omega)]; cases rawL o <;> rfl)
  clear hq
  go_enter Tryz.func28, Tryz.ntmps28
  go_wp2_with fail
  refine (quoted_any _ _ (by rw [ByteArray.size_extract]; omega)).mono ?_
  rintro e w1 ⟨v, rfl, hv, hb⟩
  rw [HQ.out] at hv
  subst hv
  have hz := hb.size; (try simp only [World.size_alloc, World.size_setCell, World.size_drew] at hz); (try (have z0 : w.heap.size < w1.heap.size := (by omega); have y0 := fun o => hb.cell (p := ⟨w.heap.size, o, none⟩) (by (try simp only [World.size_alloc, World.size_setCell, World.size_drew]); omega); have x0 := fun o => hb.frozen (p := ⟨w.heap.size, o, none⟩) (by (try simp only [World.size_alloc, World.size_setCell, World.size_drew]); omega); have q0 := tag_below hb (w.heap.size) (by (try simp only [World.size_alloc, World.size_setCell, World.size_drew]); omega); (try simp [go_sem] at y0); (try simp [go_sem] at x0); (try simp [tag_alloc, tag_set, tag_drew, tagObj] at q0))); (try (have z1 : w.heap.size + 1 < w1.heap.size := (by omega); have y1 := fun o => hb.cell (p := ⟨w.heap.size + 1, o, none⟩) (by (try simp only [World.size_alloc, World.size_setCell, World.size_drew]); omega); have x1 := fun o => hb.frozen (p := ⟨w.heap.size + 1, o, none⟩) (by (try simp only [World.size_alloc, World.size_setCell, World.size_drew]); omega); have q1 := tag_below hb (w.heap.size + 1) (by (try simp only [World.size_alloc, World.size_setCell, World.size_drew]); omega); (try simp [go_sem] at y1); (try simp [go_sem] at x1); (try simp [tag_alloc, tag_set, tag_drew, tagObj] at q1))); (try (have z2 : w.heap.size + 1 + 1 < w1.heap.size := (by omega); have y2 := fun o => hb.cell (p := ⟨w.heap.size + 1 + 1, o, none⟩) (by (try simp only [World.size_alloc, World.size_setCell, World.size_drew]); omega); have x2 := fun o => hb.frozen (p := ⟨w.heap.size + 1 + 1, o, none⟩) (by (try simp only [World.size_alloc, World.size_setCell, World.size_drew]); omega); have q2 := tag_below hb (w.heap.size + 1 + 1) (by (try simp only [World.size_alloc, World.size_setCell, World.size_drew]); omega); (try simp [go_sem] at y2); (try simp [go_sem] at x2); (try simp [tag_alloc, tag_set, tag_drew, tagObj] at q2))); (try (have z3 : w.heap.size + 1 + 1 + 1 < w1.heap.size := (by omega); have y3 := fun o => hb.cell (p := ⟨w.heap.size + 1 + 1 + 1, o, none⟩) (by (try simp only [World.size_alloc, World.size_setCell, World.size_drew]); omega); have x3 := fun o => hb.frozen (p := ⟨w.heap.size + 1 + 1 + 1, o, none⟩) (by (try simp only [World.size_alloc, World.size_setCell, World.size_drew]); omega); have q3 := tag_below hb (w.heap.size + 1 + 1 + 1) (by (try simp only [World.size_alloc, World.size_setCell, World.size_drew]); omega); (try simp [go_sem] at y3); (try simp [go_sem] at x3); (try simp [tag_alloc, tag_set, tag_drew, tagObj] at q3))); (try (have z4 : w.heap.size + 1 + 1 + 1 + 1 < w1.heap.size := (by omega); have y4 := fun o => hb.cell (p := ⟨w.heap.size + 1 + 1 + 1 + 1, o, none⟩) (by (try simp only [World.size_alloc, World.size_setCell, World.size_drew]); omega); have x4 := fun o => hb.frozen (p := ⟨w.heap.size + 1 + 1 + 1 + 1, o, none⟩) (by (try simp only [World.size_alloc, World.size_setCell, World.size_drew]); omega); have q4 := tag_below hb (w.heap.size + 1 + 1 + 1 + 1) (by (try simp only [World.size_alloc, World.size_setCell, World.size_drew]); omega); (try simp [go_sem] at y4); (try simp [go_sem] at x4); (try simp [tag_alloc, tag_set, tag_drew, tagObj] at q4))); (try (have z5 : w.heap.size + 1 + 1 + 1 + 1 + 1 < w1.heap.size := (by omega); have y5 := fun o => hb.cell (p := ⟨w.heap.size + 1 + 1 + 1 + 1 + 1, o, none⟩) (by (try simp only [World.size_alloc, World.size_setCell, World.size_drew]); omega); have x5 := fun o => hb.frozen (p := ⟨w.heap.size + 1 + 1 + 1 + 1 + 1, o, none⟩) (by (try simp only [World.size_alloc, World.size_setCell, World.size_drew]); omega); have q5 := tag_below hb (w.heap.size + 1 + 1 + 1 + 1 + 1) (by (try simp only [World.size_alloc, World.size_setCell, World.size_drew]); omega); (try simp [go_sem] at y5); (try simp [go_sem] at x5); (try simp [tag_alloc, tag_set, tag_drew, tagObj] at q5))); (try (have z6 : w.heap.size + 1 + 1 + 1 + 1 + 1 + 1 < w1.heap.size := (by omega); have y6 := fun o => hb.cell (p := ⟨w.heap.size + 1 + 1 + 1 + 1 + 1 + 1, o, none⟩) (by (try simp only [World.size_alloc, World.size_setCell, World.size_drew]); omega); have x6 := fun o => hb.frozen (p := ⟨w.heap.size + 1 + 1 + 1 + 1 + 1 + 1, o, none⟩) (by (try simp only [World.size_alloc, World.size_setCell, World.size_drew]); omega); have q6 := tag_below hb (w.heap.size + 1 + 1 + 1 + 1 + 1 + 1) (by (try simp only [World.size_alloc, World.size_setCell, World.size_drew]); omega); (try simp [go_sem] at y6); (try simp [go_sem] at x6); (try simp [tag_alloc, tag_set, tag_drew, tagObj] at q6))); (try (have z7 : w.heap.size + 1 + 1 + 1 + 1 + 1 + 1 + 1 < w1.heap.size := (by omega); have y7 := fun o => hb.cell (p := ⟨w.heap.size + 1 + 1 + 1 + 1 + 1 + 1 + 1, o, none⟩) (by (try simp only [World.size_alloc, World.size_setCell, World.size_drew]); omega); have x7 := fun o => hb.frozen (p := ⟨w.heap.size + 1 + 1 + 1 + 1 + 1 + 1 + 1, o, none⟩) (by (try simp only [World.size_alloc, World.size_setCell, World.size_drew]); omega); have q7 := tag_below hb (w.heap.size + 1 + 1 + 1 + 1 + 1 + 1 + 1) (by (try simp only [World.size_alloc, World.size_setCell, World.size_drew]); omega); (try simp [go_sem] at y7); (try simp [go_sem] at x7); (try simp [tag_alloc, tag_set, tag_drew, tagObj] at q7))); obtain ⟨hc, hf⟩ := bcell hb; have ht := tag_below hb
  go_wp2_with fail
  go_loopw [3, 5] (fun t v wr => ∃ (r : ByteArray) (acc : List UInt8), t = .string r ∧ r.size ≤ 400 ∧ r.size % 2 = 0 ∧ acc.length + r.size ≤ 400 ∧ Hid (OwnB wr w1.heap.size v acc) ∧ Hid (rawL o = (rawL r.data.toList).map (acc ++ ·)) ∧ Hid (Below w1.heap.size w1 wr)) (fun t _ _ => match t with | .string r => r.size | _ => 0)
  case atStart => exact ⟨⟨o.toArray⟩, [], rfl, by rw [Lib.size_eq]; omega, by rw [Lib.size_eq]; omega, by rw [Lib.size_eq]; simp; omega, Lib.hid (OwnB.nil _ _), Lib.hid (by cases h : rawL o <;> simp [h]), Lib.hid (Below.refl _ _)⟩
  case round =>
    obtain ⟨r, acc, rfl, hr1, hr2, hr3, HO, HU, HB⟩ := hrel
    have hsz := HB.out.size
    by_cases hr : r.size = 0
    · have he : r = ⟨#[]⟩ := ba_list (by rw [List.eq_nil_of_length_eq_zero (l := r.data.toList) (by rw [← Lib.size_eq]; exact hr)])
      subst he
      have HT : Hid (rawT s.data.toList = ⟨4, s.data.toList.take (n + 2), 5, 0, acc, 0⟩) := Lib.hid (by rw [HR.out, HU.out]; simp [rawL])
      have y0 : ∀ o, wr.cell? ⟨w.heap.size, o, none⟩ = w1.cell? ⟨w.heap.size, o, none⟩ := fun o => HB.out.cell (p := ⟨w.heap.size, o, none⟩) z0
      have x0 : ∀ o, wr.frozen? ⟨w.heap.size, o, none⟩ = w1.frozen? ⟨w.heap.size, o, none⟩ := fun o => HB.out.frozen (p := ⟨w.heap.size, o, none⟩) z0
      have hconv := run_string_own (HO.out.later ((Below.refl _ _).drew))
      go_wp2_with fail
      go_region
      all_goals
        go_wp2_with fail
        rw [HT.out]
        refine fin_t (v := .agg #[.int .i64 4, .string (s.extract 0 (n + 2)), .int .i64 5, .int .i64 0, .string ⟨acc.toArray⟩, .int .i64 0]) (by rw [ext_pre]; rfl) ?_ rfl ?_
        · have hw : Below w.heap.size w wr := Below.trans (by ((repeat with_reducible first | exact Below.refl _ _ | apply b_alloc | apply b_drewN | apply b_drew | refine b_set ?_ ?_ _ | (refine bstep ?_ (by assumption))); (all_goals (simp; try omega)))) (HB.out.mono (by omega))
          ((repeat with_reducible first | exact Below.refl _ _ | apply b_alloc | apply b_drewN | apply b_drew | refine b_set ?_ ?_ _ | (refine bstep ?_ (by assumption))); (all_goals (simp; try omega)))
        · simp [results, Tryz.results28, go_sem, *, show 1 + n + 1 = n + 2 by omega]
    · have hp : 1 < r.size := by omega
      have j0 : 0 < r.size := by omega
      have i0 : (0 : Int) < r.size := by omega
      have i1 : (1 : Int) < r.size := by omega
      have hne : r.toList.isEmpty = false := by
        rw [ByteArray.toList_eq, two_lx r hp]; rfl
      have hc0 := (r[0]).toNat_lt
      have hc1 := (r[1]).toNat_lt
      have HRD := Lib.hid (two_lx r hp)
      have l0 := (hexN_le r[0]).1; have l1 := (hexN_le r[0]).2; have m0 := (hexN_le r[1]).1; have m1 := (hexN_le r[1]).2
      go_wp2_with fail
      go_quiet ((go_at_call 49; exact Calls.quiet_of_same (hex_any _ _)))
      by_cases hn0 : hexN r[0] < 0 ∨ hexN r[1] < 0
      · have HT : Hid (rawT s.data.toList = Tok.no) := Lib.hid (by
          rw [HR.out, HU.out, HRD.out, rawL_two, if_pos hn0]; rfl)
        by_cases hn1 : hexN r[0] < 0
        · clear hn0
          have y0 : ∀ o, wr.cell? ⟨w.heap.size, o, none⟩ = w1.cell? ⟨w.heap.size, o, none⟩ := fun o => HB.out.cell (p := ⟨w.heap.size, o, none⟩) z0
          have x0 : ∀ o, wr.frozen? ⟨w.heap.size, o, none⟩ = w1.frozen? ⟨w.heap.size, o, none⟩ := fun o => HB.out.frozen (p := ⟨w.heap.size, o, none⟩) z0
          have hw : Below w.heap.size w wr := Below.trans (by ((repeat with_reducible first | exact Below.refl _ _ | apply b_alloc | apply b_drewN | apply b_drew | refine b_set ?_ ?_ _ | (refine bstep ?_ (by assumption))); (all_goals (simp; try omega)))) (HB.out.mono (by omega))
          go_wp2_with fail
          rw [HT.out]
          refine fin_t (v := Tok.no.enc) rfl ?_ rfl ?_
          · ((repeat with_reducible first | exact Below.refl _ _ | apply b_alloc | apply b_drewN | apply b_drew | refine b_set ?_ ?_ _ | (refine bstep ?_ (by assumption))); (all_goals (simp; try omega)))
          · simp [results, Tryz.results28, go_sem, Tok.enc, Tok.no, *]
        · have hn2 : hexN r[1] < 0 := by rcases hn0 with h | h; exact absurd h hn1; exact h
          clear hn0
          have y0 : ∀ o, wr.cell? ⟨w.heap.size, o, none⟩ = w1.cell? ⟨w.heap.size, o, none⟩ := fun o => HB.out.cell (p := ⟨w.heap.size, o, none⟩) z0
          have x0 : ∀ o, wr.frozen? ⟨w.heap.size, o, none⟩ = w1.frozen? ⟨w.heap.size, o, none⟩ := fun o => HB.out.frozen (p := ⟨w.heap.size, o, none⟩) z0
          have hw : Below w.heap.size w wr := Below.trans (by ((repeat with_reducible first | exact Below.refl _ _ | apply b_alloc | apply b_drewN | apply b_drew | refine b_set ?_ ?_ _ | (refine bstep ?_ (by assumption))); (all_goals (simp; try omega)))) (HB.out.mono (by omega))
          go_wp2_with fail
          rw [HT.out]
          refine fin_t (v := Tok.no.enc) rfl ?_ rfl ?_
          · ((repeat with_reducible first | exact Below.refl _ _ | apply b_alloc | apply b_drewN | apply b_drew | refine b_set ?_ ?_ _ | (refine bstep ?_ (by assumption))); (all_goals (simp; try omega)))
          · simp [results, Tryz.results28, go_sem, Tok.enc, Tok.no, *]
      · have hn1 : 0 ≤ hexN r[0] := by omega
        have hn2 : 0 ≤ hexN r[1] := by omega
        have HP := Lib.hid (pair_num (hexN r[0]) (hexN r[1]) hn1 hn2 l1 m1)
        have HU' : Hid (rawL o = (rawL (r.extract 2 r.size).data.toList).map ((acc ++ [pairB (hexN r[0]) (hexN r[1])]) ++ ·)) := Lib.hid (by
          rw [HU.out, HRD.out, rawL_two, if_neg hn0]
          cases rawL (r.extract 2 r.size).data.toList <;> simp)
        clear hn0
        go_wp2_with (at_builtin; refine wpList_append_bytes rfl (.tmp 45) (.tmp 51) rfl w1.heap.size u5 acc rfl (HO.out.later (by (repeat with_reducible first | exact Below.refl _ _ | apply b_alloc | apply b_drewN | apply b_drew))) ⟨wr.heap.size, 0, none⟩ 1 1 [pairB (hexN r[0]) (hexN r[1])] rfl rfl (by intro j u hu; match j, hu with | 0, hu => (simp at hu; subst hu; rw [← HP.out]; exact cell_new1 _ _ _ _ rfl)) (by omega) (by simp; omega) ?_; intro v' w3 hown hbel; have HOW := Lib.hid hown; have HBE := Lib.hid hbel; clear hown hbel)
        go_roundw
        case rel =>
          refine ⟨_, _, rfl, by rw [ByteArray.size_extract]; omega, by rw [ByteArray.size_extract]; omega, by rw [ByteArray.size_extract]; simp; omega, HOW, HU', Lib.hid ?_⟩
          exact (b_alloc (b_drewN HB.out _) _).trans HBE.out
        case measure => simp; omega

end Go.Proofs.YtodhdbikbdlcaaaGreatDoor
