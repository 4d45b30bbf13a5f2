/-
  What value.Text writes of bytes.
-/
import Derived.Test.YtodhdbikbdlcaaaGreatDoorVText
import Derived.Test.YtodhdbikbdlcaaaGreatDoorOwn
import Derived.Test.YtodhdbikbdlcaaaGreatDoorPureRepl
import Derived.Deep.RegionLaw
namespace Go.Proofs.YtodhdbikbdlcaaaGreatDoor
set_option linter.unusedSimpArgs false
set_option linter.unusedVariables false
open Go.RowKit

def figs : ByteArray := ⟨#[48, 49, 50, 51, 52, 53, 54, 55, 56, 57, 97, 98, 99, 100, 101, 102]⟩
theorem figs_at (i : Nat) (h : i < figs.size) : figs[i] = fig i := by
  have h16 : i < 16 := h
  rcases (by omega : i = 0 ∨ i = 1 ∨ i = 2 ∨ i = 3 ∨ i = 4 ∨ i = 5 ∨ i = 6 ∨ i = 7 ∨ i = 8 ∨ i = 9 ∨ i = 10 ∨ i = 11 ∨ i = 12 ∨ i = 13 ∨ i = 14 ∨ i = 15) with rfl | rfl | rfl | rfl | rfl | rfl | rfl | rfl | rfl | rfl | rfl | rfl | rfl | rfl | rfl | rfl <;> rfl
theorem figs_lit (i : Nat) (h : i < (⟨#[48, 49, 50, 51, 52, 53, 54, 55, 56, 57, 97, 98, 99, 100, 101, 102]⟩ : ByteArray).size) : (⟨#[48, 49, 50, 51, 52, 53, 54, 55, 56, 57, 97, 98, 99, 100, 101, 102]⟩ : ByteArray)[i]'h = fig i := figs_at i h

theorem u8_and_15 : ∀ m : Nat, m < 256 → bits .and .u8 (m : Int) 15 = ((m % 16 : Nat) : Int) := by decide +kernel

set_option maxRecDepth 100000 in
set_option maxHeartbeats 800000 in
theorem text_bytes (k n : Int) (s : ByteArray) (w : World) (hr : rightB k n s = true) (hk0 : (k == 0) = false) (hk1 : (k == 1) = false) (hk2 : (k == 2) = false) (hk3 : (k == 3) = false) (hk : (k == 5) = true) (hs : s.size ≤ 200) :
    Calls Tryz.prog 4 #[.agg #[.int .i64 k, .int .i64 n, .string s]] w (RetS w ([120, 39] ++ hexL s.data.toList ++ [39])) := by
  have HR := Lib.hid hr; clear hr
  have kc := fun W => run_bytes_of W s
  go_enter Tryz.func4, Tryz.ntmps4
  go_wp2_with (first | (go_at_call 5; refine (right_any _ _ _ _).mono ?_; rintro e w1 ⟨rfl, hb⟩; (rw [HR.out]); have hz := hb.size; (try simp only [World.size_alloc, World.size_setCell, World.size_drew] at hz); (try (have z0 : w.heap.size < w1.heap.size := (by omega); have y0 := fun o => hb.cell (p := ⟨w.heap.size, o, none⟩) (by (try simp only [World.size_alloc, World.size_setCell, World.size_drew]); omega); have x0 := fun o => hb.frozen (p := ⟨w.heap.size, o, none⟩) (by (try simp only [World.size_alloc, World.size_setCell, World.size_drew]); omega); have q0 := tag_below hb (w.heap.size) (by (try simp only [World.size_alloc, World.size_setCell, World.size_drew]); omega); (try simp [go_sem] at y0); (try simp [go_sem] at x0); (try simp [tag_alloc, tag_set, tag_drew, tagObj] at q0))); (try (have z1 : w.heap.size + 1 < w1.heap.size := (by omega); have y1 := fun o => hb.cell (p := ⟨w.heap.size + 1, o, none⟩) (by (try simp only [World.size_alloc, World.size_setCell, World.size_drew]); omega); have x1 := fun o => hb.frozen (p := ⟨w.heap.size + 1, o, none⟩) (by (try simp only [World.size_alloc, World.size_setCell, World.size_drew]); omega); have q1 := tag_below hb (w.heap.size + 1) (by (try simp only [World.size_alloc, World.size_setCell, World.size_drew]); omega); (try simp [go_sem] at y1); (try simp [go_sem] at x1); (try simp [tag_alloc, tag_set, tag_drew, tagObj] at q1))); (try (have z2 : w.heap.size + 1 + 1 < w1.heap.size := (by omega); have y2 := fun o => hb.cell (p := ⟨w.heap.size + 1 + 1, o, none⟩) (by (try simp only [World.size_alloc, World.size_setCell, World.size_drew]); omega); have x2 := fun o => hb.frozen (p := ⟨w.heap.size + 1 + 1, o, none⟩) (by (try simp only [World.size_alloc, World.size_setCell, World.size_drew]); omega); have q2 := tag_below hb (w.heap.size + 1 + 1) (by (try simp only [World.size_alloc, World.size_setCell, World.size_drew]); omega); (try simp [go_sem] at y2); (try simp [go_sem] at x2); (try simp [tag_alloc, tag_set, tag_drew, tagObj] at q2))); (try (have z3 : w.heap.size + 1 + 1 + 1 < w1.heap.size := (by omega); have y3 := fun o => hb.cell (p := ⟨w.heap.size + 1 + 1 + 1, o, none⟩) (by (try simp only [World.size_alloc, World.size_setCell, World.size_drew]); omega); have x3 := fun o => hb.frozen (p := ⟨w.heap.size + 1 + 1 + 1, o, none⟩) (by (try simp only [World.size_alloc, World.size_setCell, World.size_drew]); omega); have q3 := tag_below hb (w.heap.size + 1 + 1 + 1) (by (try simp only [World.size_alloc, World.size_setCell, World.size_drew]); omega); (try simp [go_sem] at y3); (try simp [go_sem] at x3); (try simp [tag_alloc, tag_set, tag_drew, tagObj] at q3))); (try (have z4 : w.heap.size + 1 + 1 + 1 + 1 < w1.heap.size := (by omega); have y4 := fun o => hb.cell (p := ⟨w.heap.size + 1 + 1 + 1 + 1, o, none⟩) (by (try simp only [World.size_alloc, World.size_setCell, World.size_drew]); omega); have x4 := fun o => hb.frozen (p := ⟨w.heap.size + 1 + 1 + 1 + 1, o, none⟩) (by (try simp only [World.size_alloc, World.size_setCell, World.size_drew]); omega); have q4 := tag_below hb (w.heap.size + 1 + 1 + 1 + 1) (by (try simp only [World.size_alloc, World.size_setCell, World.size_drew]); omega); (try simp [go_sem] at y4); (try simp [go_sem] at x4); (try simp [tag_alloc, tag_set, tag_drew, tagObj] at q4))); (try (have z5 : w.heap.size + 1 + 1 + 1 + 1 + 1 < w1.heap.size := (by omega); have y5 := fun o => hb.cell (p := ⟨w.heap.size + 1 + 1 + 1 + 1 + 1, o, none⟩) (by (try simp only [World.size_alloc, World.size_setCell, World.size_drew]); omega); have x5 := fun o => hb.frozen (p := ⟨w.heap.size + 1 + 1 + 1 + 1 + 1, o, none⟩) (by (try simp only [World.size_alloc, World.size_setCell, World.size_drew]); omega); have q5 := tag_below hb (w.heap.size + 1 + 1 + 1 + 1 + 1) (by (try simp only [World.size_alloc, World.size_setCell, World.size_drew]); omega); (try simp [go_sem] at y5); (try simp [go_sem] at x5); (try simp [tag_alloc, tag_set, tag_drew, tagObj] at q5))); (try (have z6 : w.heap.size + 1 + 1 + 1 + 1 + 1 + 1 < w1.heap.size := (by omega); have y6 := fun o => hb.cell (p := ⟨w.heap.size + 1 + 1 + 1 + 1 + 1 + 1, o, none⟩) (by (try simp only [World.size_alloc, World.size_setCell, World.size_drew]); omega); have x6 := fun o => hb.frozen (p := ⟨w.heap.size + 1 + 1 + 1 + 1 + 1 + 1, o, none⟩) (by (try simp only [World.size_alloc, World.size_setCell, World.size_drew]); omega); have q6 := tag_below hb (w.heap.size + 1 + 1 + 1 + 1 + 1 + 1) (by (try simp only [World.size_alloc, World.size_setCell, World.size_drew]); omega); (try simp [go_sem] at y6); (try simp [go_sem] at x6); (try simp [tag_alloc, tag_set, tag_drew, tagObj] at q6))); (try (have z7 : w.heap.size + 1 + 1 + 1 + 1 + 1 + 1 + 1 < w1.heap.size := (by omega); have y7 := fun o => hb.cell (p := ⟨w.heap.size + 1 + 1 + 1 + 1 + 1 + 1 + 1, o, none⟩) (by (try simp only [World.size_alloc, World.size_setCell, World.size_drew]); omega); have x7 := fun o => hb.frozen (p := ⟨w.heap.size + 1 + 1 + 1 + 1 + 1 + 1 + 1, o, none⟩) (by (try simp only [World.size_alloc, World.size_setCell, World.size_drew]); omega); have q7 := tag_below hb (w.heap.size + 1 + 1 + 1 + 1 + 1 + 1 + 1) (by (try simp only [World.size_alloc, World.size_setCell, World.size_drew]); omega); (try simp [go_sem] at y7); (try simp [go_sem] at x7); (try simp [tag_alloc, tag_set, tag_drew, tagObj] at q7))); obtain ⟨hc, hf⟩ := bcell hb; have ht := tag_below hb))
  have hb2 := Lib.bytesWorld_below w1 5 s
  have hcells := fun j (hj : j < s.size) => Lib.bytesWorld_cell w1 5 s j hj
  have hsz := Lib.bytesWorld_size w1 5 s
  generalize Lib.bytesWorld w1 5 s = w2 at hb2 hcells hsz ⊢
  generalize grownCap w1 s.size 0 5 = cap
  have hg2 : Below w.heap.size w w2 := by ((repeat with_reducible first | exact Below.refl _ _ | apply b_alloc | apply b_drewN | apply b_drew | refine b_set ?_ ?_ _ | (refine bstep ?_ (by assumption))); (all_goals (simp; try omega)))
  have HG := Lib.hid hg2; have HC := Lib.hid hcells
  have hlt0 : w1.heap.size < w2.heap.size := by rw [hsz]; omega
  clear hg2 hcells hb2 kc
  go_loopw [5, 66] (fun v i wr => ∃ k : Nat, k ≤ s.size ∧ i = .int .i64 k ∧ Hid (OwnB wr w2.heap.size v (hexL (s.data.toList.take k))) ∧ Hid (Below w2.heap.size w2 wr)) (fun _ i _ => s.size - (intOf i).toNat)
  case atStart => exact ⟨0, Nat.zero_le _, rfl, Lib.hid (OwnB.nil _ _), Lib.hid (Below.refl _ _)⟩
  case round =>
    obtain ⟨k, hk, rfl, HO, HB⟩ := hrel
    by_cases hlt : k < s.size
    · have hcell : wr.cell? ⟨w1.heap.size, k, none⟩ = some (.int .u8 ((s.data.toList.getD k 0).toNat : Int)) := by
        rw [HB.out.cell (p := ⟨w1.heap.size, k, none⟩) (by simpa using hlt0)]; exact HC.out k hlt
      have hc256 := (s.data.toList.getD k 0).toNat_lt
      generalize hce : s.data.toList.getD k 0 = c at hcell hc256
      have HCE := Lib.hid hce; clear hce
      obtain ⟨m, hm⟩ : ∃ m : Nat, m = c.toNat := ⟨_, rfl⟩
      rw [← hm] at hcell hc256
      have HM := Lib.hid hm; clear hm
      have h1 : (0 : Int) ≤ (m : Int) := by omega
      have h2 : (m : Int) ≤ 255 := by omega
      have hba := u8_and_15 m hc256
      have h3 : (0 : Int) ≤ (m : Int) / 16 := by omega
      have h4 : (m : Int) / 16 < 16 := by omega
      have h5 : (0 : Int) ≤ (m : Int) % 16 := by omega
      have h6 : (m : Int) % 16 < 16 := by omega
      go_wp2_with fail
      have hx1 : figs[((m : Int) / 16).toNat]'(by show _ < 16; omega) = fig ((m : Int) / 16).toNat := figs_at _ _
      have hy1 : figs[((m : Int) % 16).toNat]'(by show _ < 16; omega) = fig ((m : Int) % 16).toNat := figs_at _ _
      obtain ⟨x, hx⟩ : ∃ x, x = fig ((m : Int) / 16).toNat := ⟨_, rfl⟩
      obtain ⟨y, hy⟩ : ∃ y, y = fig ((m : Int) % 16).toNat := ⟨_, rfl⟩
      have HX := Lib.hid hx; have HY := Lib.hid hy
      have hL : (hexL (s.data.toList.take k)).length + 2 ≤ 1000000 := by rw [hexL_length, List.length_take]; omega
      rw [← hx] at hx1
      rw [← hy] at hy1
      unfold figs at hx1 hy1
      clear hx hy
      have hsn := hexL_snoc s.data.toList k (by rw [← Lib.size_eq]; exact hlt)
      have HSN : Hid (hexL (s.data.toList.take (k + 1)) = hexL (s.data.toList.take k) ++ [x, y]) := Lib.hid (by
        rw [hsn, HCE.out, HX.out, HY.out, ← HM.out]
        have e1 : ((m : Int) / 16).toNat = m / 16 := by omega
        have e2 : ((m : Int) % 16).toNat = m % 16 := by omega
        rw [e1, e2])
      clear hsn
      go_region_law (refine step_append_bytes rfl (.tmp 70) (.tmp 77) rfl w2.heap.size u5 (hexL (s.data.toList.take k)) rfl (by exact HO.out.later (((Below.refl _ _).alloc (Nat.le_refl _) _).drew)) ⟨wr.heap.size, 0, none⟩ 2 2 [x, y] rfl rfl (by intro j u hu; match j, hu with | 0, hu => (simp at hu; subst hu; simp [Addr.add]) | 1, hu => (simp at hu; subst hu; simp [Addr.add])) hL (by have := HB.out.size; simp; omega) ?_; intro v' w3 hown hbel; have HOW := Lib.hid hown; have HBE := Lib.hid hbel; clear hown hbel)
      all_goals
        go_wp2
        go_roundw
        case rel => exact ⟨k + 1, by omega, by go_num, Lib.hid (by rw [HSN.out]; exact HOW.out), Lib.hid ((HB.out.alloc HB.out.size _).drew.trans HBE.out)⟩
        case measure => simp [intOf]; omega
    · obtain rfl : k = s.size := by omega
      have ks := run_string_own HO.out
      have hl : (hexL s.data.toList).length ≤ 400 := by rw [hexL_length, ← Lib.size_eq]; omega
      rw [Lib.size_eq, List.take_length] at ks
      obtain ⟨L, hLe⟩ : ∃ L, L = hexL s.data.toList := ⟨_, rfl⟩
      rw [← hLe] at ks hl ⊢
      have HLe := Lib.hid hLe
      clear HO hLe
      go_wp2
      go_ret
      refine retS_of (by simp [HLe.out]) ?_
      exact HG.out.trans (HB.out.mono HG.out.size)

theorem text_text (k n : Int) (s : ByteArray) (w : World) (hl : Laid w) (hr : rightB k n s = true) (hk0 : (k == 0) = false) (hk1 : (k == 1) = false) (hk2 : (k == 2) = false) (hk3 : (k == 3) = false) (hk5 : (k == 5) = false) (hs : s.size ≤ 200) :
    Calls Tryz.prog 4 #[.agg #[.int .i64 k, .int .i64 n, .string s]] w (RetS w ([39] ++ Lib.replaceAll s.data.toList [39] [39, 39] ++ [39])) := by
  have HR := Lib.hid hr; clear hr
  have HL := Lib.hid hl; clear hl
  go_enter Tryz.func4, Tryz.ntmps4
  go_wp2_with (first | (go_at_call 5; refine (right_any _ _ _ _).mono ?_; rintro e w1 ⟨rfl, hb⟩; (rw [HR.out]); have hz := hb.size; (try simp only [World.size_alloc, World.size_setCell, World.size_drew] at hz); (try (have z0 : w.heap.size < w1.heap.size := (by omega); have y0 := fun o => hb.cell (p := ⟨w.heap.size, o, none⟩) (by (try simp only [World.size_alloc, World.size_setCell, World.size_drew]); omega); have x0 := fun o => hb.frozen (p := ⟨w.heap.size, o, none⟩) (by (try simp only [World.size_alloc, World.size_setCell, World.size_drew]); omega); have q0 := tag_below hb (w.heap.size) (by (try simp only [World.size_alloc, World.size_setCell, World.size_drew]); omega); (try simp [go_sem] at y0); (try simp [go_sem] at x0); (try simp [tag_alloc, tag_set, tag_drew, tagObj] at q0))); (try (have z1 : w.heap.size + 1 < w1.heap.size := (by omega); have y1 := fun o => hb.cell (p := ⟨w.heap.size + 1, o, none⟩) (by (try simp only [World.size_alloc, World.size_setCell, World.size_drew]); omega); have x1 := fun o => hb.frozen (p := ⟨w.heap.size + 1, o, none⟩) (by (try simp only [World.size_alloc, World.size_setCell, World.size_drew]); omega); have q1 := tag_below hb (w.heap.size + 1) (by (try simp only [World.size_alloc, World.size_setCell, World.size_drew]); omega); (try simp [go_sem] at y1); (try simp [go_sem] at x1); (try simp [tag_alloc, tag_set, tag_drew, tagObj] at q1))); (try (have z2 : w.heap.size + 1 + 1 < w1.heap.size := (by omega); have y2 := fun o => hb.cell (p := ⟨w.heap.size + 1 + 1, o, none⟩) (by (try simp only [World.size_alloc, World.size_setCell, World.size_drew]); omega); have x2 := fun o => hb.frozen (p := ⟨w.heap.size + 1 + 1, o, none⟩) (by (try simp only [World.size_alloc, World.size_setCell, World.size_drew]); omega); have q2 := tag_below hb (w.heap.size + 1 + 1) (by (try simp only [World.size_alloc, World.size_setCell, World.size_drew]); omega); (try simp [go_sem] at y2); (try simp [go_sem] at x2); (try simp [tag_alloc, tag_set, tag_drew, tagObj] at q2))); (try (have z3 : w.heap.size + 1 + 1 + 1 < w1.heap.size := (by omega); have y3 := fun o => hb.cell (p := ⟨w.heap.size + 1 + 1 + 1, o, none⟩) (by (try simp only [World.size_alloc, World.size_setCell, World.size_drew]); omega); have x3 := fun o => hb.frozen (p := ⟨w.heap.size + 1 + 1 + 1, o, none⟩) (by (try simp only [World.size_alloc, World.size_setCell, World.size_drew]); omega); have q3 := tag_below hb (w.heap.size + 1 + 1 + 1) (by (try simp only [World.size_alloc, World.size_setCell, World.size_drew]); omega); (try simp [go_sem] at y3); (try simp [go_sem] at x3); (try simp [tag_alloc, tag_set, tag_drew, tagObj] at q3))); (try (have z4 : w.heap.size + 1 + 1 + 1 + 1 < w1.heap.size := (by omega); have y4 := fun o => hb.cell (p := ⟨w.heap.size + 1 + 1 + 1 + 1, o, none⟩) (by (try simp only [World.size_alloc, World.size_setCell, World.size_drew]); omega); have x4 := fun o => hb.frozen (p := ⟨w.heap.size + 1 + 1 + 1 + 1, o, none⟩) (by (try simp only [World.size_alloc, World.size_setCell, World.size_drew]); omega); have q4 := tag_below hb (w.heap.size + 1 + 1 + 1 + 1) (by (try simp only [World.size_alloc, World.size_setCell, World.size_drew]); omega); (try simp [go_sem] at y4); (try simp [go_sem] at x4); (try simp [tag_alloc, tag_set, tag_drew, tagObj] at q4))); (try (have z5 : w.heap.size + 1 + 1 + 1 + 1 + 1 < w1.heap.size := (by omega); have y5 := fun o => hb.cell (p := ⟨w.heap.size + 1 + 1 + 1 + 1 + 1, o, none⟩) (by (try simp only [World.size_alloc, World.size_setCell, World.size_drew]); omega); have x5 := fun o => hb.frozen (p := ⟨w.heap.size + 1 + 1 + 1 + 1 + 1, o, none⟩) (by (try simp only [World.size_alloc, World.size_setCell, World.size_drew]); omega); have q5 := tag_below hb (w.heap.size + 1 + 1 + 1 + 1 + 1) (by (try simp only [World.size_alloc, World.size_setCell, World.size_drew]); omega); (try simp [go_sem] at y5); (try simp [go_sem] at x5); (try simp [tag_alloc, tag_set, tag_drew, tagObj] at q5))); (try (have z6 : w.heap.size + 1 + 1 + 1 + 1 + 1 + 1 < w1.heap.size := (by omega); have y6 := fun o => hb.cell (p := ⟨w.heap.size + 1 + 1 + 1 + 1 + 1 + 1, o, none⟩) (by (try simp only [World.size_alloc, World.size_setCell, World.size_drew]); omega); have x6 := fun o => hb.frozen (p := ⟨w.heap.size + 1 + 1 + 1 + 1 + 1 + 1, o, none⟩) (by (try simp only [World.size_alloc, World.size_setCell, World.size_drew]); omega); have q6 := tag_below hb (w.heap.size + 1 + 1 + 1 + 1 + 1 + 1) (by (try simp only [World.size_alloc, World.size_setCell, World.size_drew]); omega); (try simp [go_sem] at y6); (try simp [go_sem] at x6); (try simp [tag_alloc, tag_set, tag_drew, tagObj] at q6))); (try (have z7 : w.heap.size + 1 + 1 + 1 + 1 + 1 + 1 + 1 < w1.heap.size := (by omega); have y7 := fun o => hb.cell (p := ⟨w.heap.size + 1 + 1 + 1 + 1 + 1 + 1 + 1, o, none⟩) (by (try simp only [World.size_alloc, World.size_setCell, World.size_drew]); omega); have x7 := fun o => hb.frozen (p := ⟨w.heap.size + 1 + 1 + 1 + 1 + 1 + 1 + 1, o, none⟩) (by (try simp only [World.size_alloc, World.size_setCell, World.size_drew]); omega); have q7 := tag_below hb (w.heap.size + 1 + 1 + 1 + 1 + 1 + 1 + 1) (by (try simp only [World.size_alloc, World.size_setCell, World.size_drew]); omega); (try simp [go_sem] at y7); (try simp [go_sem] at x7); (try simp [tag_alloc, tag_set, tag_drew, tagObj] at q7))); obtain ⟨hc, hf⟩ := bcell hb; have ht := tag_below hb))
  have HL1 : Laid w1 := HL.out.later (by ((repeat with_reducible first | exact Below.refl _ _ | apply b_alloc | apply b_drewN | apply b_drew | refine b_set ?_ ?_ _ | (refine bstep ?_ (by assumption))); (all_goals (simp; try omega))))
  (go_at_call 13; refine (replaceAll_any s ⟨#[39]⟩ ⟨#[39, 39]⟩ _ HL1 (by omega) (by decide) (by decide)).mono ?_; rintro e w1 ⟨v, rfl, ⟨r, rfl, hr⟩, hb⟩; have hrz : r.size ≤ 1000 := (by rw [Lib.size_eq, hr]; exact replaceAll_size _ (by rw [← Lib.size_eq]; exact hs)); have HS := Lib.hid hr; clear hr; have hz := hb.size; (try simp only [World.size_alloc, World.size_setCell, World.size_drew] at hz); (try (have z0 : w.heap.size < w1.heap.size := (by omega); have y0 := fun o => hb.cell (p := ⟨w.heap.size, o, none⟩) (by (try simp only [World.size_alloc, World.size_setCell, World.size_drew]); omega); have x0 := fun o => hb.frozen (p := ⟨w.heap.size, o, none⟩) (by (try simp only [World.size_alloc, World.size_setCell, World.size_drew]); omega); have q0 := tag_below hb (w.heap.size) (by (try simp only [World.size_alloc, World.size_setCell, World.size_drew]); omega); (try simp [go_sem] at y0); (try simp [go_sem] at x0); (try simp [tag_alloc, tag_set, tag_drew, tagObj] at q0))); (try (have z1 : w.heap.size + 1 < w1.heap.size := (by omega); have y1 := fun o => hb.cell (p := ⟨w.heap.size + 1, o, none⟩) (by (try simp only [World.size_alloc, World.size_setCell, World.size_drew]); omega); have x1 := fun o => hb.frozen (p := ⟨w.heap.size + 1, o, none⟩) (by (try simp only [World.size_alloc, World.size_setCell, World.size_drew]); omega); have q1 := tag_below hb (w.heap.size + 1) (by (try simp only [World.size_alloc, World.size_setCell, World.size_drew]); omega); (try simp [go_sem] at y1); (try simp [go_sem] at x1); (try simp [tag_alloc, tag_set, tag_drew, tagObj] at q1))); (try (have z2 : w.heap.size + 1 + 1 < w1.heap.size := (by omega); have y2 := fun o => hb.cell (p := ⟨w.heap.size + 1 + 1, o, none⟩) (by (try simp only [World.size_alloc, World.size_setCell, World.size_drew]); omega); have x2 := fun o => hb.frozen (p := ⟨w.heap.size + 1 + 1, o, none⟩) (by (try simp only [World.size_alloc, World.size_setCell, World.size_drew]); omega); have q2 := tag_below hb (w.heap.size + 1 + 1) (by (try simp only [World.size_alloc, World.size_setCell, World.size_drew]); omega); (try simp [go_sem] at y2); (try simp [go_sem] at x2); (try simp [tag_alloc, tag_set, tag_drew, tagObj] at q2))); (try (have z3 : w.heap.size + 1 + 1 + 1 < w1.heap.size := (by omega); have y3 := fun o => hb.cell (p := ⟨w.heap.size + 1 + 1 + 1, o, none⟩) (by (try simp only [World.size_alloc, World.size_setCell, World.size_drew]); omega); have x3 := fun o => hb.frozen (p := ⟨w.heap.size + 1 + 1 + 1, o, none⟩) (by (try simp only [World.size_alloc, World.size_setCell, World.size_drew]); omega); have q3 := tag_below hb (w.heap.size + 1 + 1 + 1) (by (try simp only [World.size_alloc, World.size_setCell, World.size_drew]); omega); (try simp [go_sem] at y3); (try simp [go_sem] at x3); (try simp [tag_alloc, tag_set, tag_drew, tagObj] at q3))); (try (have z4 : w.heap.size + 1 + 1 + 1 + 1 < w1.heap.size := (by omega); have y4 := fun o => hb.cell (p := ⟨w.heap.size + 1 + 1 + 1 + 1, o, none⟩) (by (try simp only [World.size_alloc, World.size_setCell, World.size_drew]); omega); have x4 := fun o => hb.frozen (p := ⟨w.heap.size + 1 + 1 + 1 + 1, o, none⟩) (by (try simp only [World.size_alloc, World.size_setCell, World.size_drew]); omega); have q4 := tag_below hb (w.heap.size + 1 + 1 + 1 + 1) (by (try simp only [World.size_alloc, World.size_setCell, World.size_drew]); omega); (try simp [go_sem] at y4); (try simp [go_sem] at x4); (try simp [tag_alloc, tag_set, tag_drew, tagObj] at q4))); (try (have z5 : w.heap.size + 1 + 1 + 1 + 1 + 1 < w1.heap.size := (by omega); have y5 := fun o => hb.cell (p := ⟨w.heap.size + 1 + 1 + 1 + 1 + 1, o, none⟩) (by (try simp only [World.size_alloc, World.size_setCell, World.size_drew]); omega); have x5 := fun o => hb.frozen (p := ⟨w.heap.size + 1 + 1 + 1 + 1 + 1, o, none⟩) (by (try simp only [World.size_alloc, World.size_setCell, World.size_drew]); omega); have q5 := tag_below hb (w.heap.size + 1 + 1 + 1 + 1 + 1) (by (try simp only [World.size_alloc, World.size_setCell, World.size_drew]); omega); (try simp [go_sem] at y5); (try simp [go_sem] at x5); (try simp [tag_alloc, tag_set, tag_drew, tagObj] at q5))); (try (have z6 : w.heap.size + 1 + 1 + 1 + 1 + 1 + 1 < w1.heap.size := (by omega); have y6 := fun o => hb.cell (p := ⟨w.heap.size + 1 + 1 + 1 + 1 + 1 + 1, o, none⟩) (by (try simp only [World.size_alloc, World.size_setCell, World.size_drew]); omega); have x6 := fun o => hb.frozen (p := ⟨w.heap.size + 1 + 1 + 1 + 1 + 1 + 1, o, none⟩) (by (try simp only [World.size_alloc, World.size_setCell, World.size_drew]); omega); have q6 := tag_below hb (w.heap.size + 1 + 1 + 1 + 1 + 1 + 1) (by (try simp only [World.size_alloc, World.size_setCell, World.size_drew]); omega); (try simp [go_sem] at y6); (try simp [go_sem] at x6); (try simp [tag_alloc, tag_set, tag_drew, tagObj] at q6))); (try (have z7 : w.heap.size + 1 + 1 + 1 + 1 + 1 + 1 + 1 < w1.heap.size := (by omega); have y7 := fun o => hb.cell (p := ⟨w.heap.size + 1 + 1 + 1 + 1 + 1 + 1 + 1, o, none⟩) (by (try simp only [World.size_alloc, World.size_setCell, World.size_drew]); omega); have x7 := fun o => hb.frozen (p := ⟨w.heap.size + 1 + 1 + 1 + 1 + 1 + 1 + 1, o, none⟩) (by (try simp only [World.size_alloc, World.size_setCell, World.size_drew]); omega); have q7 := tag_below hb (w.heap.size + 1 + 1 + 1 + 1 + 1 + 1 + 1) (by (try simp only [World.size_alloc, World.size_setCell, World.size_drew]); omega); (try simp [go_sem] at y7); (try simp [go_sem] at x7); (try simp [tag_alloc, tag_set, tag_drew, tagObj] at q7))); obtain ⟨hc, hf⟩ := bcell hb; have ht := tag_below hb)
  go_wp2
  go_ret
  exact retS_of (by simp [HS.out]) (by ((repeat with_reducible first | exact Below.refl _ _ | apply b_alloc | apply b_drewN | apply b_drew | refine b_set ?_ ?_ _ | (refine bstep ?_ (by assumption))); (all_goals (simp; try omega))))

theorem right_kind {k n : Int} {s : ByteArray} (h : rightB k n s = true) : k = 0 ∨ k = 1 ∨ k = 2 ∨ k = 3 ∨ k = 4 ∨ k = 5 := by
  unfold rightB at h
  split at h
  · omega
  · split at h
    · omega
    · split at h
      · omega
      · split at h
        · omega
        · cases h
theorem right_size {k n : Int} {s : ByteArray} (h : rightB k n s = true) : s.size ≤ 200 := by
  have he : (s.toList == []) = true → s.size ≤ 200 := fun h => by
    have h1 : s = ⟨#[]⟩ := ba_ext.1 (by simpa using h)
    subst h1; decide
  unfold rightB at h
  split at h
  · exact he h
  · split at h
    · exact he (by simp only [Bool.and_eq_true] at h; exact h.2)
    · split at h
      · exact he h
      · split at h
        · simp only [Bool.and_eq_true, decide_eq_true_eq] at h; omega
        · cases h

/-- value.Text. -/
theorem text_any (k n : Int) (s : ByteArray) (w : World) (hl : Laid w) (h0 : -9223372036854775808 ≤ n) (h1 : n ≤ 9223372036854775807) :
    Calls Tryz.prog 4 #[.agg #[.int .i64 k, .int .i64 n, .string s]] w (RetS w (textL k n s)) := by
  unfold textL
  cases hr : rightB k n s
  · rw [if_pos rfl]
    exact (text_wrong k n s w hr).mono fun e w' ⟨he, hb⟩ => by subst he; exact retS_of rfl hb
  · rw [if_neg (by simp)]
    have hs := right_size hr
    rcases right_kind hr with rfl | rfl | rfl | rfl | rfl | rfl
    · exact (text_null 0 n s w hr rfl).mono fun e w' ⟨he, hb⟩ => by subst he; exact retS_of rfl hb
    · exact (text_bool 1 n s w hr rfl rfl).mono fun e w' ⟨he, hb⟩ => by subst he; exact retS_of (by simp) hb
    · exact text_int 2 n s w hl hr rfl rfl rfl h0 h1
    · exact text_dec 3 n s w hl hr rfl rfl rfl rfl h0 h1
    · exact text_text 4 n s w hl hr rfl rfl rfl rfl rfl hs
    · exact text_bytes 5 n s w hr rfl rfl rfl rfl rfl hs

end Go.Proofs.YtodhdbikbdlcaaaGreatDoor
