/-
  What value.guess comes to of bytes.
-/
import Derived.Test.YtdldhlbnbffieaaGreatDoorVGuess
namespace Go.Proofs.YtdldhlbnbffieaaGreatDoor
set_option linter.unusedSimpArgs false
set_option linter.unusedVariables false
open Go.RowKit

def figsL : List UInt8 := [48, 49, 50, 51, 52, 53, 54, 55, 56, 57, 97, 98, 99, 100, 101, 102]
/-- The byte of two figures' places. -/
def hexByte (i j : Int) : UInt8 := UInt8.ofNat ((i * 16 + j % 16) % 256).toNat
def unhexL : List UInt8 → List UInt8
  | a :: b :: r => hexByte (Lib.indexByte figsL a) (Lib.indexByte figsL b) :: unhexL r
  | _ => []

theorem hexnum_fin : ∀ a b : Fin 17, IntKind.u8.wrap (bits BinOp.or IntKind.i64 (IntKind.i64.wrap (((a.val : Int) - 1) * 16)) (bits BinOp.and IntKind.i64 ((b.val : Int) - 1) 15)) = ((hexByte ((a.val : Int) - 1) ((b.val : Int) - 1)).toNat : Int) := by decide +kernel
theorem indexByte_lt (l : List UInt8) (c : UInt8) : Lib.indexByte l c < l.length ∨ Lib.indexByte l c = -1 := by
  induction l with
  | nil => right; rfl
  | cons b l ih =>
    unfold Lib.indexByte
    split
    · left; simp
    · split
      · right; rfl
      · rename_i h; left; simp only [beq_iff_eq] at h; simp; omega
theorem hexnum (c d : UInt8) : IntKind.u8.wrap (bits BinOp.or IntKind.i64 (IntKind.i64.wrap (Lib.indexByte [48, 49, 50, 51, 52, 53, 54, 55, 56, 57, 97, 98, 99, 100, 101, 102] c * 16)) (bits BinOp.and IntKind.i64 (Lib.indexByte [48, 49, 50, 51, 52, 53, 54, 55, 56, 57, 97, 98, 99, 100, 101, 102] d) 15)) = ((hexByte (Lib.indexByte figsL c) (Lib.indexByte figsL d)).toNat : Int) := by
  have h : ∀ x, -1 ≤ Lib.indexByte figsL x ∧ Lib.indexByte figsL x < 16 := fun x => by
    have h1 := Lib.indexByte_ge figsL x
    have h2 := indexByte_lt figsL x
    have h3 : figsL.length = 16 := rfl
    omega
  have e : ∀ x, ∃ a : Fin 17, Lib.indexByte figsL x = (a.val : Int) - 1 := fun x => ⟨⟨(Lib.indexByte figsL x + 1).toNat, by have := h x; omega⟩, by have := h x; simp; omega⟩
  obtain ⟨a, ha⟩ := e c
  obtain ⟨b, hb⟩ := e d
  show IntKind.u8.wrap (bits BinOp.or IntKind.i64 (IntKind.i64.wrap (Lib.indexByte figsL c * 16)) (bits BinOp.and IntKind.i64 (Lib.indexByte figsL d) 15)) = _
  rw [ha, hb]; exact hexnum_fin a b

theorem two_ahead (r : ByteArray) (h : 1 < r.size) {c d : UInt8} (hc : r[0]'(by omega) = c) (hd : r[1]'(by omega) = d) : r.data.toList = c :: d :: (r.extract 2 r.size).data.toList := by
  have hc' : r.data.toList[0]'(by rw [← Lib.size_eq]; omega) = c := hc
  have hd' : r.data.toList[1]'(by rw [← Lib.size_eq]; omega) = d := hd
  rw [Lib.extract_to_end, ← hc', ← hd', List.getElem_cons_drop, List.getElem_cons_drop, List.drop_zero]

theorem unhexL_length : ∀ l : List UInt8, (unhexL l).length * 2 ≤ l.length
  | [] => by simp [unhexL]
  | [_] => by simp [unhexL]
  | a :: b :: r => by have := unhexL_length r; simp [unhexL]; omega

set_option maxRecDepth 100000 in
set_option maxHeartbeats 1600000 in
theorem guess_hex (s : ByteArray) (w : World) (h1 : (s.toList == [110, 117, 108, 108]) = false) (h2 : (s.toList == [116, 114, 117, 101]) = false) (h3 : (s.toList == [102, 97, 108, 115, 101]) = false)
    (hx : Lib.hasPrefix s.data.toList [120, 39] = true) (hsx : Lib.hasSuffix (s.data.toList.drop 2) [39] = true) (hs : s.size ≤ 100000) :
    Calls Tryz.prog 20 #[.string s] w (RetV w ⟨5, 0, ⟨(unhexL ((s.data.toList.drop 2).take (s.size - 3))).toArray⟩⟩) := by
  have hz := suffix_ne (by simp) hsx
  rw [List.length_drop, ← Lib.size_eq] at hz
  have hz2 : 3 ≤ s.size := by omega
  clear hz
  have HX := Lib.hid hx; have HS2 := Lib.hid hsx; clear hx hsx
  go_enter Tryz.func20, Tryz.ntmps20
  go_wp2_with (first | (go_at_call 35; refine (Tryz.strings_HasPrefix _ _ _).mono ?_; rintro e w2 ⟨rfl, rfl⟩; (first | rw [HX.out])) | (go_at_call 36; refine (Tryz.strings_HasSuffix _ _ _ (by rw [ByteArray.size_extract]; omega)).mono ?_; rintro e w2 ⟨rfl, rfl⟩; (rw [Lib.extract_to_end, HS2.out])))
  have hbx : ∀ o, ((w.alloc (Obj.cells #[.int .i64 0, .int .i64 0, .string ⟨#[]⟩] 24)).alloc (Obj.cells #[.int .i64 0, .int .i64 1, .string ⟨#[]⟩] 24)).cell? ⟨w.heap.size, o, none⟩ = #[Value.int .i64 0, .int .i64 0, .string ⟨#[]⟩][o]? := fun o => by simp [go_sem]
  have hfx : ∀ o, ((w.alloc (Obj.cells #[.int .i64 0, .int .i64 0, .string ⟨#[]⟩] 24)).alloc (Obj.cells #[.int .i64 0, .int .i64 1, .string ⟨#[]⟩] 24)).frozen? ⟨w.heap.size, o, none⟩ = false := fun o => by simp [go_sem]
  have hg2 : Below w.heap.size w ((w.alloc (Obj.cells #[.int .i64 0, .int .i64 0, .string ⟨#[]⟩] 24)).alloc (Obj.cells #[.int .i64 0, .int .i64 1, .string ⟨#[]⟩] 24)) := by ((repeat with_reducible first | exact Below.refl _ _ | apply b_alloc | apply b_drewN | apply b_drew | refine b_set ?_ ?_ _ | (refine bstep ?_ (by assumption))); (all_goals (simp; try omega)))
  have hsz2 : ((w.alloc (Obj.cells #[.int .i64 0, .int .i64 0, .string ⟨#[]⟩] 24)).alloc (Obj.cells #[.int .i64 0, .int .i64 1, .string ⟨#[]⟩] 24)).heap.size = w.heap.size + 2 := by simp
  generalize ((w.alloc (Obj.cells #[.int .i64 0, .int .i64 0, .string ⟨#[]⟩] 24)).alloc (Obj.cells #[.int .i64 0, .int .i64 1, .string ⟨#[]⟩] 24)) = w2 at hbx hfx hg2 hsz2 ⊢
  obtain ⟨m, hm⟩ : ∃ m, m = s.extract 2 (s.size - 1) := ⟨_, rfl⟩
  have hmz : m.size ≤ 100000 := by rw [hm, ByteArray.size_extract]; omega
  have HM : Hid (m.data.toList = (s.data.toList.drop 2).take (s.size - 3)) := Lib.hid (by rw [hm, Lib.extract_data, show s.size - 1 - 2 = s.size - 3 by omega])
  rw [← hm, ← HM.out]
  clear hm
  have HBX := Lib.hid hbx; have HFX := Lib.hid hfx; have HG := Lib.hid hg2; have HZ2 := Lib.hid hsz2
  clear hbx hfx hg2 hsz2
  go_loopw [5, 6] (fun v t wr => ∃ (r : ByteArray) (acc : List UInt8), t = .string r ∧ r.size ≤ 100000 ∧ acc.length + r.size ≤ 200000 ∧ Hid (OwnB wr w2.heap.size v acc) ∧ Hid (acc ++ unhexL r.data.toList = unhexL m.data.toList) ∧ Hid (Below w2.heap.size w2 wr)) (fun _ t _ => match t with | .string r => r.size | _ => 0)
  case atStart => exact ⟨m, [], rfl, hmz, by simp; omega, Lib.hid (OwnB.nil _ _), Lib.hid (by simp), Lib.hid (Below.refl _ _)⟩
  case round =>
    obtain ⟨r, acc, rfl, hrz, hal, HO, HU, HB⟩ := hrel
    by_cases hlt : (1 : Int) < (r.size : Int)
    · have hi0 : (0 : Int) < (r.size : Int) := by omega
      have hi0' : 0 < r.size := by omega
      have hi1' : 1 < r.size := by omega
      obtain ⟨c, hc⟩ : ∃ c : UInt8, r[0]'(by omega) = c := ⟨_, rfl⟩
      obtain ⟨d, hd⟩ : ∃ d : UInt8, r[1]'(by omega) = d := ⟨_, rfl⟩
      have HRD : Hid (r.data.toList = c :: d :: (r.extract 2 r.size).data.toList) := Lib.hid (two_ahead r hi1' hc hd)
      have HU' : Hid (acc ++ [hexByte (Lib.indexByte figsL c) (Lib.indexByte figsL d)] ++ unhexL (r.extract 2 r.size).data.toList = unhexL m.data.toList) := Lib.hid (by
        rw [← HU.out, HRD.out, unhexL, List.append_assoc]; rfl)
      have hB := HB.out.size
      go_wp2_with fail
      go_region_law (first | (refine step_append_bytes rfl (.tmp 46) (.tmp 57) rfl w2.heap.size u5 acc rfl (by exact HO.out.later (((Below.refl _ _).alloc (Nat.le_refl _) _).drew)) ⟨wr.heap.size, 0, none⟩ 1 1 [hexByte (Lib.indexByte figsL c) (Lib.indexByte figsL d)] rfl rfl (by intro j u hu; match j, hu with | 0, hu => (simp at hu; subst hu; simp [Addr.add, hexnum])) (by omega) (by simp; omega) ?_; intro v' w3 hown hbel; have HOW := Lib.hid hown; have HBE := Lib.hid hbel; clear hown hbel) | (go_simp; (go_at_call 37; refine (Tryz.strings_IndexByte _ _ _).mono ?_; rintro e w2 ⟨rfl, rfl⟩)))
      all_goals
        go_wp2
        go_roundw
        case rel => exact ⟨_, _, rfl, by rw [ByteArray.size_extract]; omega, by rw [ByteArray.size_extract]; simp; omega, HOW, HU', Lib.hid ((HB.out.alloc HB.out.size _).drew.trans HBE.out)⟩
        case measure => simp; omega
    · have hend : unhexL r.data.toList = [] := by
        have hl : r.data.toList.length ≤ 1 := by rw [← Lib.size_eq]; omega
        match r.data.toList, hl with
        | [], _ => rfl
        | [_], _ => rfl
      have HE : Hid (acc = unhexL m.data.toList) := Lib.hid (by rw [← HU.out, hend, List.append_nil])
      clear hend
      have ks := run_string_own HO.out
      have hlt0 : w.heap.size < w2.heap.size := by rw [HZ2.out]; omega
      have y0 : ∀ o, wr.cell? ⟨w.heap.size, o, none⟩ = #[Value.int .i64 0, .int .i64 0, .string ⟨#[]⟩][o]? := fun o => (HB.out.cell (p := ⟨w.heap.size, o, none⟩) (by simpa using hlt0)).trans (HBX.out o)
      have x0 : ∀ o, wr.frozen? ⟨w.heap.size, o, none⟩ = false := fun o => (HB.out.frozen (p := ⟨w.heap.size, o, none⟩) (by simpa using hlt0)).trans (HFX.out o)
      go_wp2
      refine fin_v (r := ⟨acc.toArray⟩) ?_ ?_ rfl ?_
      · rw [← HM.out]; simp [HE.out]
      · have hw : Below w.heap.size w wr := HG.out.trans (HB.out.mono HG.out.size)
        ((repeat with_reducible first | exact Below.refl _ _ | apply b_alloc | apply b_drewN | apply b_drew | refine b_set ?_ ?_ _ | (refine bstep ?_ (by assumption))); (all_goals (simp; try omega)))
      · simp [results, Tryz.results20, go_sem, *]

end Go.Proofs.YtdldhlbnbffieaaGreatDoor
