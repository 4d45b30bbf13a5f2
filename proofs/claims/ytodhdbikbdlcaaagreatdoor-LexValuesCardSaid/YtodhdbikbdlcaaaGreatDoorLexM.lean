/-
  A text's tokens: a text that is not too long.
-/
import Derived.Test.YtodhdbikbdlcaaaGreatDoorLexL
namespace Go.Proofs.YtodhdbikbdlcaaaGreatDoor
set_option linter.unusedSimpArgs false
set_option linter.unusedVariables false
open Go.RowKit

theorem cells_new {w : World} {t : Tok} {cs : Array Value} {ty : TypeId} {b : Nat} (hb : b = w.heap.size) (hcs : cs.toList = t.cells) : ∀ (j : Nat) (u : Value), t.cells[j]? = some u → (w.alloc (.cells cs ty)).cell? ((⟨b, 0, none⟩ : Addr).add j) = some u := by
  intro j u hu
  subst hb
  rw [← hcs] at hu
  have e : ((⟨w.heap.size, 0, none⟩ : Addr).add j) = ⟨w.heap.size, j, none⟩ := by
    unfold Addr.add; split
    · rename_i h; rw [h]
    · simp
  rw [e]
  have : (w.alloc (.cells cs ty)).cell? ⟨w.heap.size, j, none⟩ = cs[j]? := by simp [go_sem]
  rw [this, ← hu]; simp
theorem fin_l {P : Program} {fn : Func} {a : Act} {W w : World} {s : List UInt8} {l : List Tok} {v : Value} (hr : lexL s = .ok l) (ho : OwnT W w.heap.size v l) (hb : Below w.heap.size w W) (hd : a.defers = [])
    (hres : (results fn a.tmps).run P W = .ok (.tuple #[v, .nilIface]) W) : bodyPost P fn (RetL w (lexL s)) .ret a W := bodyPost_ret hres hd ⟨_, rfl, by rw [hr]; exact ⟨_, rfl, ho⟩, hb⟩

set_option maxRecDepth 100000 in
set_option maxHeartbeats 3200000 in
theorem lex_short (s : ByteArray) (w : World) (hl : Laid w) (hs : s.size ≤ 1000) : Calls Tryz.prog 7 #[.string s] w (RetL w (lexL s.data.toList)) := by
  have HL := Lib.hid hl; clear hl
  have HR : Hid (lexL s.data.toList = lexA s.data.toList 0) := Lib.hid (by unfold lexL; rw [if_neg (by rw [← Lib.size_eq]; omega)])
  go_enter Tryz.func7, Tryz.ntmps7
  go_wp2_with fail
  go_loopw [4, 5] (fun v i wr => ∃ (k : Nat) (acc : List Tok), k ≤ s.size ∧ acc.length ≤ k ∧ i = .int .i64 k ∧ Hid (OwnT wr w.heap.size v acc) ∧ Hid (lexA s.data.toList 0 = LexR.app acc (lexA (s.data.toList.drop k) k)) ∧ Hid (Below w.heap.size w wr)) (fun _ i _ => s.size - (intOf i).toNat)
  case atStart => exact ⟨0, [], Nat.zero_le _, by simp, rfl, Lib.hid (OwnT.nil _ _), Lib.hid (by rw [app_nil]; rfl), Lib.hid (Below.refl _ _)⟩
  case round =>
    obtain ⟨k, acc, hk, hacc, rfl, HO, HA, HB⟩ := hrel
    have hsz := HB.out.size
    by_cases hlt : k < s.size
    · have hd : s.data.toList.drop k = s[k] :: s.data.toList.drop (k + 1) := by
        rw [List.drop_eq_getElem_cons (by simpa using hlt)]; rfl
      have hki : (k : Int) ≤ s.size := by omega
      have hc := (s[k]).toNat_lt
      by_cases hbl : ofB s[k] = 1
      · have HA2 : Hid (lexA s.data.toList 0 = LexR.app acc (lexA (s.data.toList.drop (k + 1)) (k + 1 : Nat))) := Lib.hid (by
          rw [HA.out, hd, lexA_blank _ hbl]; rfl)
        have HO1 := Lib.hid hbl
        clear hd hbl
        go_wp2_with (go_at_call 15; refine (of_any _ _).mono ?_; rintro e w2 ⟨rfl, rfl⟩; (rw [HO1.out]))
        go_roundw
        case rel => exact ⟨k + 1, acc, by omega, by omega, by go_num, HO, HA2, HB⟩
        case measure => simp [intOf]; omega
      · have hb2 : (((ofB s[k] : Nat) : Int) == 1) = false := beq_eq_false_iff_ne.2 (by omega)
        obtain ⟨t, ht⟩ : ∃ t, nextT (s.data.toList.drop k) = t := ⟨_, rfl⟩
        have HE : Hid (nextT (s.extract k s.size).data.toList = t) := Lib.hid (by rw [Lib.extract_to_end]; exact ht)
        by_cases htt : t.t = []
        · have HA2 : Hid (lexL s.data.toList = .bad k) := Lib.hid (by
            rw [HR.out, HA.out, hd, lexA_bad _ hbl (by rw [← hd, ht]; exact htt)]; rfl)
          obtain ⟨tk, tt, tvk, tvn, tvs, tat⟩ := t
          have htt' : tt = [] := htt
          subst htt'
          clear hd ht htt hbl
          go_wp2_with (go_at_call 15; refine (of_any _ _).mono ?_; rintro e w2 ⟨rfl, rfl⟩)
          refine (next_any _ _ (HL.out.later HB.out) (by rw [ByteArray.size_extract]; omega) (by rw [ByteArray.size_extract]; omega)).mono ?_
          rintro e w1 ⟨rfl, hb⟩
          rw [HE.out]
          have HB1 := Lib.hid hb
          clear hb
          unfold Tok.enc
          go_wp2_with fail
          refine (newE_any _ _ rfl _).mono ?_
          rintro e w2 ⟨v, rfl, hv, hb⟩
          have HV := Lib.hid hv; clear hv
          go_wp2_with fail
          go_ret2
          rw [HA2.out]
          refine ⟨_, rfl, ⟨_, rfl, HV.out⟩, ?_⟩
          have hb1 := bstep HB.out HB1.out
          ((repeat with_reducible first | exact Below.refl _ _ | apply b_alloc | apply b_drewN | apply b_drew | refine b_set ?_ ?_ _ | (refine bstep ?_ (by assumption))); (all_goals (simp; try omega)))
        · have HA2 : Hid (lexA s.data.toList 0 = LexR.app (acc ++ [t.at k]) (lexA (s.data.toList.drop (k + t.t.length)) (k + t.t.length : Nat))) := Lib.hid (by
            rw [HA.out, hd, lexA_tok _ hbl (by rw [← hd, ht]; exact htt), ← hd, ht, app_cons, List.drop_drop]; rfl)
          have hlen : k + t.t.length ≤ s.size := by
            have := (nextT_of (by rw [ht]; exact htt)).len
            rw [ht, List.length_drop, ← Lib.size_eq] at this
            omega
          have hpos : 1 ≤ t.t.length := List.length_pos_iff.2 htt
          clear hd ht hbl
          have HTT := Lib.hid htt; clear htt
          go_wp2_with (go_at_call 15; refine (of_any _ _).mono ?_; rintro e w2 ⟨rfl, rfl⟩)
          refine (next_any _ _ (HL.out.later HB.out) (by rw [ByteArray.size_extract]; omega) (by rw [ByteArray.size_extract]; omega)).mono ?_
          rintro e w1 ⟨rfl, hb⟩
          rw [HE.out]
          have HB1 := Lib.hid hb
          clear hb
          unfold Tok.enc
          have hte : t.t.isEmpty = false := by
            cases h : t.t with
            | nil => exact absurd h HTT.out
            | cons a b => rfl
          have HB2 := Lib.hid (bstep HB.out HB1.out)
          have hz2 := HB2.out.size
          have hne1 : u4.ownBlock ≠ some w1.heap.size := fun e => by
            have h1 := ownT_lt HO.out _ e
            have h2 := HB1.out.size
            omega
          go_wp2_with (at_builtin; refine wpList_append_tok rfl (.tmp 33) (.tmp 35) rfl w.heap.size u4 acc rfl (OwnT.later (HO.out.later HB1.out) (b_alloc (b_alloc (Below.refl _ _) _) _)) ⟨w1.heap.size + 1, 0, none⟩ 1 (t.at k) rfl (cells_new (by simp) rfl) (by omega) (by simp; omega) ?_; intro v' w3 hown hbel hkeep; have HOW := Lib.hid hown; have HBE := Lib.hid hbel; have hx1 : w3.cell? ⟨w1.heap.size, 1, none⟩ = some (.string ⟨t.t.toArray⟩) := (hkeep ⟨w1.heap.size, 1, none⟩ (by simp; omega) hne1).trans (by simp [go_sem]); clear hown hbel hkeep)
          go_roundw
          case rel =>
            refine ⟨k + t.t.length, acc ++ [t.at k], hlen, by simp; omega, by go_num, HOW, HA2, Lib.hid ?_⟩
            exact (b_alloc (b_alloc HB2.out _) _).trans HBE.out
          case measure => simp [intOf]; omega
    · have hge : s.size ≤ k := by omega
      have HA2 : Hid (lexL s.data.toList = .ok (acc ++ [Tok.fin s.size])) := Lib.hid (by
        have e : k = s.size := by omega
        rw [HR.out, HA.out, List.drop_eq_nil_of_le (by simp; omega), lexA_nil, e]; rfl)
      go_wp2_with (at_builtin; refine wpList_append_tok rfl (.tmp 42) (.tmp 46) rfl w.heap.size u4 acc rfl (HO.out.later (b_alloc (Below.refl _ _) _)) ⟨wr.heap.size, 0, none⟩ 1 (Tok.fin s.size) rfl (cells_new rfl rfl) (by omega) (by simp; omega) ?_; intro v' w3 hown hbel hkeep; have HOW := Lib.hid hown; have HBE := Lib.hid hbel; clear hown hbel)
      refine fin_l HA2.out HOW.out ?_ rfl ?_
      · exact (b_alloc HB.out _).trans HBE.out
      · simp [results, Tryz.results7, go_sem, *]

end Go.Proofs.YtodhdbikbdlcaaaGreatDoor
