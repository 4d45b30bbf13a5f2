/-
  The live question of layer 16's statements answers true.
-/
import Derived.Test.YtodhdbikbdlcaaaGreatDoorLexM
namespace Go.Proofs.YtodhdbikbdlcaaaGreatDoor
set_option linter.unusedSimpArgs false
set_option linter.unusedVariables false
open Go.RowKit

theorem lex_any (s : ByteArray) (w : World) (hl : Laid w) : Calls Tryz.prog 7 #[.string s] w (RetL w (lexL s.data.toList)) := by
  by_cases h : 1000 < s.size
  · exact lex_long s w h
  · exact lex_short s w hl (by omega)

def tget (l : List Tok) (k : Nat) : Tok := l.getD k Tok.no
/-- Tokens in memory, below block B. -/
def TokIs (w : World) (g : Nat) (l : List Tok) : Prop := g < w.heap.size ∧ ∀ k, k < l.length → ∀ j u, (tget l k).cells[j]? = some u → w.cell? ⟨g, k * 6 + j, none⟩ = some u
theorem flat_at : ∀ (l : List Tok) (k j : Nat) (u : Value), k < l.length → (tget l k).cells[j]? = some u → (tokV l)[k * 6 + j]? = some u
  | [], k, _, _, h, _ => absurd h (by simp)
  | t :: l, 0, j, u, _, h => by
    have ht : t.cells[j]? = some u := h
    have hj : j < t.cells.length := (List.getElem?_eq_some_iff.1 ht).1
    unfold tokV
    rw [List.flatMap_cons, List.getElem?_append_left (by omega)]
    simpa using ht
  | t :: l, k + 1, j, u, hk, h => by
    have h' : (tget l k).cells[j]? = some u := h
    have hl : t.cells.length = 6 := rfl
    unfold tokV
    rw [List.flatMap_cons, List.getElem?_append_right (by omega), hl, show (k + 1) * 6 + j - 6 = k * 6 + j by omega]
    exact flat_at l k j u (by simpa using hk) h'
theorem OwnT.form {w : World} {base : Nat} {v : Value} {l : List Tok} (h : OwnT w base v l) (hl : l ≠ []) : ∃ g cap, v = .slice (some ⟨g, 0, none⟩) l.length cap ∧ base ≤ g ∧ l.length ≤ cap ∧ TokIs w g l := by
  have hp : 0 < l.length := List.length_pos_iff.2 hl
  have hc := fun g hg => World.ownsRow.cells h (g := g) hg
  obtain ⟨hn, h⟩ := h
  rcases h with ⟨_, h0⟩ | ⟨g, cap, cur, rfl, hbg, hg, hn2, _⟩
  · omega
  · refine ⟨g, cap, rfl, hbg, hn2, lt_of_get hg, fun k hk j u hu => ?_⟩
    have := hc g rfl (k * 6 + j) u (flat_at l k j u hk hu)
    have e : ((⟨g, 0, none⟩ : Addr).add (k * 6 + j)) = ⟨g, k * 6 + j, none⟩ := by
      unfold Addr.add; split
      · rename_i h; rw [h]
      · simp
    rwa [e] at this

theorem alive_lex : lexL [65, 60, 61, 49, 46, 53, 32, 39, 105, 116, 39, 39, 115, 39] = .ok [⟨1, [97], 0, 0, [], 0⟩, ⟨5, [60, 61], 0, 0, [], 1⟩, ⟨2, [49, 46, 53], 3, 15000, [], 3⟩, ⟨3, [39, 105, 116, 39, 39, 115, 39], 4, 0, [105, 116, 39, 115], 7⟩, ⟨6, [], 0, 0, [], 14⟩] := by decide +kernel

set_option maxRecDepth 100000 in
set_option maxHeartbeats 800000 in
theorem alive16 (w : World) (hl : Laid w) : Calls Tryz.prog 6 #[] w fun e w' => e = .returned (.bool true) ∧ Below w.heap.size w w' := by
  have HL := Lib.hid hl; clear hl
  go_enter Tryz.func6, Tryz.ntmps6
  go_wp2_with fail
  refine (lex_any _ _ HL.out).mono ?_
  rintro e w1 ⟨v, rfl, hv, hb⟩
  rw [show ((⟨#[65, 60, 61, 49, 46, 53, 32, 39, 105, 116, 39, 39, 115, 39]⟩ : ByteArray).data.toList) = [65, 60, 61, 49, 46, 53, 32, 39, 105, 116, 39, 39, 115, 39] from rfl, alive_lex] at hv
  obtain ⟨sv, rfl, ho⟩ := hv
  obtain ⟨g, cap, rfl, hbg, hcap, hg, hc⟩ := ho.form (by simp)
  have e0 := hc 0 (by decide) 1 _ rfl
  have e1 := hc 1 (by decide) 1 _ rfl
  have e2 := hc 2 (by decide) 3 _ rfl
  have e3 := hc 3 (by decide) 4 _ rfl
  have e4 := hc 4 (by decide) 0 _ rfl
  clear hc ho
  have HB := Lib.hid hb; clear hb
  simp only [tget, List.getD_cons_zero, List.getD_cons_succ, Nat.zero_mul, Nat.zero_add, Nat.one_mul, Nat.reduceMul, Nat.reduceAdd, List.length_cons, List.length_nil] at e0 e1 e2 e3 e4 hcap ⊢
  go_wp2_with fail
  go_ret
  exact ⟨rfl, HB.out⟩

end Go.Proofs.YtodhdbikbdlcaaaGreatDoor
