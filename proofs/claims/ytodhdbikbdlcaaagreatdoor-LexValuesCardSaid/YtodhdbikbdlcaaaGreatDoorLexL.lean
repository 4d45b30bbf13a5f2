/-
  A text's tokens.
-/
import Derived.Test.YtodhdbikbdlcaaaGreatDoorLexX
import Derived.Test.YtodhdbikbdlcaaaGreatDoorPureLex3
namespace Go.Proofs.YtodhdbikbdlcaaaGreatDoor
set_option linter.unusedSimpArgs false
set_option linter.unusedVariables false
open Go.RowKit

def Tok.cells (t : Tok) : List Value := [.int .i64 t.k, .string ⟨t.t.toArray⟩, .int .i64 t.vk, .int .i64 t.vn, .string ⟨t.vs.toArray⟩, .int .i64 t.at_]
def tokV (l : List Tok) : List Value := l.flatMap Tok.cells
theorem tokV_length (l : List Tok) : (tokV l).length = l.length * 6 := by
  induction l with
  | nil => rfl
  | cons t l ih => unfold tokV at ih ⊢; rw [List.flatMap_cons, List.length_append, ih, List.length_cons]; simp [Tok.cells]; omega
theorem tokV_append (a b : List Tok) : tokV (a ++ b) = tokV a ++ tokV b := by simp [tokV]
theorem Tryz.infoTok : (Tryz.prog.info? 35).map (fun i => (i.zero, i.size, i.bytes)) = some (some (.agg #[.int .i64 0, .string ⟨#[]⟩, .int .i64 0, .int .i64 0, .string ⟨#[]⟩, .int .i64 0]), 6, 64) := by kernel_rfl

/-- The slice v owns these tokens, in a block of its own from 'base' on. -/
def OwnT (w : World) (base : Nat) (v : Value) (l : List Tok) : Prop := w.ownsRow base 35 6 v l.length (tokV l)
theorem OwnT.nil (w : World) (base : Nat) : OwnT w base (.slice none 0 0) [] := World.ownsRow_nil _ _ _ _
theorem ownT_block {w : World} {base : Nat} {v : Value} {l : List Tok} (h : OwnT w base v l) : ∀ k, v.ownBlock = some k → base ≤ k := by
  intro k hk
  obtain ⟨_, h⟩ := h
  rcases h with ⟨rfl, _⟩ | ⟨g, cap, cur, rfl, hg, _⟩
  · cases hk
  · cases hk; exact hg
theorem OwnT.later {w w' : World} {base : Nat} {v : Value} {l : List Tok} (h : OwnT w base v l) (hb : Below w.heap.size w w') : OwnT w' base v l := by
  obtain ⟨hl, h⟩ := h
  refine ⟨hl, ?_⟩
  rcases h with h | ⟨g, cap, cur, rfl, hbg, hg, h⟩
  · exact .inl h
  · exact .inr ⟨g, cap, cur, rfl, hbg, by rw [← hg]; exact hb.block g (lt_of_get hg), h⟩

theorem ownT_lt {w : World} {base : Nat} {v : Value} {l : List Tok} (h : OwnT w base v l) : ∀ k, v.ownBlock = some k → k < w.heap.size := by
  intro k hk
  obtain ⟨_, h⟩ := h
  rcases h with ⟨rfl, _⟩ | ⟨g, cap, cur, rfl, _, hg, _⟩
  · cases hk
  · cases hk; exact lt_of_get hg

theorem wpList_append_tok {w : World} {ops : Array Oper} {rest : List Oper} {o : Oper} {a : Act} {Q : Exit → Act → World → Prop} (hgd : o.guard = none) (s x : Operand)
    (ho : o.op = .call { callee := .builtin .append, args := #[s, x], argTypes := #[28, 28] }) (base : Nat) (v : Value) (l : List Tok) (hs : a.eval s = v) (hown : OwnT w base v l)
    (ad : Addr) (c : Nat) (t : Tok) (hx : a.eval x = .slice (some ad) 1 c) (hnews : ∀ j u, t.cells[j]? = some u → w.cell? (ad.add j) = some u)
    (hlen : l.length + 1 ≤ 1000000) (hbase : base ≤ w.heap.size)
    (h : ∀ v' w', OwnT w' base v' (l ++ [t]) → Below base w w' → (∀ p : Addr, p.block < w.heap.size → v.ownBlock ≠ some p.block → w'.cell? p = w.cell? p) → wpList Tryz.prog ops Q rest (a.put o.dst v') w') : wpList Tryz.prog ops Q (o :: rest) a w := by
  obtain ⟨i0, hi, hz0, hz1, hz2⟩ := info_parts Tryz.infoTok
  refine wpList_append_own w hgd s x 28 ho base 35 i0 _ 6 64 Tryz.underlying28 hi hz0 hz1 hz2 rfl (by decide) v l.length (tokV l) hs hown ad 1 c t.cells hx rfl hnews ?_ (by unfold maxLen; omega) (by omega) hbase ?_
  · intro u hu
    simp only [Tok.cells, List.mem_cons, List.not_mem_nil, or_false] at hu
    rcases hu with rfl | rfl | rfl | rfl | rfl | rfl <;> rfl
  · intro v' w' h1 h2 _
    refine h v' w' ?_ ((Below.refl base w).grown h2 hbase (ownT_block hown)) (fun p hp hne => World.cell?_of_block (h2.block p.block hp (fun e => hne e.symm)))
    show w'.ownsRow base 35 6 v' (l ++ [t]).length (tokV (l ++ [t]))
    rw [List.length_append, tokV_append]
    have e : tokV [t] = t.cells := by simp [tokV]
    rw [e]; exact h1

/-- A fault of a code other than 0. -/
theorem newE_any (c a : Int) (hc : (c == 0) = false) (w : World) : Calls Tryz.prog 14 #[.int .i64 c, .int .i64 a] w (Ret w fun v w' => ErrIs w' (.fault c a .none) v) := by
  go_enter Tryz.func14, Tryz.ntmps14
  go_wp2
  go_ret
  exact ⟨_, rfl, ⟨w.heap.size, .nilIface, rfl, heap_new _ _, rfl⟩, by ((repeat with_reducible first | exact Below.refl _ _ | apply b_alloc | apply b_drewN | apply b_drew | refine b_set ?_ ?_ _ | (refine bstep ?_ (by assumption))); (all_goals (simp; try omega)))⟩

def LexOut (w' : World) (base : Nat) (v : Value) : LexR → Prop
  | .ok l => ∃ sv, v = .tuple #[sv, .nilIface] ∧ OwnT w' base sv l
  | .bad p => ∃ ev, v = .tuple #[.slice none 0 0, ev] ∧ ErrIs w' (.fault 161 p .none) ev
def RetL (w : World) (r : LexR) : Ending → World → Prop := Ret w fun v w' => LexOut w' w.heap.size v r

set_option maxRecDepth 100000 in
theorem lex_long (s : ByteArray) (w : World) (hs : 1000 < s.size) : Calls Tryz.prog 7 #[.string s] w (RetL w (lexL s.data.toList)) := by
  have HR : Hid (lexL s.data.toList = .bad 0) := Lib.hid (by unfold lexL; rw [if_pos (by rw [← Lib.size_eq]; exact hs)])
  have hi : (1000 : Int) < s.size := by omega
  go_enter Tryz.func7, Tryz.ntmps7
  go_wp2_with fail
  refine (newE_any _ _ rfl _).mono ?_
  rintro e w1 ⟨v, rfl, hv, hb⟩
  have HV := Lib.hid hv; clear hv
  go_wp2_with fail
  go_ret2
  rw [HR.out]
  exact ⟨_, rfl, ⟨_, rfl, HV.out⟩, hb⟩

end Go.Proofs.YtodhdbikbdlcaaaGreatDoor
