/-
  Small lemmas and words that all texts of this seat share: what a call's ending says ('Ret'), errors as trees ('ErrIs').
-/
import Derived.Test.YtodhdbikbdlcaaaGreatDoorRows
import Derived.WalkKit
import Derived.WalkSpells
import Derived.WalkLawsBesides
import Derived.WalkSmall
import Derived.Below
import Derived.Lib.Hide
import Derived.Deep.Light
import Derived.Deep.DeepFit
import Derived.Deep.QuietTactic
import Derived.BigQuiet
import Derived.Deep.RegionWith
import Derived.Deep.RegionHeld3
import Derived.StillTailTactics
import Derived.Deep.DeepCutAuto
import Derived.Deep.LoopGhost
import Derived.IntWalk
import Derived.Lib.SlicesS
namespace Go.Proofs.YtodhdbikbdlcaaaGreatDoor
set_option linter.unusedSimpArgs false
set_option linter.unusedVariables false
open Go.RowKit

theorem ret_bool {a b : Bool} (h : a = b) : Ending.returned (.bool a) = .returned (.bool b) := by rw [h]
theorem ret_int {k : IntKind} {a b : Int} (h : a = b) : Ending.returned (.int k a) = .returned (.int k b) := by rw [h]
theorem ret_str {a b : ByteArray} (h : a = b) : Ending.returned (.string a) = .returned (.string b) := by rw [h]

theorem ba_ext {a b : ByteArray} : a.toList = b.toList ↔ a = b := ⟨fun h => by
  have := (Lib.bytes_beq_false_iff a b).1
  rcases Classical.em (a = b) with e | e
  · exact e
  · have h2 := (Lib.bytes_beq_false_iff a b).2 e
    rw [h] at h2; simp at h2, fun h => by rw [h]⟩

theorem bcell {W w1 : World} (hb : Below W.heap.size W w1) : (∀ b o, b < W.heap.size → w1.cell? ⟨b, o, none⟩ = W.cell? ⟨b, o, none⟩) ∧ (∀ b o, b < W.heap.size → w1.frozen? ⟨b, o, none⟩ = W.frozen? ⟨b, o, none⟩) :=
  ⟨fun b o h => hb.cell (p := ⟨b, o, none⟩) h, fun b o h => hb.frozen (p := ⟨b, o, none⟩) h⟩

theorem bstep {w W w1 : World} (h : Below w.heap.size w W) (hb : Below W.heap.size W w1) : Below w.heap.size w w1 := h.trans (hb.mono h.size)
theorem b_alloc {w W : World} (h : Below w.heap.size w W) (o : Obj) : Below w.heap.size w (W.alloc o) := h.alloc h.size o
theorem b_drewN {w W : World} (h : Below w.heap.size w W) (n : Nat) : Below w.heap.size w (W.drewN n) := ⟨h.os, h.tape, h.output, h.size, h.block⟩
theorem b_drew {w W : World} (h : Below w.heap.size w W) : Below w.heap.size w W.drew := h.drew
theorem b_set {w W : World} (h : Below w.heap.size w W) {p : Addr} (hp : w.heap.size ≤ p.block) (u : Value) : Below w.heap.size w (W.setCell p u) := h.setCell hp u
theorem b_drewN_l {w W : World} {n : Nat} (h : Below (w.drewN n).heap.size (w.drewN n) W) : Below w.heap.size w W := ⟨h.os, h.tape, h.output, h.size, h.block⟩
theorem heap_new (w : World) (o : Obj) : (w.alloc o).heap[w.heap.size]? = some o := by show (w.heap.push o)[w.heap.size]? = some o; simp

/-- A call that returns a value of which Q holds, in a world that has only grown. -/
def Ret (w : World) (Q : Value → World → Prop) (e : Ending) (w' : World) : Prop := ∃ v, e = .returned v ∧ Q v w' ∧ Below w.heap.size w w'

/-- An error as a tree. -/
inductive Err where
  | none
  | fault (code at_ : Int) (under : Err)
deriving DecidableEq

/-- How an error lies in memory: nil, or a fault's block. -/
def ErrIs (w : World) : Err → Value → Prop
  | .none, v => v = .nilIface
  | .fault c a u, v => ∃ (b : Nat) (uv : Value), v = .iface 50 (.pointer (some ⟨b, 0, none⟩)) ∧ w.heap[b]? = some (.cells #[.int .i64 c, .int .i64 a, uv] 53 (0, 0)) ∧ ErrIs w u uv

/-- What type of element a block holds. -/
def tagOf (w : World) (q : Nat) : Option TypeId :=
  match w.heap[q]? with
  | some (.cells _ t _) => some t
  | _ => none
def tagObj : Obj → Option TypeId
  | .cells _ t _ => some t
  | _ => none
theorem tagOf_obj (w : World) (q : Nat) : tagOf w q = (w.heap[q]?).bind tagObj := by
  unfold tagOf
  cases h : w.heap[q]? with
  | none => rfl
  | some o => cases o <;> rfl
theorem tag_alloc (w : World) (o : Obj) (q : Nat) : tagOf (w.alloc o) q = if q = w.heap.size then tagObj o else tagOf w q := by
  rw [tagOf_obj, tagOf_obj]
  by_cases h : q = w.heap.size
  · subst h; rw [heap_new]; simp
  · rw [if_neg h]
    rcases Nat.lt_or_ge q w.heap.size with hl | hl
    · rw [Below.heap_alloc w o q hl]
    · rw [Array.getElem?_eq_none (by simp; omega), Array.getElem?_eq_none hl]
theorem tag_set (w : World) (a : Addr) (v : Value) (q : Nat) : tagOf (w.setCell a v) q = tagOf w q := by
  by_cases h : q = a.block
  · subst h
    rw [tagOf_obj, tagOf_obj]
    simp only [World.setCell, Array.getElem?_modify, if_true]
    cases h : w.heap[a.block]? with
    | none => rfl
    | some o => cases o <;> rfl
  · rw [tagOf_obj, tagOf_obj, Below.heap_setCell w a v q h]
theorem tag_below {W w1 : World} {B : Nat} (hb : Below B W w1) : ∀ q, q < B → tagOf w1 q = tagOf W q := fun q h => by rw [tagOf_obj, tagOf_obj, hb.block q h]
theorem tag_drew (w : World) (q : Nat) : tagOf w.drew q = tagOf w q := rfl
theorem tag_drewN (w : World) (n q : Nat) : tagOf (w.drewN n) q = tagOf w q := rfl

/-- The blocks of faults stay as they are. -/
def Keeps (w w' : World) : Prop := ∀ (b : Nat) (cs : Array Value) (f : Nat × Nat), w.heap[b]? = some (.cells cs 53 f) → w'.heap[b]? = some (.cells cs 53 f)
theorem Keeps.refl (w : World) : Keeps w w := fun _ _ _ h => h
theorem Keeps.trans {a b c : World} (h : Keeps a b) (k : Keeps b c) : Keeps a c := fun q cs f hq => k q cs f (h q cs f hq)
theorem lt_of_get {w : World} {b : Nat} {o : Obj} (h : w.heap[b]? = some o) : b < w.heap.size := by
  rcases Nat.lt_or_ge b w.heap.size with h' | h'
  · exact h'
  · rw [Array.getElem?_eq_none h'] at h; cases h
theorem Keeps.below {w w' : World} (hb : Below w.heap.size w w') : Keeps w w' := fun b cs f h => by rw [← h]; exact hb.block b (lt_of_get h)
theorem Keeps.step {a w w' : World} (h : Keeps a w) (hb : Below w.heap.size w w') : Keeps a w' := h.trans (.below hb)
theorem Keeps.alloc {a w : World} (h : Keeps a w) (o : Obj) : Keeps a (w.alloc o) := h.trans (.below ((Below.refl _ _).alloc (Nat.le_refl _) _))
theorem Keeps.drew {a w : World} (h : Keeps a w) : Keeps a w.drew := h
theorem Keeps.drewN {a w : World} (h : Keeps a w) (n : Nat) : Keeps a (w.drewN n) := h
theorem Keeps.set {a w : World} (h : Keeps a w) {p : Addr} (v : Value) (hp : tagOf w p.block ≠ some 53) : Keeps a (w.setCell p v) := h.trans fun b cs f hb => by
  rw [Below.heap_setCell w p v b (fun e => hp (by rw [← e, tagOf_obj, hb]; rfl))]; exact hb

theorem ErrIs.keeps {w w' : World} (hk : Keeps w w') : ∀ {e : Err} {v : Value}, ErrIs w e v → ErrIs w' e v
  | .none, _, h => h
  | .fault _ _ _, _, ⟨b, uv, h1, h2, h3⟩ => ⟨b, uv, h1, hk _ _ _ h2, h3.keeps hk⟩
theorem ErrIs.later {w w' : World} (hb : Below w.heap.size w w') {e : Err} {v : Value} (h : ErrIs w e v) : ErrIs w' e v := h.keeps (.below hb)
theorem ErrIs.open {w : World} {c a : Int} {u : Err} {v : Value} (h : ErrIs w (.fault c a u) v) : ∃ b : Nat, v = .iface 50 (.pointer (some ⟨b, 0, none⟩)) := let ⟨b, _, h1, _, _⟩ := h; ⟨b, h1⟩
theorem ErrIs.nil (w : World) : ErrIs w .none .nilIface := rfl

end Go.Proofs.YtodhdbikbdlcaaaGreatDoor
