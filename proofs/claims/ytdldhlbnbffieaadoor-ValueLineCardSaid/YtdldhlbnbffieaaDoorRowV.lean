/-
  Arguments of values opened: a value's three cells, a slice of values, an array of two such slices.
-/
import Derived.Test.YtdldhlbnbffieaaDoorRowD
import Derived.Test.YtdldhlbnbffieaaDoorCmpRows
namespace Go.Proofs.YtdldhlbnbffieaaDoor
set_option linter.unusedSimpArgs false
set_option linter.unusedVariables false
open Go.ChangeShapes Go.WideShapes Go.ChangeAt Go.RowKit Go.Deep

instance : Inhabited Val := ⟨Val.zero⟩

set_option maxRecDepth 100000 in
theorem trod_val {H : Type} {enc : TypeId × Value → H} {W : World} {base n : Nat} {sp : Nat → Bool} {held : Bool} {cs : List Value} {x : DataW H × List MemPlace}
    (h : DataW.trod enc Tryd.prog W base sp held n 24 cs = some x) :
    ∃ y : Val, cs = [.int .i64 y.k, .int .i64 y.n, .string y.s] ∧ (-9223372036854775808 ≤ y.n ∧ y.n ≤ 9223372036854775807) ∧ y.s.size ≤ maxLen := by
  obtain ⟨y0, y1, y2, n', hx, hl, h0, h1, h2⟩ := trod_struct3 Tryd.underlying24 h
  rw [cellsVal] at hl
  match cs, hl with
  | [c0, c1, c2], _ =>
    have k0 : Tryd.prog.cellsOf 22 = 1 := by kernel_rfl
    have k1 : Tryd.prog.cellsOf 2 = 1 := by kernel_rfl
    have k2 : Tryd.prog.cellsOf 9 = 1 := by kernel_rfl
    obtain ⟨z0, e0, _, w0⟩ := DataW.trod_int Tryd.underlying22 (by simpa [k0] using h0)
    obtain ⟨z1, e1, _, w1⟩ := DataW.trod_int Tryd.underlying2 (by simpa [k1] using h1)
    obtain ⟨s, e2, _, ws⟩ := DataW.trod_string Tryd.underlying9 (by simpa [k2] using h2)
    obtain rfl := List.singleton_inj.1 e0
    obtain rfl := List.singleton_inj.1 e1
    obtain rfl := List.singleton_inj.1 e2
    exact ⟨⟨z0, z1, s⟩, rfl, wf_i64 w1, ws⟩

theorem add_one_add (a : Addr) (n : Nat) : a.add (n + 1) = ⟨a.block, a.off + (n + 1), none⟩ := by
  unfold Addr.add
  rw [if_neg (by omega)]

set_option maxRecDepth 100000 in
/-- A slice of values opened. -/
theorem open_vals {H : Type} {enc : TypeId × Value → H} {W : World} {base n : Nat} {sp : Nat → Bool} {held : Bool} {v : Value} {x : DataW H × List MemPlace}
    (h : DataW.trod enc Tryd.prog W base sp held n 40 [v] = some x) :
    ∃ (A : Option Addr) (l : List Val) (c : Nat), v = .slice A l.length c ∧ (l.length ≤ 1000000 → RowIs W W.heap.size A l) ∧ ∀ y ∈ l, (-9223372036854775808 ≤ y.n ∧ y.n ≤ 9223372036854775807) ∧ y.s.size ≤ maxLen := by
  rcases open_slice Tryd.underlying40 h with ⟨e, _⟩ | ⟨a, len, cap, m, n', D, Pl, e, _, hl, _, hmm, _, hx⟩
  · obtain rfl := List.singleton_inj.1 e
    exact ⟨none, [], 0, rfl, fun _ => ⟨by simp, fun h => absurd h (by simp)⟩, fun y hy => absurd hy (by simp)⟩
  · obtain rfl := List.singleton_inj.1 e
    have hle : len ≤ m := by rw [hmm]; split <;> omega
    rw [cellsVal] at hx
    obtain ⟨V, hV⟩ := choose_lt (α := Val) (n := len) (p := fun i y => (W.cell? (a.add (i * 3)) = some (.int .i64 y.k) ∧ W.cell? ⟨(a.add (i * 3)).block, (a.add (i * 3)).off + 1, none⟩ = some (.int .i64 y.n) ∧ W.cell? ⟨(a.add (i * 3)).block, (a.add (i * 3)).off + 2, none⟩ = some (.string y.s)) ∧
        (-9223372036854775808 ≤ y.n ∧ y.n ≤ 9223372036854775807) ∧ y.s.size ≤ maxLen) (fun i hi => by
      obtain ⟨cs', h1, h2⟩ := hx i (by omega)
      obtain ⟨y, rfl, hb, hs⟩ := trod_val h2
      obtain ⟨_, _, hat⟩ := World.cells?_some h1
      have q0 := hat 0 (by omega)
      have q1 := hat 1 (by omega)
      have q2 := hat 2 (by omega)
      rw [show (a.add (i * 3)).add 0 = a.add (i * 3) from by unfold Addr.add; simp] at q0
      rw [add_one_add] at q1 q2
      exact ⟨y, ⟨q0, q1, q2⟩, hb, hs⟩)
    refine ⟨some a, (List.range len).map V, cap, by simp, fun hll => ⟨hll, fun hn => ?_⟩, fun y hy => ?_⟩
    · have hn' : 0 < len := by simpa using hn
      refine ⟨a, rfl, ?_, fun k hk => ?_⟩
      · have := World.block_lt_of_cell? W _ (hV 0 hn').1.1
        rwa [add_block] at this
      · have hk' : k < len := by simpa using hk
        have e : vget ((List.range len).map V) k = V k := by simp [vget, hk']
        rw [e]
        exact (hV k hk').1
    · obtain ⟨i, hi, rfl⟩ := List.mem_map.1 hy
      exact (hV i (by simpa using hi)).2

theorem cellsList : Tryd.prog.cellsOf 40 = 1 := by kernel_rfl
theorem cellsLists : Tryd.prog.cellsOf 41 = 2 := by kernel_rfl
set_option maxRecDepth 100000 in
/-- An array of two slices of values opened. -/
theorem open_lists {H : Type} {enc : TypeId × Value → H} {W : World} {base b0 : Nat} {sp : Nat → Bool} {held : Bool} {v : Value} {d : DataW H} {p : List MemPlace}
    (hv : Value.okWide Tryd.prog W .any b0 41 v) (h : DataW.Trod enc Tryd.prog W base sp held 41 v d p) :
    ∃ (A B : Option Addr) (l m : List Val) (c c2 : Nat), v = .agg #[.slice A l.length c, .slice B m.length c2] ∧ (l.length ≤ 1000000 → RowIs W W.heap.size A l) ∧ (m.length ≤ 1000000 → RowIs W W.heap.size B m) := by
  obtain ⟨cs, rfl, hsz⟩ : ∃ cs, v = .agg cs ∧ cs.size = Tryd.prog.cellsOf 41 := by
    simp only [Value.okWide, Tryd.underlying41] at hv
    obtain ⟨cs, h1, h2, _⟩ := hv
    exact ⟨cs, h1, h2⟩
  obtain ⟨c0, c1, rfl⟩ : ∃ c0 c1, cs = #[c0, c1] := by
    rw [cellsLists] at hsz
    obtain ⟨l⟩ := cs
    match l, hsz with
    | [c0, c1], _ => exact ⟨c0, c1, rfl⟩
  obtain ⟨fuel, hf⟩ := h
  obtain ⟨xs, n, _, _, _, hlen, hg⟩ := DataW.trod_array Tryd.underlying41 (show DataW.trod enc Tryd.prog W base sp held fuel 41 [c0, c1] = _ from hf)
  rw [cellsList] at hg
  have g0 := hg 0 (by omega)
  have g1 := hg 1 (by omega)
  simp at g0 g1
  rw [List.getElem?_eq_getElem (by omega)] at g0 g1
  obtain ⟨A, l, c, rfl, hl, _⟩ := open_vals g0
  obtain ⟨B, m, c2, rfl, hm, _⟩ := open_vals g1
  exact ⟨A, B, l, m, c, c2, rfl, hl, hm⟩

end Go.Proofs.YtdldhlbnbffieaaDoor
