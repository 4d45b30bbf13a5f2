/-
  What the rows of this seat give a walk: the listed variables lie as they should, errors.errorType among them; a world that meets the condition; an argument of the type Value is opened.
-/
import Derived.Test.YtodhdbikbdlcaaaGreatDoorLaid
import Derived.Test.YtodhdbikbdlcaaaGreatDoorRowG
import Derived.LaidHandle
import Derived.LaidSub
import Derived.ChangeMaps
namespace Go.Proofs.YtodhdbikbdlcaaaGreatDoor
set_option linter.unusedSimpArgs false
set_option linter.unusedVariables false
open Go.ChangeShapes Go.WideShapes Go.ChangeAt Go.RowKit

theorem cellsVal : Tryz.prog.cellsOf 24 = 3 := by kernel_rfl
theorem et : Tryz.prog.globalNamed "errors.errorType" = some 0 := by kernel_rfl
theorem rt : (Tryz.prog.cutTypes.find? (·.1 == "internal/reflectlite.rtype")).map (·.2) = some 121 := by kernel_rfl
theorem oneRow : ((List.range 193).filter fun t => Tryz.prog.rowNamed t [101, 114, 114, 111, 114]) = [30] := by kernel_rfl
theorem typesSize : Tryz.prog.types.size = 193 := by kernel_rfl
theorem plain_eq : (Rows.lexValuesRow.laid.filter fun x => x.2.handleName?.isNone) = [("math/bits.deBruijn32tab", Rows.laid_math_bits_deBruijn32tab), ("math/bits.deBruijn64tab", Rows.laid_math_bits_deBruijn64tab), ("internal/strconv.uint64pow10", Rows.laid_internal_strconv_uint64pow10), ("unicode/utf8.acceptRanges", Rows.laid_unicode_utf8_acceptRanges), ("strconv.ErrRange", Rows.laid_strconv_ErrRange), ("strconv.ErrSyntax", Rows.laid_strconv_ErrSyntax), ("unicode.CaseRanges", Rows.laid_unicode_CaseRanges), ("unicode/utf8.first", Rows.laid_unicode_utf8_first)] := by kernel_rfl
theorem handle_eq : (Rows.lexValuesRow.laid.filter fun x => x.2.handleName?.isSome) = [("errors.errorType", Rows.laid_errors_errorType)] := by kernel_rfl

theorem laid_of {W : World} (h : laidMetH Tryz.prog Rows.lexValuesRow.laid W) (hs : W.ShapedOpen Tryz.prog) : Laid W := by
  obtain ⟨h1, hH⟩ := laidMetH_iff.1 h
  rw [plain_eq] at h1
  rw [handle_eq] at hH
  have h2 := h1.tail.tail
  have e : (Rows.laid_internal_strconv_uint64pow10 : DataW Unit) = Lib.tabData .u64 Lib.pow10Tab := by kernel_rfl
  rw [e] at h2
  refine ⟨Lib.tabIs_of_head (t := 110) (e := 73) (n := 20) Tryz.gTab (by kernel_rfl) (by kernel_rfl) (by kernel_rfl) (by kernel_rfl) (by kernel_rfl) h2, ?_, ?_, ?_, ?_, ?_⟩
  · exact iface_of_head h2.tail.tail.tail Tryz.gSyn (by kernel_rfl) Tryz.underlying30
  · exact iface_of_head h2.tail.tail Tryz.gRng (by kernel_rfl) Tryz.underlying30
  · exact cell_of_shapedOpen_int (P := Tryz.prog) (g := 2) (t := 3) (zero := #[.int .i64 0]) hs (of_decide_eq_true (by kernel_rfl)) (by kernel_rfl) rfl (by kernel_rfl) (by kernel_rfl) Tryz.underlying3
  · obtain ⟨name, u, ty, e1, e2, e3, e4, e5⟩ := hH _ (List.mem_singleton.2 rfl)
    have en : name = [101, 114, 114, 111, 114] := (Option.some.inj e1).symm
    subst en
    obtain rfl := Option.some.inj (rt.symm.trans e2)
    have hm : ty ∈ (List.range 193).filter fun t => Tryz.prog.rowNamed t [101, 114, 114, 111, 114] := List.mem_filter.2 ⟨List.mem_range.2 (by rw [← typesSize]; exact e3), e4⟩
    rw [oneRow] at hm
    obtain rfl := List.mem_singleton.1 hm
    have hh : typeHandle Tryz.prog 30 = .pointer (some ⟨10, 30, none⟩) := by kernel_rfl
    rw [hh] at e5
    simpa using World.var?_cell et e5 0
  · obtain ⟨o, _, ho, _⟩ := hs.2 12 (by decide +kernel) (by decide +kernel)
    rcases Nat.lt_or_ge 12 W.heap.size with h' | h'
    · omega
    · simp [Array.getElem?_eq_none h'] at ho

/-- A world that meets the condition: the settled one, the variable that holds a type laid, then the listed data. -/
noncomputable def baseZ (os : Os) : World :=
  let w0 := World.holding Tryz.prog os ⟨#[], #[], []⟩
  { w0 with heap := w0.heap.modify 0 fun
      | .cells _ t frozen => .cells #[.iface 121 (.agg #[.pointer (some ⟨10, 30, none⟩)])] t frozen
      | o => o }
noncomputable def worldZ (os : Os) : World := (baseZ os).layVars Tryz.prog (Rows.lexValuesRow.laid.filter fun x => x.2.handleName?.isNone)
theorem worldZ_os (os : Os) : (worldZ os).os = os := World.layVars_os _ _ _
theorem laidMet_lay {P : Program} {w0 : World} {laid : List (String × DataW Unit)} (args : Array Value) (hf : w0.layFits P laid [] = true) (hi : w0.layIfaces P laid (w0.layVars P laid) = true) :
    laidMet P laid ((w0.layVars P laid).forCall (fun _ _ => 0) ⟨#[], args, []⟩).memory := by
  have e1 : (laid.filter fun x => (laid.map (·.1)).contains x.1) = laid := List.filter_eq_self.2 fun x hx => List.contains_iff_mem.2 (List.mem_map.2 ⟨x, hx, rfl⟩)
  have e2 : (laid.filter fun x => !(laid.map (·.1)).contains x.1) = [] := List.filter_eq_nil_iff.2 fun x hx => by rw [List.contains_iff_mem.2 (List.mem_map.2 ⟨x, hx, rfl⟩)]; simp
  have h : laidMet P laid (w0.layVars P laid) := laidMet_layVars (w0 := w0) (laid.map (·.1)) [] (by rw [e1]) (by rw [e1]; exact hf) (by rw [e1]; exact hi) (by rw [e2]; exact LaidIn.none)
  exact h.of_heap (by simp [World.memory, World.forCall, Input.heap])
theorem worldZ_met (os : Os) (args : Array Value) : laidMetH Tryz.prog Rows.lexValuesRow.laid ((worldZ os).forCall (fun _ _ => 0) ⟨#[], args, []⟩).memory :=
  laidMetH_of_parts (laidMet_lay args (by kernel_rfl) (by kernel_rfl)) (by kernel_rfl)

theorem wf_i64 {n : Int} (h : (Lit.int .i64 n).wf = true) : -9223372036854775808 ≤ n ∧ n ≤ 9223372036854775807 := by
  simpa [Lit.wf, IntKind.min, IntKind.max, IntKind.signed, IntKind.bits] using h

set_option maxRecDepth 100000 in
/-- A Value argument: opened; it reads so in whatever world. -/
theorem open_val {H : Type} {enc : TypeId × Value → H} {W : World} {base b0 : Nat} {sp : Nat → Bool} {held : Bool} {v : Value} {d : DataW H} {p : List MemPlace}
    (hv : Value.okWide Tryz.prog W .any b0 24 v) (h : DataW.Trod enc Tryz.prog W base sp held 24 v d p) :
    ∃ (k n : Int) (s : ByteArray), v = .agg #[.int .i64 k, .int .i64 n, .string s] ∧ p = [] ∧ (-9223372036854775808 ≤ n ∧ n ≤ 9223372036854775807) ∧
      ∀ (W' : World) (base' : Nat) (sp' : Nat → Bool) (held' : Bool), DataW.Trod enc Tryz.prog W' base' sp' held' 24 v d [] := by
  obtain ⟨v0, v1, v2, y0, y1, y2, n, rfl, rfl, rfl, h0, h1, h2⟩ := Joins.open_agg3 Tryz.underlying24 (by kernel_rfl) cellsVal hv h
  obtain ⟨z0, e0, rfl, w0⟩ := DataW.trod_int Tryz.underlying22 h0
  obtain ⟨z1, e1, rfl, w1⟩ := DataW.trod_int Tryz.underlying2 h1
  obtain ⟨s, e2, rfl, ws⟩ := DataW.trod_string Tryz.underlying9 h2
  obtain rfl := List.singleton_inj.1 e0
  obtain rfl := List.singleton_inj.1 e1
  obtain rfl := List.singleton_inj.1 e2
  refine ⟨z0, z1, s, rfl, rfl, wf_i64 w1, fun W' base' sp' held' => ?_⟩
  exact Joins.shut_agg3 (enc := enc) (w := W') (base := base') (spare := sp') (held := held') (y0 := (.lit (.int .i64 z0), [])) (y1 := (.lit (.int .i64 z1), [])) (y2 := (.lit (.string s.data.toList), [])) Tryz.underlying24 (by kernel_rfl) cellsVal
    ⟨1, by simp [DataW.trod, Tryz.underlying22, w0]⟩ ⟨1, by simp [DataW.trod, Tryz.underlying2, w1]⟩ ⟨1, by simp [DataW.trod, Tryz.underlying9, ws]⟩

end Go.Proofs.YtodhdbikbdlcaaaGreatDoor
