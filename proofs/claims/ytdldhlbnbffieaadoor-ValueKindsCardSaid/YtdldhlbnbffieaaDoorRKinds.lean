/-
  ValueKinds: the row and the tied card.
-/
import Derived.Test.YtdldhlbnbffieaaDoorRowD
import Derived.Test.YtdldhlbnbffieaaDoorLKinds1
namespace Go.Proofs.YtdldhlbnbffieaaDoor
set_option linter.unusedSimpArgs false
set_option linter.unusedVariables false
open Go.ChangeShapes Go.WideShapes Go.ChangeAt Go.RowKit

theorem kinds_any (ak an bk bn : Int) (as' bs' : ByteArray) (w : World) (hl : Laid w)
    (ha : -9223372036854775808 ≤ an ∧ an ≤ 9223372036854775807) (hb : -9223372036854775808 ≤ bn ∧ bn ≤ 9223372036854775807) :
    Calls Tryd.prog 4 #[.agg #[.int .i64 ak, .int .i64 an, .string as'], .agg #[.int .i64 bk, .int .i64 bn, .string bs']] w fun e w' => e = .returned (.bool true) ∧ Below w.heap.size w w' := by
  by_cases h1 : (500 : Int) < as'.size
  · exact kinds_out ⟨ak, an, as'⟩ ⟨bk, bn, bs'⟩ w hl (Or.inl h1)
  by_cases h2 : (500 : Int) < bs'.size
  · exact kinds_out ⟨ak, an, as'⟩ ⟨bk, bn, bs'⟩ w hl (Or.inr (Or.inl ⟨h1, h2⟩))
  cases hra : rightB ak an as' with
  | false => exact kinds_out ⟨ak, an, as'⟩ ⟨bk, bn, bs'⟩ w hl (Or.inr (Or.inr (Or.inl ⟨h1, h2, hra⟩)))
  | true =>
    cases hrb : rightB bk bn bs' with
    | false => exact kinds_out ⟨ak, an, as'⟩ ⟨bk, bn, bs'⟩ w hl (Or.inr (Or.inr (Or.inr (Or.inl ⟨h1, h2, hra, hrb⟩))))
    | true =>
      by_cases hk : ak = bk
      · exact kinds_out ⟨ak, an, as'⟩ ⟨bk, bn, bs'⟩ w hl (Or.inr (Or.inr (Or.inr (Or.inr ⟨h1, h2, hra, hrb, hk⟩))))
      · by_cases hlt : ak < bk
        · by_cases hz : ak = 0
          · exact kinds_lt0 ak an bk bn as' bs' w hl h1 h2 hra hrb ha.1 ha.2 hb.1 hb.2 hk hlt hz
          · exact kinds_lt1 ak an bk bn as' bs' w hl h1 h2 hra hrb ha.1 ha.2 hb.1 hb.2 hk hlt hz
        · have k0 := right_kind hra
          have k1 := right_kind hrb
          exact kinds_gt ak an bk bn as' bs' w hl h1 h2 hra hrb ha.1 ha.2 hb.1 hb.2 hk hlt (by omega)

set_option maxRecDepth 100000 in
theorem kinds_lifted (os : Os) (started : os.Started) (H : Type) (enc : TypeId × Value → H) :
    ReturnsInHanded {} Tryd.checked os 4 .any (fun w args => (Rows.valueKindsSpec.pre enc Tryd.prog Tryd.f4 [] false w args ∧ laidMetH Tryd.prog Rows.valueKindsRow.laid w) ∧ sizedMet enc Tryd.prog Tryd.f4 (OpenSpec.ofChange Rows.valueKindsSpec) false w args)
      (Rows.valueKindsSpec.post enc Tryd.prog Tryd.f4 false true false false) := by
  refine wrap_and_shaped (C := Tryd.checked) (X := fun w _ => laidMetH Tryd.prog Rows.valueKindsRow.laid w) (fun _ _ _ hh h => h.of_heap hh) own started (by kernel_rfl) Tryd.func4
    (ChangeSpec.witness_shaped (enc := enc) (C := Tryd.checked) (os := os) (X := fun w _ => laidMetH Tryd.prog Rows.valueKindsRow.laid w) false (World.laidAll Tryd.prog os Rows.valueKindsRow.laid) #[.agg #[.int .i64 0, .int .i64 0, .string ⟨#[]⟩], .agg #[.int .i64 0, .int .i64 0, .string ⟨#[]⟩]] 8 (World.laidAll_os _ _ _)
      (World.shaped_of_ZipB (by kernel_rfl) (by kernel_rfl)) (by kernel_rfl) (by kernel_rfl) (by kernel_rfl)
      (by rw [MakeChecks.laidMetH_plain _ _ _ (by kernel_rfl)]; exact laidMet_laidAll _ (by kernel_rfl) (by kernel_rfl))) ?_
  intro W base args ds gs before hval0 hW hL hsh
  have hval : ∀ (j : Nat) t v, Tryd.f4.params[j]? = some t → args[j]? = some v → Value.okWide Tryd.prog W .any base t v := hval0
  have hW' := hW
  obtain ⟨p, q, hA0, hV, rfl, _, _⟩ := hW
  have hA : DataW.TrodAll enc Tryd.prog W 0 (fun _ => true) true Tryd.f4.params.toList args.toList ds p := hA0
  rw [Tryd.params4] at hA hval
  obtain ⟨v0, v1, d0, d1, p0, p1, rfl, rfl, rfl, h0, h1⟩ := trodAll_two hA
  obtain ⟨rfl, rfl⟩ := trodVars_none hV
  obtain ⟨ak, an, as', rfl, rfl, ba, ra⟩ := open_val (hval 0 24 v0 rfl rfl) h0
  obtain ⟨bk, bn, bs', rfl, rfl, bb, rb⟩ := open_val (hval 1 24 v1 rfl rfl) h1
  refine (kinds_any ak an bk bn as' bs' W (laid_of hL hsh) ba bb).mono fun e W' ⟨he, hw⟩ => ?_
  subst he
  exact ⟨_, rfl, post_below (pa := []) (pv := []) hW' (fun _ _ _ => trodAll_mk1 (shut_bool Tryd.underlying4 _)) (fun sp _ => trodAll_mk2 (ra W' 0 sp true) (rb W' 0 sp true)) (fun _ _ => rfl) rfl hw (ok_one (by kernel_rfl) rfl (okWide_bool_mk Tryd.underlying4 _))⟩

theorem kinds_holds : Rows.ValueKindsSaid :=
  OpenClaim.holds_of_wide 4 Tryd.f4 rfl rfl rfl rfl rfl rfl rfl ⟨rfl, rfl, rfl, rfl, rfl⟩ rfl rfl rfl rfl rfl (by kernel_rfl) Tryd.func4 (by kernel_rfl)
    (of_decide_eq_true (by kernel_rfl)) (by unfold Func.isWrapper; first | (rw [if_pos (by decide +kernel)]; kernel_rfl) | (rw [if_neg (by decide +kernel)]; exact ⟨rfl, rfl⟩))
    (fun os started H enc _ => kinds_lifted os started H enc)

theorem kinds_card : Rows.ValueKindsCardSaid :=
  Claim7.holds_tied_plain_at .later [] [.data, .data, .data, .data, .sentinel, .sentinel, .pinned] true Rows.valueKindsCard.stood.harness true kinds_holds (fun _ h => by cases h) (by kernel_rfl) (fun _ h => by cases h) valueKinds_row_tie rfl ⟨rfl, rfl⟩ (by kernel_rfl) rfl
    (fun f fn hf hfn => by
      obtain rfl : f = 4 := Option.some.inj ((show Tryd.prog.funcNamed "frankpledge/frankpledgelaw02.ValueKinds" = some 4 by kernel_rfl).symm.trans hf) |>.symm
      obtain rfl : fn = Tryd.f4 := (Option.some.inj (Tryd.func4.symm.trans hfn)).symm
      exact ⟨by kernel_rfl, fun j t ht => by
        rw [Tryd.params4] at ht
        have hm : t ∈ [24] := by
          have := Array.mem_of_getElem? ht
          simp at this ⊢
          omega
        have hall : ([24].all fun u => !Tryd.prog.wantsStandIn u) = true := by kernel_rfl
        exact (show Tryd.prog.wantsStandIn t = false by simpa using List.all_eq_true.1 hall t hm)⟩)
    (by kernel_rfl)
#print axioms kinds_card
end Go.Proofs.YtdldhlbnbffieaaDoor
