/-
  ValueBack: the row and the tied card.
-/
import Derived.Test.YtdldhlbnbffieaaDoorRowD
import Derived.Test.YtdldhlbnbffieaaDoorLBack
import Derived.Test.YtdldhlbnbffieaaDoorLBackNe1
import Derived.Test.YtdldhlbnbffieaaDoorLBackNe2
import Derived.Test.YtdldhlbnbffieaaDoorLBackNe3
import Derived.Test.YtdldhlbnbffieaaDoorLBackSame
namespace Go.Proofs.YtdldhlbnbffieaaDoor
set_option linter.unusedSimpArgs false
set_option linter.unusedVariables false
open Go.ChangeShapes Go.WideShapes Go.ChangeAt Go.RowKit

theorem back_any (ak an bk bn : Int) (as' bs' s : ByteArray) (w : World) (hl : Laid w)
    (ha : -9223372036854775808 ≤ an ∧ an ≤ 9223372036854775807) (hb : -9223372036854775808 ≤ bn ∧ bn ≤ 9223372036854775807) :
    Calls Tryd.prog 3 #[.agg #[.int .i64 ak, .int .i64 an, .string as'], .agg #[.int .i64 bk, .int .i64 bn, .string bs'], .string s] w fun e w' => e = .returned (.bool true) ∧ Below w.heap.size w w' := by
  by_cases h1 : (500 : Int) < as'.size
  · exact back_long ⟨ak, an, as'⟩ ⟨bk, bn, bs'⟩ s w hl (Or.inl h1)
  by_cases h2 : (500 : Int) < bs'.size
  · exact back_long ⟨ak, an, as'⟩ ⟨bk, bn, bs'⟩ s w hl (Or.inr (Or.inl ⟨h1, h2⟩))
  by_cases h3 : (500 : Int) < s.size
  · exact back_long ⟨ak, an, as'⟩ ⟨bk, bn, bs'⟩ s w hl (Or.inr (Or.inr ⟨h1, h2, h3⟩))
  cases hra : rightB ak an as' with
  | false => exact back_wrong ⟨ak, an, as'⟩ ⟨bk, bn, bs'⟩ s w hl h1 h2 h3 (Or.inl hra)
  | true =>
    cases hrb : rightB bk bn bs' with
    | false => exact back_wrong ⟨ak, an, as'⟩ ⟨bk, bn, bs'⟩ s w hl h1 h2 h3 (Or.inr ⟨hra, hrb⟩)
    | true =>
      by_cases hk : ak = bk
      · subst hk
        by_cases hn : an = bn
        · subst hn
          by_cases hs : as'.toList = bs'.toList
          · obtain rfl := ba_ext.1 hs
            exact back_same ak an as' s w hl h1 h2 h3 hra hrb ha.1 ha.2 hb.1 hb.2
          · exact back_ne3 ak an as' bs' s w hl h1 h2 h3 hra hrb ha.1 ha.2 hb.1 hb.2 hs
        · exact back_ne2 ak an bn as' bs' s w hl h1 h2 h3 hra hrb ha.1 ha.2 hb.1 hb.2 hn
      · exact back_ne1 ak an bk bn as' bs' s w hl h1 h2 h3 hra hrb ha.1 ha.2 hb.1 hb.2 hk

set_option maxRecDepth 100000 in
theorem back_lifted (os : Os) (started : os.Started) (H : Type) (enc : TypeId × Value → H) :
    ReturnsInHanded {} Tryd.checked os 3 .any (fun w args => (Rows.valueBackSpec.pre enc Tryd.prog Tryd.f3 [] false w args ∧ laidMetH Tryd.prog Rows.valueBackRow.laid w) ∧ sizedMet enc Tryd.prog Tryd.f3 (OpenSpec.ofChange Rows.valueBackSpec) false w args)
      (Rows.valueBackSpec.post enc Tryd.prog Tryd.f3 false true false false) := by
  refine wrap_and_shaped (C := Tryd.checked) (X := fun w _ => laidMetH Tryd.prog Rows.valueBackRow.laid w) (fun _ _ _ hh h => h.of_heap hh) own started (by kernel_rfl) Tryd.func3
    (ChangeSpec.witness_shaped (enc := enc) (C := Tryd.checked) (os := os) (X := fun w _ => laidMetH Tryd.prog Rows.valueBackRow.laid w) false (World.laidAll Tryd.prog os Rows.valueBackRow.laid) #[.agg #[.int .i64 0, .int .i64 0, .string ⟨#[]⟩], .agg #[.int .i64 0, .int .i64 0, .string ⟨#[]⟩], .string ⟨#[]⟩] 8 (World.laidAll_os _ _ _)
      (World.shaped_of_ZipB (by kernel_rfl) (by kernel_rfl)) (by kernel_rfl) (by kernel_rfl) (by kernel_rfl)
      (by rw [MakeChecks.laidMetH_plain _ _ _ (by kernel_rfl)]; exact laidMet_laidAll _ (by kernel_rfl) (by kernel_rfl))) ?_
  intro W base args ds gs before hval0 hW hL hsh
  have hval : ∀ (j : Nat) t v, Tryd.f3.params[j]? = some t → args[j]? = some v → Value.okWide Tryd.prog W .any base t v := hval0
  have hW' := hW
  obtain ⟨p, q, hA0, hV, rfl, _, _⟩ := hW
  have hA : DataW.TrodAll enc Tryd.prog W 0 (fun _ => true) true Tryd.f3.params.toList args.toList ds p := hA0
  rw [Tryd.params3] at hA hval
  obtain ⟨v0, v1, v2, d0, d1, d2, p0, p1, p2, rfl, rfl, rfl, h0, h1, h2⟩ := trodAll_three hA
  obtain ⟨rfl, rfl⟩ := trodVars_none hV
  obtain ⟨ak, an, as', rfl, rfl, ba, ra⟩ := open_val (hval 0 24 v0 rfl rfl) h0
  obtain ⟨bk, bn, bs', rfl, rfl, bb, rb⟩ := open_val (hval 1 24 v1 rfl rfl) h1
  obtain ⟨s, rfl, rfl, rfl, ws⟩ := ChangeMaps.open_string Tryd.underlying9 (hval 2 9 v2 rfl rfl) h2
  refine (back_any ak an bk bn as' bs' s W (laid_of hL hsh) ba bb).mono fun e W' ⟨he, hw⟩ => ?_
  subst he
  exact ⟨_, rfl, post_below (pa := []) (pv := []) hW' (fun _ _ _ => trodAll_mk1 (shut_bool Tryd.underlying4 _)) (fun sp _ => trodAll_mk3 (ra W' 0 sp true) (rb W' 0 sp true) (ChangeMaps.shut_string Tryd.underlying9 ws)) (fun _ _ => rfl) rfl hw (ok_one (by kernel_rfl) rfl (okWide_bool_mk Tryd.underlying4 _))⟩

theorem back_holds : Rows.ValueBackSaid :=
  OpenClaim.holds_of_wide 3 Tryd.f3 rfl rfl rfl rfl rfl rfl rfl ⟨rfl, rfl, rfl, rfl, rfl⟩ rfl rfl rfl rfl rfl (by kernel_rfl) Tryd.func3 (by kernel_rfl)
    (of_decide_eq_true (by kernel_rfl)) (by unfold Func.isWrapper; first | (rw [if_pos (by decide +kernel)]; kernel_rfl) | (rw [if_neg (by decide +kernel)]; exact ⟨rfl, rfl⟩))
    (fun os started H enc _ => back_lifted os started H enc)

theorem back_card : Rows.ValueBackCardSaid :=
  Claim7.holds_tied_plain_at .later [] [.data, .data, .data, .data, .sentinel, .sentinel, .pinned] true Rows.valueBackCard.stood.harness true back_holds (fun _ h => by cases h) (by kernel_rfl) (fun _ h => by cases h) valueBack_row_tie rfl ⟨rfl, rfl⟩ (by kernel_rfl) rfl
    (fun f fn hf hfn => by
      obtain rfl : f = 3 := Option.some.inj ((show Tryd.prog.funcNamed "frankpledge/frankpledgelaw02.ValueBack" = some 3 by kernel_rfl).symm.trans hf) |>.symm
      obtain rfl : fn = Tryd.f3 := (Option.some.inj (Tryd.func3.symm.trans hfn)).symm
      exact ⟨by kernel_rfl, fun j t ht => by
        rw [Tryd.params3] at ht
        have hm : t ∈ [24, 9] := by
          have := Array.mem_of_getElem? ht
          simp at this ⊢
          omega
        have hall : ([24, 9].all fun u => !Tryd.prog.wantsStandIn u) = true := by kernel_rfl
        exact (show Tryd.prog.wantsStandIn t = false by simpa using List.all_eq_true.1 hall t hm)⟩)
    (by kernel_rfl)
#print axioms back_card
end Go.Proofs.YtdldhlbnbffieaaDoor
