/-
  The law UpdateViews answers true, whatever comes in: the row and its tied card.
-/
import Derived.Test.YtgkdiknmjgpgmaaDoorOpV
import Derived.Test.YtgkdiknmjgpgmaaDoorUpN
namespace Go.Proofs.YtgkdiknmjgpgmaaDoor
set_option linter.unusedSimpArgs false
set_option linter.unusedVariables false
open Go.RowKit Go.ChangeShapes Go.WideShapes Go.ChangeAt Go.Deep

set_option maxRecDepth 100000 in
theorem updateViews_lifted (os : Os) (started : os.Started) (H : Type) (enc : TypeId × Value → H) :
    ReturnsInHanded {} Tryd.checked os 4 .any (fun w args => (Rows.updateViewsSpec.pre enc Tryd.prog Tryd.f4 Rows.updateViewsRow.domain false w args ∧ laidMetH Tryd.prog Rows.updateViewsRow.laid w) ∧ sizedMet enc Tryd.prog Tryd.f4 (OpenSpec.ofChange Rows.updateViewsSpec) false w args) (Rows.updateViewsSpec.post enc Tryd.prog Tryd.f4 false true false false) := by
  refine of_change_and_shaped (C := Tryd.checked) (X := fun w _ => laidMetH Tryd.prog Rows.updateViewsRow.laid w) (fun _ _ _ hh h => h.of_heap hh) own started (by kernel_rfl) Tryd.func4
    (ChangeSpec.witness_shaped (enc := enc) (C := Tryd.checked) (os := os) (X := fun w _ => laidMetH Tryd.prog Rows.updateViewsRow.laid w) false (World.laidAll Tryd.prog os Rows.updateViewsRow.laid) #[.slice none 0 0, .slice none 0 0, .agg #[.int .i64 0, .int .i64 0]] 8 (World.laidAll_os _ _ _)
      (World.shaped_of_ZipB (by kernel_rfl) (by kernel_rfl)) (by kernel_rfl) (by kernel_rfl) (by kernel_rfl)
      (by rw [MakeChecks.laidMetH_plain _ _ _ (by kernel_rfl)]; exact laidMet_laidAll _ (by kernel_rfl) (by kernel_rfl))) ?_
  intro W base args ds gs before hval0 hW hsh
  have hval : ∀ (j : Nat) t v, Tryd.f4.params[j]? = some t → args[j]? = some v → Value.okWide Tryd.prog W .any base t v := hval0
  have hW' := hW
  obtain ⟨p, q, hA0, hV, _, _, _⟩ := hW
  have hA : DataW.TrodAll enc Tryd.prog W 0 (fun _ => true) true Tryd.f4.params.toList args.toList ds p := hA0
  obtain ⟨rfl, rfl⟩ := trodVars_none hV
  rw [Tryd.params4] at hA hval
  obtain ⟨v0, v1, v2, d0, d1, d2, p0, p1, p2, hargs, rfl, _, h0, h1, h2⟩ := trodAll_three hA
  obtain rfl : args = #[v0, v1, v2] := by cases args; simp_all
  obtain ⟨l, hs0, hl0⟩ := open_sl Tryd.underlying37 (opens_upd W) cellsUpd (by decide) (fun _ => rfl) (hval 0 37 v0 rfl rfl) h0
  obtain ⟨f, hs1, hl1⟩ := open_sl Tryd.underlying22 (opens_clause W) cellsClause (by decide) (fun _ => rfl) (hval 1 22 v1 rfl rfl) h1
  obtain ⟨it, rfl, k2⟩ := open_agg Tryd.underlying24 (opens_ver W) (hval 2 24 v2 rfl rfl) h2
  obtain ⟨m, hm⟩ := maxlen_cell hsh
  refine (updateViews_walk W m hm v0 v1 l f it hs0 hs1).mono fun e W' ⟨he, hx⟩ => ?_
  exact ⟨_, he, law_post rfl rfl rfl underlyingBool laidOut (by kernel_rfl) hW' hx⟩
theorem updateViews_row : Rows.UpdateViewsSaid :=
  OpenClaim.holds_of_wide 4 Tryd.f4 rfl rfl rfl rfl rfl rfl rfl ⟨rfl, rfl, rfl, rfl, rfl⟩ rfl rfl rfl rfl rfl (by kernel_rfl) Tryd.func4 (by kernel_rfl)
    (of_decide_eq_true (by kernel_rfl)) (by unfold Func.isWrapper; first | (rw [if_pos (by decide +kernel)]; kernel_rfl) | (rw [if_neg (by decide +kernel)]; exact ⟨rfl, rfl⟩))
    (fun os started H enc _ => updateViews_lifted os started H enc)
theorem updateViews_holds : Rows.UpdateViewsCardSaid :=
  Claim7.holds_tied_plain_at .later [] [.data, .pinned] true Rows.updateViewsCard.stood.harness false updateViews_row (fun _ h => by cases h) (by kernel_rfl) (fun _ h => by cases h) updateViews_row_tie rfl ⟨rfl, rfl⟩ (by kernel_rfl) rfl
    (fun f fn hf hfn => by
      obtain rfl : f = 4 := Option.some.inj ((show Tryd.prog.funcNamed Rows.updateViewsRow.func = some 4 by kernel_rfl).symm.trans hf) |>.symm
      obtain rfl : fn = Tryd.f4 := (Option.some.inj (Tryd.func4.symm.trans hfn)).symm
      exact ⟨by kernel_rfl, fun j t ht => by
        rw [Tryd.params4] at ht
        have hm : t ∈ [37, 22, 24] := by simpa using Array.mem_of_getElem? ht
        have hall : ([37, 22, 24].all fun u => !Tryd.prog.wantsStandIn u) = true := by kernel_rfl
        exact (show Tryd.prog.wantsStandIn t = false by simpa using List.all_eq_true.1 hall t hm)⟩)
    (by kernel_rfl)
#print axioms updateViews_holds
end Go.Proofs.YtgkdiknmjgpgmaaDoor
