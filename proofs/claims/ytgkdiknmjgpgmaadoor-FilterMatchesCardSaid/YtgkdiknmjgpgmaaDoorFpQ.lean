/-
  The law FilterMatches answers true, whatever comes in: the row and its tied card.
-/
import Derived.Test.YtgkdiknmjgpgmaaDoorOpW
import Derived.Test.YtgkdiknmjgpgmaaDoorFpI
namespace Go.Proofs.YtgkdiknmjgpgmaaDoor
set_option linter.unusedSimpArgs false
set_option linter.unusedVariables false
open Go.RowKit Go.ChangeShapes Go.WideShapes Go.ChangeAt Go.Deep

set_option maxRecDepth 100000 in
theorem filterMatches_lifted (os : Os) (started : os.Started) (H : Type) (enc : TypeId × Value → H) :
    ReturnsInHanded {} Tryd.checked os 8 .any (fun w args => (Rows.filterMatchesSpec.pre enc Tryd.prog Tryd.f8 Rows.filterMatchesRow.domain false w args ∧ laidMetH Tryd.prog Rows.filterMatchesRow.laid w) ∧ sizedMet enc Tryd.prog Tryd.f8 (OpenSpec.ofChange Rows.filterMatchesSpec) false w args) (Rows.filterMatchesSpec.post enc Tryd.prog Tryd.f8 false true false false) := by
  refine of_change_and_shaped (C := Tryd.checked) (X := fun w _ => laidMetH Tryd.prog Rows.filterMatchesRow.laid w) (fun _ _ _ hh h => h.of_heap hh) own started (by kernel_rfl) Tryd.func8
    (ChangeSpec.witness_shaped (enc := enc) (C := Tryd.checked) (os := os) (X := fun w _ => laidMetH Tryd.prog Rows.filterMatchesRow.laid w) false (World.laidAll Tryd.prog os Rows.filterMatchesRow.laid) #[.slice none 0 0, .agg #[.string ⟨#[]⟩, .int .i64 0, .bool false]] 8 (World.laidAll_os _ _ _)
      (World.shaped_of_ZipB (by kernel_rfl) (by kernel_rfl)) (by kernel_rfl) (by kernel_rfl) (by kernel_rfl)
      (by rw [MakeChecks.laidMetH_plain _ _ _ (by kernel_rfl)]; exact laidMet_laidAll _ (by kernel_rfl) (by kernel_rfl))) ?_
  intro W base args ds gs before hval0 hW hsh
  have hval : ∀ (j : Nat) t v, Tryd.f8.params[j]? = some t → args[j]? = some v → Value.okWide Tryd.prog W .any base t v := hval0
  have hW' := hW
  obtain ⟨p, q, hA0, hV, _, _, _⟩ := hW
  have hA : DataW.TrodAll enc Tryd.prog W 0 (fun _ => true) true Tryd.f8.params.toList args.toList ds p := hA0
  obtain ⟨rfl, rfl⟩ := trodVars_none hV
  rw [Tryd.params8] at hA hval
  obtain ⟨v0, v1, d0, d1, p0, p1, hargs, rfl, _, h0, h1⟩ := trodAll_two hA
  obtain rfl : args = #[v0, v1] := by cases args; simp_all
  obtain ⟨f, hs0, hl0⟩ := open_sl Tryd.underlying22 (opens_clause W) cellsClause (by decide) (fun _ => rfl) (hval 0 22 v0 rfl rfl) h0
  obtain ⟨x, rfl, k1⟩ := open_agg Tryd.underlying49 (opens_file W) (hval 1 49 v1 rfl rfl) h1
  obtain ⟨m, hm⟩ := maxlen_cell hsh
  refine (filterMatches_walk W m hm v0 f hs0 x k1).mono fun e W' ⟨he, hx⟩ => ?_
  exact ⟨_, he, law_post rfl rfl rfl underlyingBool laidOut (by kernel_rfl) hW' hx⟩
theorem filterMatches_row : Rows.FilterMatchesSaid :=
  OpenClaim.holds_of_wide 8 Tryd.f8 rfl rfl rfl rfl rfl rfl rfl ⟨rfl, rfl, rfl, rfl, rfl⟩ rfl rfl rfl rfl rfl (by kernel_rfl) Tryd.func8 (by kernel_rfl)
    (of_decide_eq_true (by kernel_rfl)) (by unfold Func.isWrapper; first | (rw [if_pos (by decide +kernel)]; kernel_rfl) | (rw [if_neg (by decide +kernel)]; exact ⟨rfl, rfl⟩))
    (fun os started H enc _ => filterMatches_lifted os started H enc)
theorem filterMatches_holds : Rows.FilterMatchesCardSaid :=
  Claim7.holds_tied_plain_at .later [] [.data, .pinned] true Rows.filterMatchesCard.stood.harness false filterMatches_row (fun _ h => by cases h) (by kernel_rfl) (fun _ h => by cases h) filterMatches_row_tie rfl ⟨rfl, rfl⟩ (by kernel_rfl) rfl
    (fun f fn hf hfn => by
      obtain rfl : f = 8 := Option.some.inj ((show Tryd.prog.funcNamed Rows.filterMatchesRow.func = some 8 by kernel_rfl).symm.trans hf) |>.symm
      obtain rfl : fn = Tryd.f8 := (Option.some.inj (Tryd.func8.symm.trans hfn)).symm
      exact ⟨by kernel_rfl, fun j t ht => by
        rw [Tryd.params8] at ht
        have hm : t ∈ [22, 49] := by simpa using Array.mem_of_getElem? ht
        have hall : ([22, 49].all fun u => !Tryd.prog.wantsStandIn u) = true := by kernel_rfl
        exact (show Tryd.prog.wantsStandIn t = false by simpa using List.all_eq_true.1 hall t hm)⟩)
    (by kernel_rfl)
#print axioms filterMatches_holds
end Go.Proofs.YtgkdiknmjgpgmaaDoor
