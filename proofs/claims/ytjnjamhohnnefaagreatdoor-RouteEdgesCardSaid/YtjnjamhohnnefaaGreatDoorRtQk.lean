/-
  The law RouteEdges answers true, whatever comes in: the row and its tied card.
-/
import Derived.Test.YtjnjamhohnnefaaGreatDoorTrRk
import Derived.Test.YtjnjamhohnnefaaGreatDoorRtMk
namespace Go.Proofs.YtjnjamhohnnefaaGreatDoor
set_option linter.unusedSimpArgs false
set_option linter.unusedVariables false
open Go.RowKit Go.ChangeShapes Go.WideShapes Go.ChangeAt Go.Deep

theorem routeEdges_walk (w : World) (m : Int) (hm : w.cell? ⟨0, 0, none⟩ = some (.int .i64 m)) (up : List Int) (Fl : List (List ClauseI)) (A AF : Option Addr) (c cF : Nat) (hu : Sl w 1 (.slice A up.length c) (Ints up)) (hF : FsAt w AF cF Fl) : Calls Tryz.prog 7 #[.agg #[.slice A up.length c, .slice AF Fl.length cF]] w (Ret (.bool true) w) := by
  cases h1 : lightT up Fl with
  | false => exact edges_dark w m hm up Fl A AF c cF hu hF h1
  | true =>
    by_cases e0 : checkT up Fl = 0
    · exact edges_tree w m hm up Fl A AF c cF hu hF h1 e0
    · exact edges_none w m hm up Fl A AF c cF hu hF h1 e0
set_option maxRecDepth 100000 in
theorem routeEdges_lifted (os : Os) (started : os.Started) (H : Type) (enc : TypeId × Value → H) :
    ReturnsInHanded {} Tryz.checked os 7 .any (fun w args => (Rows.routeEdgesSpec.pre enc Tryz.prog Tryz.f7 Rows.routeEdgesRow.domain false w args ∧ laidMetH Tryz.prog Rows.routeEdgesRow.laid w) ∧ sizedMet enc Tryz.prog Tryz.f7 (OpenSpec.ofChange Rows.routeEdgesSpec) false w args) (Rows.routeEdgesSpec.post enc Tryz.prog Tryz.f7 false true false false) := by
  refine of_change_and_shaped (C := Tryz.checked) (X := fun w _ => laidMetH Tryz.prog Rows.routeEdgesRow.laid w) (fun _ _ _ hh h => h.of_heap hh) own started (by kernel_rfl) Tryz.func7
    (ChangeSpec.witness_shaped (enc := enc) (C := Tryz.checked) (os := os) (X := fun w _ => laidMetH Tryz.prog Rows.routeEdgesRow.laid w) false (World.laidAll Tryz.prog os Rows.routeEdgesRow.laid) #[.agg #[.slice none 0 0, .slice none 0 0]] 8 (World.laidAll_os _ _ _)
      (World.shaped_of_ZipB (by kernel_rfl) (by kernel_rfl)) (by kernel_rfl) (by kernel_rfl) (by kernel_rfl)
      (by rw [MakeChecks.laidMetH_plain _ _ _ (by kernel_rfl)]; exact laidMet_laidAll _ (by kernel_rfl) (by kernel_rfl))) ?_
  intro W base args ds gs before hval0 hW hsh
  have hval : ∀ (j : Nat) t v, Tryz.f7.params[j]? = some t → args[j]? = some v → Value.okWide Tryz.prog W .any base t v := hval0
  have hW' := hW
  obtain ⟨p, q, hA0, hV, _, _, _⟩ := hW
  have hA : DataW.TrodAll enc Tryz.prog W 0 (fun _ => true) true Tryz.f7.params.toList args.toList ds p := hA0
  obtain ⟨rfl, rfl⟩ := trodVars_none hV
  rw [Tryz.params7] at hA hval
  obtain ⟨v0, d0, hargs, rfl, h0⟩ := trodAll_one hA
  obtain rfl : args = #[v0] := by cases args; simp_all
  obtain ⟨t, rfl, k1⟩ := open_agg Tryz.underlying25 (opens_tree W) (hval 0 25 v0 rfl rfl) h0
  obtain ⟨m, hm⟩ := maxlen_cell hsh
  refine (routeEdges_walk W m hm t.up t.Fl t.A t.AF t.c t.cF k1.1 k1.2).mono fun e W' ⟨he, hx⟩ => ?_
  exact ⟨_, he, law_post rfl rfl rfl underlyingBool laidOut (by kernel_rfl) hW' hx⟩
theorem routeEdges_row : Rows.RouteEdgesSaid :=
  OpenClaim.holds_of_wide 7 Tryz.f7 rfl rfl rfl rfl rfl rfl rfl ⟨rfl, rfl, rfl, rfl, rfl⟩ rfl rfl rfl rfl rfl (by kernel_rfl) Tryz.func7 (by kernel_rfl)
    (of_decide_eq_true (by kernel_rfl)) (by unfold Func.isWrapper; first | (rw [if_pos (by decide +kernel)]; kernel_rfl) | (rw [if_neg (by decide +kernel)]; exact ⟨rfl, rfl⟩))
    (fun os started H enc _ => routeEdges_lifted os started H enc)
theorem routeEdges_holds : Rows.RouteEdgesCardSaid :=
  Claim7.holds_tied_plain_at .later [] [.data, .pinned] true Rows.routeEdgesCard.stood.harness false routeEdges_row (fun _ h => by cases h) (by kernel_rfl) (fun _ h => by cases h) routeEdges_row_tie rfl ⟨rfl, rfl⟩ (by kernel_rfl) rfl
    (fun f fn hf hfn => by
      obtain rfl : f = 7 := Option.some.inj ((show Tryz.prog.funcNamed Rows.routeEdgesRow.func = some 7 by kernel_rfl).symm.trans hf) |>.symm
      obtain rfl : fn = Tryz.f7 := (Option.some.inj (Tryz.func7.symm.trans hfn)).symm
      exact ⟨by kernel_rfl, fun j t ht => by
        rw [Tryz.params7] at ht
        have hm : t ∈ [25] := by simpa using Array.mem_of_getElem? ht
        have hall : ([25].all fun u => !Tryz.prog.wantsStandIn u) = true := by kernel_rfl
        exact (show Tryz.prog.wantsStandIn t = false by simpa using List.all_eq_true.1 hall t hm)⟩)
    (by kernel_rfl)
#print axioms routeEdges_holds
end Go.Proofs.YtjnjamhohnnefaaGreatDoor
