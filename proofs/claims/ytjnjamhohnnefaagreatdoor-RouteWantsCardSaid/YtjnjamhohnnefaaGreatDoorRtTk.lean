/-
  The law RouteWants answers true, whatever comes in: the row and its tied card.
-/
import Derived.Test.YtjnjamhohnnefaaGreatDoorTrRk
import Derived.Test.YtjnjamhohnnefaaGreatDoorRtPk
namespace Go.Proofs.YtjnjamhohnnefaaGreatDoor
set_option linter.unusedSimpArgs false
set_option linter.unusedVariables false
open Go.RowKit Go.ChangeShapes Go.WideShapes Go.ChangeAt Go.Deep

theorem routeWants_walk (w : World) (m : Int) (hm : w.cell? ⟨0, 0, none⟩ = some (.int .i64 m)) (up : List Int) (Fl : List (List ClauseI)) (A AF : Option Addr) (c cF : Nat) (f : Int) (x : FileI) (hu : Sl w 1 (.slice A up.length c) (Ints up)) (hF : FsAt w AF cF Fl) (hx : x.p.size ≤ maxLen) : Calls Tryz.prog 9 #[.agg #[.slice A up.length c, .slice AF Fl.length cF], .int .i64 f, .agg #[.string x.p, .int .i64 x.size, .bool x.dead]] w (Ret (.bool true) w) := by
  cases h1 : lightT up Fl with
  | false => exact wants_dark w m hm up Fl A AF c cF f x hu hF hx h1
  | true =>
    by_cases h2 : 200 < x.p.size
    · exact wants_long w m hm up Fl A AF c cF f x hu hF hx h1 h2
    · by_cases e0 : checkT up Fl = 0
      · exact wants_tree w m hm up Fl A AF c cF f x hu hF hx h1 (by omega) e0
      · exact wants_none w m hm up Fl A AF c cF f x hu hF hx h1 (by omega) e0
set_option maxRecDepth 100000 in
theorem routeWants_lifted (os : Os) (started : os.Started) (H : Type) (enc : TypeId × Value → H) :
    ReturnsInHanded {} Tryz.checked os 9 .any (fun w args => (Rows.routeWantsSpec.pre enc Tryz.prog Tryz.f9 Rows.routeWantsRow.domain false w args ∧ laidMetH Tryz.prog Rows.routeWantsRow.laid w) ∧ sizedMet enc Tryz.prog Tryz.f9 (OpenSpec.ofChange Rows.routeWantsSpec) false w args) (Rows.routeWantsSpec.post enc Tryz.prog Tryz.f9 false true false false) := by
  refine of_change_and_shaped (C := Tryz.checked) (X := fun w _ => laidMetH Tryz.prog Rows.routeWantsRow.laid w) (fun _ _ _ hh h => h.of_heap hh) own started (by kernel_rfl) Tryz.func9
    (ChangeSpec.witness_shaped (enc := enc) (C := Tryz.checked) (os := os) (X := fun w _ => laidMetH Tryz.prog Rows.routeWantsRow.laid w) false (World.laidAll Tryz.prog os Rows.routeWantsRow.laid) #[.agg #[.slice none 0 0, .slice none 0 0], .int .i64 0, .agg #[.string ⟨#[]⟩, .int .i64 0, .bool false]] 8 (World.laidAll_os _ _ _)
      (World.shaped_of_ZipB (by kernel_rfl) (by kernel_rfl)) (by kernel_rfl) (by kernel_rfl) (by kernel_rfl)
      (by rw [MakeChecks.laidMetH_plain _ _ _ (by kernel_rfl)]; exact laidMet_laidAll _ (by kernel_rfl) (by kernel_rfl))) ?_
  intro W base args ds gs before hval0 hW hsh
  have hval : ∀ (j : Nat) t v, Tryz.f9.params[j]? = some t → args[j]? = some v → Value.okWide Tryz.prog W .any base t v := hval0
  have hW' := hW
  obtain ⟨p, q, hA0, hV, _, _, _⟩ := hW
  have hA : DataW.TrodAll enc Tryz.prog W 0 (fun _ => true) true Tryz.f9.params.toList args.toList ds p := hA0
  obtain ⟨rfl, rfl⟩ := trodVars_none hV
  rw [Tryz.params9] at hA hval
  obtain ⟨v0, v1, v2, d0, d1, d2, p0, p1, p2, hargs, rfl, _, h0, h1, h2⟩ := trodAll_three hA
  obtain rfl : args = #[v0, v1, v2] := by cases args; simp_all
  obtain ⟨t, rfl, k1⟩ := open_agg Tryz.underlying25 (opens_tree W) (hval 0 25 v0 rfl rfl) h0
  obtain ⟨r, rfl, _⟩ := open_int Tryz.underlying3 (hval 1 3 v1 rfl rfl) h1
  obtain ⟨x, rfl, k3⟩ := open_agg Tryz.underlying32 (opens_file W) (hval 2 32 v2 rfl rfl) h2
  obtain ⟨m, hm⟩ := maxlen_cell hsh
  refine (routeWants_walk W m hm t.up t.Fl t.A t.AF t.c t.cF r x k1.1 k1.2 k3).mono fun e W' ⟨he, hx⟩ => ?_
  exact ⟨_, he, law_post rfl rfl rfl underlyingBool laidOut (by kernel_rfl) hW' hx⟩
theorem routeWants_row : Rows.RouteWantsSaid :=
  OpenClaim.holds_of_wide 9 Tryz.f9 rfl rfl rfl rfl rfl rfl rfl ⟨rfl, rfl, rfl, rfl, rfl⟩ rfl rfl rfl rfl rfl (by kernel_rfl) Tryz.func9 (by kernel_rfl)
    (of_decide_eq_true (by kernel_rfl)) (by unfold Func.isWrapper; first | (rw [if_pos (by decide +kernel)]; kernel_rfl) | (rw [if_neg (by decide +kernel)]; exact ⟨rfl, rfl⟩))
    (fun os started H enc _ => routeWants_lifted os started H enc)
theorem routeWants_holds : Rows.RouteWantsCardSaid :=
  Claim7.holds_tied_plain_at .later [] [.data, .pinned] true Rows.routeWantsCard.stood.harness false routeWants_row (fun _ h => by cases h) (by kernel_rfl) (fun _ h => by cases h) routeWants_row_tie rfl ⟨rfl, rfl⟩ (by kernel_rfl) rfl
    (fun f fn hf hfn => by
      obtain rfl : f = 9 := Option.some.inj ((show Tryz.prog.funcNamed Rows.routeWantsRow.func = some 9 by kernel_rfl).symm.trans hf) |>.symm
      obtain rfl : fn = Tryz.f9 := (Option.some.inj (Tryz.func9.symm.trans hfn)).symm
      exact ⟨by kernel_rfl, fun j t ht => by
        rw [Tryz.params9] at ht
        have hm : t ∈ [25, 3, 32] := by simpa using Array.mem_of_getElem? ht
        have hall : ([25, 3, 32].all fun u => !Tryz.prog.wantsStandIn u) = true := by kernel_rfl
        exact (show Tryz.prog.wantsStandIn t = false by simpa using List.all_eq_true.1 hall t hm)⟩)
    (by kernel_rfl)
#print axioms routeWants_holds
end Go.Proofs.YtjnjamhohnnefaaGreatDoor
