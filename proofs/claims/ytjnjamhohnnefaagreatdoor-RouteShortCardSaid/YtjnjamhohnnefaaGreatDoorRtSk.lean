/-
  The law RouteShort answers true, whatever comes in: the row and its tied card.
-/
import Derived.Test.YtjnjamhohnnefaaGreatDoorTrRk
import Derived.Test.YtjnjamhohnnefaaGreatDoorRtNk
namespace Go.Proofs.YtjnjamhohnnefaaGreatDoor
set_option linter.unusedSimpArgs false
set_option linter.unusedVariables false
open Go.RowKit Go.ChangeShapes Go.WideShapes Go.ChangeAt Go.Deep

theorem routeShort_walk (w : World) (m : Int) (hm : w.cell? ⟨0, 0, none⟩ = some (.int .i64 m)) (up : List Int) (Fl : List (List ClauseI)) (A AF : Option Addr) (c cF : Nat) (a b : Int) (hu : Sl w 1 (.slice A up.length c) (Ints up)) (hF : FsAt w AF cF Fl) : Calls Tryz.prog 8 #[.agg #[.slice A up.length c, .slice AF Fl.length cF], .int .i64 a, .int .i64 b] w (Ret (.bool true) w) := by
  cases h1 : lightT up Fl with
  | false => exact short_dark w m hm up Fl A AF c cF a b hu hF h1
  | true =>
    cases h2 : rightT up Fl a b with
    | false => exact short_none w m hm up Fl A AF c cF a b hu hF h1 h2
    | true => exact short_tree w m hm up Fl A AF c cF a b hu hF h1 h2
set_option maxRecDepth 100000 in
theorem routeShort_lifted (os : Os) (started : os.Started) (H : Type) (enc : TypeId × Value → H) :
    ReturnsInHanded {} Tryz.checked os 8 .any (fun w args => (Rows.routeShortSpec.pre enc Tryz.prog Tryz.f8 Rows.routeShortRow.domain false w args ∧ laidMetH Tryz.prog Rows.routeShortRow.laid w) ∧ sizedMet enc Tryz.prog Tryz.f8 (OpenSpec.ofChange Rows.routeShortSpec) false w args) (Rows.routeShortSpec.post enc Tryz.prog Tryz.f8 false true false false) := by
  refine of_change_and_shaped (C := Tryz.checked) (X := fun w _ => laidMetH Tryz.prog Rows.routeShortRow.laid w) (fun _ _ _ hh h => h.of_heap hh) own started (by kernel_rfl) Tryz.func8
    (ChangeSpec.witness_shaped (enc := enc) (C := Tryz.checked) (os := os) (X := fun w _ => laidMetH Tryz.prog Rows.routeShortRow.laid w) false (World.laidAll Tryz.prog os Rows.routeShortRow.laid) #[.agg #[.slice none 0 0, .slice none 0 0], .int .i64 0, .int .i64 0] 8 (World.laidAll_os _ _ _)
      (World.shaped_of_ZipB (by kernel_rfl) (by kernel_rfl)) (by kernel_rfl) (by kernel_rfl) (by kernel_rfl)
      (by rw [MakeChecks.laidMetH_plain _ _ _ (by kernel_rfl)]; exact laidMet_laidAll _ (by kernel_rfl) (by kernel_rfl))) ?_
  intro W base args ds gs before hval0 hW hsh
  have hval : ∀ (j : Nat) t v, Tryz.f8.params[j]? = some t → args[j]? = some v → Value.okWide Tryz.prog W .any base t v := hval0
  have hW' := hW
  obtain ⟨p, q, hA0, hV, _, _, _⟩ := hW
  have hA : DataW.TrodAll enc Tryz.prog W 0 (fun _ => true) true Tryz.f8.params.toList args.toList ds p := hA0
  obtain ⟨rfl, rfl⟩ := trodVars_none hV
  rw [Tryz.params8] at hA hval
  obtain ⟨v0, v1, v2, d0, d1, d2, p0, p1, p2, hargs, rfl, _, h0, h1, h2⟩ := trodAll_three hA
  obtain rfl : args = #[v0, v1, v2] := by cases args; simp_all
  obtain ⟨t, rfl, k1⟩ := open_agg Tryz.underlying25 (opens_tree W) (hval 0 25 v0 rfl rfl) h0
  obtain ⟨r, rfl, _⟩ := open_int Tryz.underlying3 (hval 1 3 v1 rfl rfl) h1
  obtain ⟨s, rfl, _⟩ := open_int Tryz.underlying3 (hval 2 3 v2 rfl rfl) h2
  obtain ⟨m, hm⟩ := maxlen_cell hsh
  refine (routeShort_walk W m hm t.up t.Fl t.A t.AF t.c t.cF r s k1.1 k1.2).mono fun e W' ⟨he, hx⟩ => ?_
  exact ⟨_, he, law_post rfl rfl rfl underlyingBool laidOut (by kernel_rfl) hW' hx⟩
theorem routeShort_row : Rows.RouteShortSaid :=
  OpenClaim.holds_of_wide 8 Tryz.f8 rfl rfl rfl rfl rfl rfl rfl ⟨rfl, rfl, rfl, rfl, rfl⟩ rfl rfl rfl rfl rfl (by kernel_rfl) Tryz.func8 (by kernel_rfl)
    (of_decide_eq_true (by kernel_rfl)) (by unfold Func.isWrapper; first | (rw [if_pos (by decide +kernel)]; kernel_rfl) | (rw [if_neg (by decide +kernel)]; exact ⟨rfl, rfl⟩))
    (fun os started H enc _ => routeShort_lifted os started H enc)
theorem routeShort_holds : Rows.RouteShortCardSaid :=
  Claim7.holds_tied_plain_at .later [] [.data, .pinned] true Rows.routeShortCard.stood.harness false routeShort_row (fun _ h => by cases h) (by kernel_rfl) (fun _ h => by cases h) routeShort_row_tie rfl ⟨rfl, rfl⟩ (by kernel_rfl) rfl
    (fun f fn hf hfn => by
      obtain rfl : f = 8 := Option.some.inj ((show Tryz.prog.funcNamed Rows.routeShortRow.func = some 8 by kernel_rfl).symm.trans hf) |>.symm
      obtain rfl : fn = Tryz.f8 := (Option.some.inj (Tryz.func8.symm.trans hfn)).symm
      exact ⟨by kernel_rfl, fun j t ht => by
        rw [Tryz.params8] at ht
        have hm : t ∈ [25, 3, 3] := by simpa using Array.mem_of_getElem? ht
        have hall : ([25, 3, 3].all fun u => !Tryz.prog.wantsStandIn u) = true := by kernel_rfl
        exact (show Tryz.prog.wantsStandIn t = false by simpa using List.all_eq_true.1 hall t hm)⟩)
    (by kernel_rfl)
#print axioms routeShort_holds
end Go.Proofs.YtjnjamhohnnefaaGreatDoor
