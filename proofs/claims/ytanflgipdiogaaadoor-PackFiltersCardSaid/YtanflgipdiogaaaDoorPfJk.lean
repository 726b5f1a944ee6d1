/-
  The law PackFilters answers true, whatever comes in: the row and its tied card.
-/
import Derived.Test.YtanflgipdiogaaaDoorOpXk
import Derived.Test.YtanflgipdiogaaaDoorPfIk
namespace Go.Proofs.YtanflgipdiogaaaDoor
set_option linter.unusedSimpArgs false
set_option linter.unusedVariables false
open Go.RowKit Go.ChangeShapes Go.WideShapes Go.ChangeAt Go.Deep

theorem cellsRgI : Tryd.prog.cellsOf 70 = 2 := by kernel_rfl
theorem cellsClI : Tryd.prog.cellsOf 72 = 3 := by kernel_rfl
set_option maxRecDepth 100000 in
theorem opens_rgI (w : World) : Opens Tryd.prog w 70 Ver.cells (fun v => okI v.by_ ∧ okI v.n) := by
  intro H enc fuel cs x h
  obtain ⟨xs, n, _, _, hlen, hxs, hf⟩ := DataW.trod_struct Tryd.underlying70 h
  rw [cellsRgI] at hlen
  match cs, hlen with
  | [c0, c1], _ =>
    obtain ⟨a, ha, oa⟩ := field_at hxs hf (i := 0) rfl cellsInt (opens_i64 w)
    obtain ⟨b, hb, ob⟩ := field_at hxs hf (i := 1) rfl cellsInt (opens_i64 w)
    simp at ha hb
    subst ha hb
    exact ⟨⟨a, b⟩, rfl, oa, ob⟩
set_option maxRecDepth 100000 in
theorem opens_clI (w : World) : Opens Tryd.prog w 72 ClauseI.cells (fun c => in64 c.lo ∧ in64 c.hi) := by
  intro H enc fuel cs x h
  obtain ⟨xs, n, _, _, hlen, hxs, hf⟩ := DataW.trod_struct Tryd.underlying72 h
  rw [cellsClI] at hlen
  match cs, hlen with
  | [c0, c1, c2], _ =>
    obtain ⟨a, ha, oa⟩ := field_at hxs hf (i := 0) rfl cellsStr (opens_string Tryd.underlying9)
    obtain ⟨b, hb, ob⟩ := field_at hxs hf (i := 1) rfl cellsRgI (opens_rgI w)
    simp [Ver.cells] at ha hb
    obtain ⟨hb1, hb2⟩ := hb
    subst ha hb1 hb2
    exact ⟨⟨a, b.by_, b.n⟩, rfl, ob.1.bounds, ob.2.bounds⟩
set_option maxRecDepth 100000 in
theorem packFilters_lifted (os : Os) (started : os.Started) (H : Type) (enc : TypeId × Value → H) :
    ReturnsInHanded {} Tryd.checked os 6 .any (fun w args => (Rows.packFiltersSpec.pre enc Tryd.prog Tryd.f6 Rows.packFiltersRow.domain false w args ∧ laidMetH Tryd.prog Rows.packFiltersRow.laid w) ∧ sizedMet enc Tryd.prog Tryd.f6 (OpenSpec.ofChange Rows.packFiltersSpec) false w args) (Rows.packFiltersSpec.post enc Tryd.prog Tryd.f6 false true false false) := by
  refine of_change_and_shaped (C := Tryd.checked) (X := fun w _ => laidMetH Tryd.prog Rows.packFiltersRow.laid w) (fun _ _ _ hh h => h.of_heap hh) own started (by kernel_rfl) Tryd.func6
    (ChangeSpec.witness_shaped (enc := enc) (C := Tryd.checked) (os := os) (X := fun w _ => laidMetH Tryd.prog Rows.packFiltersRow.laid w) false (World.laidAll Tryd.prog os Rows.packFiltersRow.laid) #[.slice none 0 0, .string ⟨#[]⟩] 8 (World.laidAll_os _ _ _)
      (World.shaped_of_ZipB (by kernel_rfl) (by kernel_rfl)) (by kernel_rfl) (by kernel_rfl) (by kernel_rfl)
      (by rw [MakeChecks.laidMetH_plain _ _ _ (by kernel_rfl)]; exact laidMet_laidAll _ (by kernel_rfl) (by kernel_rfl))) ?_
  intro W base args ds gs before hval0 hW hsh
  have hval : ∀ (j : Nat) t v, Tryd.f6.params[j]? = some t → args[j]? = some v → Value.okWide Tryd.prog W .any base t v := hval0
  have hW' := hW
  obtain ⟨p, q, hA0, hV, _, _, _⟩ := hW
  have hA : DataW.TrodAll enc Tryd.prog W 0 (fun _ => true) true Tryd.f6.params.toList args.toList ds p := hA0
  obtain ⟨rfl, rfl⟩ := trodVars_none hV
  rw [Tryd.params6] at hA hval
  obtain ⟨v0, v1, d0, d1, p0, p1, hargs, rfl, _, h0, h1⟩ := trodAll_two hA
  obtain rfl : args = #[v0, v1] := by cases args; simp_all
  obtain ⟨f, hs0, ho0⟩ := open_sl Tryd.underlying52 (opens_clI W) cellsClI (by decide) (fun _ => rfl) (hval 0 52 v0 rfl rfl) h0
  obtain ⟨s, rfl, o2⟩ := Go.ChangeMaps.open_string Tryd.underlying9 (hval 1 9 v1 rfl rfl) h1
  obtain ⟨m, hm⟩ := maxlen_cell hsh
  refine (pf_walk W v0 f s m hm hs0 ho0).mono fun e W' ⟨he, hx⟩ => ?_
  exact ⟨_, he, law_post rfl rfl rfl underlyingBool laidOut (by kernel_rfl) hW' hx⟩
theorem packFilters_row : Rows.PackFiltersSaid :=
  OpenClaim.holds_of_wide 6 Tryd.f6 rfl rfl rfl rfl rfl rfl rfl ⟨rfl, rfl, rfl, rfl, rfl⟩ rfl rfl rfl rfl rfl (by kernel_rfl) Tryd.func6 (by kernel_rfl)
    (of_decide_eq_true (by kernel_rfl)) (by unfold Func.isWrapper; first | (rw [if_pos (by decide +kernel)]; kernel_rfl) | (rw [if_neg (by decide +kernel)]; exact ⟨rfl, rfl⟩))
    (fun os started H enc _ => packFilters_lifted os started H enc)
theorem packFilters_holds : Rows.PackFiltersCardSaid :=
  Claim7.holds_tied_plain_at .later [] [.data, .pinned] true Rows.packFiltersCard.stood.harness false packFilters_row (fun _ h => by cases h) (by kernel_rfl) (fun _ h => by cases h) packFilters_row_tie rfl ⟨rfl, rfl⟩ (by kernel_rfl) rfl
    (fun f fn hf hfn => by
      obtain rfl : f = 6 := Option.some.inj ((show Tryd.prog.funcNamed Rows.packFiltersRow.func = some 6 by kernel_rfl).symm.trans hf) |>.symm
      obtain rfl : fn = Tryd.f6 := (Option.some.inj (Tryd.func6.symm.trans hfn)).symm
      exact ⟨by kernel_rfl, fun j t ht => by
        rw [Tryd.params6] at ht
        have hm : t ∈ [52, 9] := by simpa using Array.mem_of_getElem? ht
        have hall : ([52, 9].all fun u => !Tryd.prog.wantsStandIn u) = true := by kernel_rfl
        exact (show Tryd.prog.wantsStandIn t = false by simpa using List.all_eq_true.1 hall t hm)⟩)
    (by kernel_rfl)
#print axioms packFilters_holds
end Go.Proofs.YtanflgipdiogaaaDoor
