/-
  The law BatchCuts answers true, whatever comes in: the row and its tied card.
-/
import Derived.Test.YtanflgipdiogaaaDoorOpEk
import Derived.Test.YtanflgipdiogaaaDoorBtVk
namespace Go.Proofs.YtanflgipdiogaaaDoor
set_option linter.unusedSimpArgs false
set_option linter.unusedVariables false
open Go.RowKit Go.ChangeShapes Go.WideShapes Go.ChangeAt Go.Deep

theorem cuts_walk (w : World) (v : Value) (l : List EntI) (lim m : Int) (hm : w.cell? ⟨0, 0, none⟩ = some (.int .i64 m)) (h : Sl w 21 v (l.map EntI.cells)) (hin : ∀ e ∈ l, EntIn e) : Calls Tryd.prog 3 #[v, .int .i64 lim] w (Ret (.bool true) w) := by
  cases h1 : (l.all lightE && decide (l.length ≤ 60)) with
  | false => exact cuts_dark w v l lim m hm h h1
  | true =>
    have h1' := h1
    simp only [Bool.and_eq_true, decide_eq_true_eq] at h1'
    have hok : ∀ e ∈ l, EntOk e := fun e he => (hin e he).ok (List.all_eq_true.1 h1'.1 e he)
    by_cases hb : lim < 1 ∨ 4096 < lim
    · exact cuts_far w v l lim m hm h h1 hb
    · cases h2 : l.all hasB with
      | false => exact cuts_wrong w v l lim m hm h hok h1 h1'.2 h2 (by omega)
      | true => exact cuts_main w v l lim m hm h hok h1 h1'.2 h2 (by omega)
set_option maxRecDepth 100000 in
theorem batchCuts_lifted (os : Os) (started : os.Started) (H : Type) (enc : TypeId × Value → H) :
    ReturnsInHanded {} Tryd.checked os 3 .any (fun w args => (Rows.batchCutsSpec.pre enc Tryd.prog Tryd.f3 Rows.batchCutsRow.domain false w args ∧ laidMetH Tryd.prog Rows.batchCutsRow.laid w) ∧ sizedMet enc Tryd.prog Tryd.f3 (OpenSpec.ofChange Rows.batchCutsSpec) false w args) (Rows.batchCutsSpec.post enc Tryd.prog Tryd.f3 false true false false) := by
  refine of_change_and_shaped (C := Tryd.checked) (X := fun w _ => laidMetH Tryd.prog Rows.batchCutsRow.laid w) (fun _ _ _ hh h => h.of_heap hh) own started (by kernel_rfl) Tryd.func3
    (ChangeSpec.witness_shaped (enc := enc) (C := Tryd.checked) (os := os) (X := fun w _ => laidMetH Tryd.prog Rows.batchCutsRow.laid w) false (World.laidAll Tryd.prog os Rows.batchCutsRow.laid) #[.slice none 0 0, .int .i64 0] 8 (World.laidAll_os _ _ _)
      (World.shaped_of_ZipB (by kernel_rfl) (by kernel_rfl)) (by kernel_rfl) (by kernel_rfl) (by kernel_rfl)
      (by rw [MakeChecks.laidMetH_plain _ _ _ (by kernel_rfl)]; exact laidMet_laidAll _ (by kernel_rfl) (by kernel_rfl))) ?_
  intro W base args ds gs before hval0 hW hsh
  have hval : ∀ (j : Nat) t v, Tryd.f3.params[j]? = some t → args[j]? = some v → Value.okWide Tryd.prog W .any base t v := hval0
  have hW' := hW
  obtain ⟨p, q, hA0, hV, _, _, _⟩ := hW
  have hA : DataW.TrodAll enc Tryd.prog W 0 (fun _ => true) true Tryd.f3.params.toList args.toList ds p := hA0
  obtain ⟨rfl, rfl⟩ := trodVars_none hV
  rw [Tryd.params3] at hA hval
  obtain ⟨v0, v1, d0, d1, p0, p1, hargs, rfl, _, h0, h1⟩ := trodAll_two hA
  obtain rfl : args = #[v0, v1] := by cases args; simp_all
  obtain ⟨l, hs0, ho0⟩ := open_sl Tryd.underlying22 (opens_ent W) cellsEnt (by decide) (fun _ => rfl) (hval 0 22 v0 rfl rfl) h0
  obtain ⟨n, rfl, o1⟩ := open_int Tryd.underlying3 (hval 1 3 v1 rfl rfl) h1
  obtain ⟨m, hm⟩ := maxlen_cell hsh
  refine (cuts_walk W v0 l n m hm hs0 ho0).mono fun e W' ⟨he, hx⟩ => ?_
  exact ⟨_, he, law_post rfl rfl rfl underlyingBool laidOut (by kernel_rfl) hW' hx⟩
theorem batchCuts_row : Rows.BatchCutsSaid :=
  OpenClaim.holds_of_wide 3 Tryd.f3 rfl rfl rfl rfl rfl rfl rfl ⟨rfl, rfl, rfl, rfl, rfl⟩ rfl rfl rfl rfl rfl (by kernel_rfl) Tryd.func3 (by kernel_rfl)
    (of_decide_eq_true (by kernel_rfl)) (by unfold Func.isWrapper; first | (rw [if_pos (by decide +kernel)]; kernel_rfl) | (rw [if_neg (by decide +kernel)]; exact ⟨rfl, rfl⟩))
    (fun os started H enc _ => batchCuts_lifted os started H enc)
theorem batchCuts_holds : Rows.BatchCutsCardSaid :=
  Claim7.holds_tied_plain_at .later [] [.data, .pinned] true Rows.batchCutsCard.stood.harness false batchCuts_row (fun _ h => by cases h) (by kernel_rfl) (fun _ h => by cases h) batchCuts_row_tie rfl ⟨rfl, rfl⟩ (by kernel_rfl) rfl
    (fun f fn hf hfn => by
      obtain rfl : f = 3 := Option.some.inj ((show Tryd.prog.funcNamed Rows.batchCutsRow.func = some 3 by kernel_rfl).symm.trans hf) |>.symm
      obtain rfl : fn = Tryd.f3 := (Option.some.inj (Tryd.func3.symm.trans hfn)).symm
      exact ⟨by kernel_rfl, fun j t ht => by
        rw [Tryd.params3] at ht
        have hm : t ∈ [22, 3] := by simpa using Array.mem_of_getElem? ht
        have hall : ([22, 3].all fun u => !Tryd.prog.wantsStandIn u) = true := by kernel_rfl
        exact (show Tryd.prog.wantsStandIn t = false by simpa using List.all_eq_true.1 hall t hm)⟩)
    (by kernel_rfl)
#print axioms batchCuts_holds
end Go.Proofs.YtanflgipdiogaaaDoor
