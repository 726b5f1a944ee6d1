/-
  The law TreeMay answers true, whatever comes in: the row and its tied card.
-/
import Derived.Test.YtjnjamhohnnefaaGreatDoorTsBk
import Derived.Test.YtjnjamhohnnefaaGreatDoorTsAk
namespace Go.Proofs.YtjnjamhohnnefaaGreatDoor
set_option linter.unusedSimpArgs false
set_option linter.unusedVariables false
open Go.RowKit Go.ChangeShapes Go.WideShapes Go.ChangeAt Go.Deep

theorem treeMay_walk (w : World) (m : Int) (hm : w.cell? ⟨0, 0, none⟩ = some (.int .i64 m)) (up : List Int) (Fl : List (List ClauseI)) (A AF Av : Option Addr) (c cF cv : Nat) (r : Int) (f : List ClauseI) (x : FileI) (hu : Sl w 1 (.slice A up.length c) (Ints up)) (hF : FsAt w AF cF Fl) (hf : Sl w 3 (.slice Av f.length cv) (f.map ClauseI.cells)) (hx : x.p.size ≤ maxLen) : Calls Tryz.prog 4 #[.agg #[.slice A up.length c, .slice AF Fl.length cF, .int .i64 r, .slice Av f.length cv, .string x.p, .int .i64 x.size, .bool x.dead]] w (Ret (.bool true) w) := by
  cases h1 : lightT up Fl with
  | false => exact may_dark w m hm up Fl A AF Av c cF cv r f x hu hF hf hx h1
  | true =>
    cases h2 : lightF f with
    | false => exact may_dark2 w m hm up Fl A AF Av c cF cv r f x hu hF hf hx h1 h2
    | true =>
      by_cases e0 : checkT up Fl = 0
      · cases h3 : inT up.length r with
        | false => exact may_out w m hm up Fl A AF Av c cF cv r f x hu hF hf hx h1 h2 e0 h3
        | true => exact may_in w m hm up Fl A AF Av c cF cv r f x hu hF hf hx h1 h2 e0 h3
      · exact may_none w m hm up Fl A AF Av c cF cv r f x hu hF hf hx h1 h2 e0
set_option maxRecDepth 100000 in
theorem treeMay_lifted (os : Os) (started : os.Started) (H : Type) (enc : TypeId × Value → H) :
    ReturnsInHanded {} Tryz.checked os 4 .any (fun w args => (Rows.treeMaySpec.pre enc Tryz.prog Tryz.f4 Rows.treeMayRow.domain false w args ∧ laidMetH Tryz.prog Rows.treeMayRow.laid w) ∧ sizedMet enc Tryz.prog Tryz.f4 (OpenSpec.ofChange Rows.treeMaySpec) false w args) (Rows.treeMaySpec.post enc Tryz.prog Tryz.f4 false true false false) := by
  refine of_change_and_shaped (C := Tryz.checked) (X := fun w _ => laidMetH Tryz.prog Rows.treeMayRow.laid w) (fun _ _ _ hh h => h.of_heap hh) own started (by kernel_rfl) Tryz.func4
    (ChangeSpec.witness_shaped (enc := enc) (C := Tryz.checked) (os := os) (X := fun w _ => laidMetH Tryz.prog Rows.treeMayRow.laid w) false (World.laidAll Tryz.prog os Rows.treeMayRow.laid) #[.agg #[.slice none 0 0, .slice none 0 0, .int .i64 0, .slice none 0 0, .string ⟨#[]⟩, .int .i64 0, .bool false]] 8 (World.laidAll_os _ _ _)
      (World.shaped_of_ZipB (by kernel_rfl) (by kernel_rfl)) (by kernel_rfl) (by kernel_rfl) (by kernel_rfl)
      (by rw [MakeChecks.laidMetH_plain _ _ _ (by kernel_rfl)]; exact laidMet_laidAll _ (by kernel_rfl) (by kernel_rfl))) ?_
  intro W base args ds gs before hval0 hW hsh
  have hval : ∀ (j : Nat) t v, Tryz.f4.params[j]? = some t → args[j]? = some v → Value.okWide Tryz.prog W .any base t v := hval0
  have hW' := hW
  obtain ⟨p, q, hA0, hV, _, _, _⟩ := hW
  have hA : DataW.TrodAll enc Tryz.prog W 0 (fun _ => true) true Tryz.f4.params.toList args.toList ds p := hA0
  obtain ⟨rfl, rfl⟩ := trodVars_none hV
  rw [Tryz.params4] at hA hval
  obtain ⟨v0, d0, hargs, rfl, h0⟩ := trodAll_one hA
  obtain rfl : args = #[v0] := by cases args; simp_all
  obtain ⟨q, rfl, k1⟩ := open_agg Tryz.underlying34 (opens_four W) (hval 0 34 v0 rfl rfl) h0
  obtain ⟨m, hm⟩ := maxlen_cell hsh
  refine (treeMay_walk W m hm q.t.up q.t.Fl q.t.A q.t.AF q.Av q.t.c q.t.cF q.cv q.r q.f q.x k1.1.1 k1.1.2 k1.2.1 k1.2.2).mono fun e W' ⟨he, hx⟩ => ?_
  exact ⟨_, he, law_post rfl rfl rfl underlyingBool laidOut (by kernel_rfl) hW' hx⟩
theorem treeMay_row : Rows.TreeMaySaid :=
  OpenClaim.holds_of_wide 4 Tryz.f4 rfl rfl rfl rfl rfl rfl rfl ⟨rfl, rfl, rfl, rfl, rfl⟩ rfl rfl rfl rfl rfl (by kernel_rfl) Tryz.func4 (by kernel_rfl)
    (of_decide_eq_true (by kernel_rfl)) (by unfold Func.isWrapper; first | (rw [if_pos (by decide +kernel)]; kernel_rfl) | (rw [if_neg (by decide +kernel)]; exact ⟨rfl, rfl⟩))
    (fun os started H enc _ => treeMay_lifted os started H enc)
theorem treeMay_holds : Rows.TreeMayCardSaid :=
  Claim7.holds_tied_plain_at .later [] [.data, .pinned] true Rows.treeMayCard.stood.harness false treeMay_row (fun _ h => by cases h) (by kernel_rfl) (fun _ h => by cases h) treeMay_row_tie rfl ⟨rfl, rfl⟩ (by kernel_rfl) rfl
    (fun f fn hf hfn => by
      obtain rfl : f = 4 := Option.some.inj ((show Tryz.prog.funcNamed Rows.treeMayRow.func = some 4 by kernel_rfl).symm.trans hf) |>.symm
      obtain rfl : fn = Tryz.f4 := (Option.some.inj (Tryz.func4.symm.trans hfn)).symm
      exact ⟨by kernel_rfl, fun j t ht => by
        rw [Tryz.params4] at ht
        have hm : t ∈ [34] := by simpa using Array.mem_of_getElem? ht
        have hall : ([34].all fun u => !Tryz.prog.wantsStandIn u) = true := by kernel_rfl
        exact (show Tryz.prog.wantsStandIn t = false by simpa using List.all_eq_true.1 hall t hm)⟩)
    (by kernel_rfl)
#print axioms treeMay_holds
end Go.Proofs.YtjnjamhohnnefaaGreatDoor
