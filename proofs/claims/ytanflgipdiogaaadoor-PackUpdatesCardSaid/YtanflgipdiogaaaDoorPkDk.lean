/-
  The law PackUpdates answers true, whatever comes in: the row and its tied card.
-/
import Derived.Test.YtanflgipdiogaaaDoorOpXk
import Derived.Test.YtanflgipdiogaaaDoorPkCk
namespace Go.Proofs.YtanflgipdiogaaaDoor
set_option linter.unusedSimpArgs false
set_option linter.unusedVariables false
open Go.RowKit Go.ChangeShapes Go.WideShapes Go.ChangeAt Go.Deep

theorem pk_walk (w : World) (k : Int) (hk : w.cell? ⟨0, 0, none⟩ = some (.int .i64 k)) (u : UpdI) (m : MetaI) (s : ByteArray) (hu : u.in64 ∧ u.p.size ≤ maxLen ∧ u.d.size ≤ maxLen) (hm : m.in64 ∧ in64 m.size ∧ m.p.size ≤ maxLen) : Calls Tryd.prog 7 #[u.val, m.val, .string s] w (Ret (.bool true) w) := by
  cases hlt : lightU u with
  | false => exact pk_dark w u m s hlt
  | true =>
    by_cases hp : 200 < m.p.size
    · exact pk_long w u m s hlt hp
    by_cases hbig : 1000 < s.size
    · exact pk_far w u m s hlt hp hbig
    exact pk_main w u m s k hk hlt hp hbig hu.1 hm.1 hm.2.1 _ _ rfl rfl
theorem pk_open (w : World) (k : Int) (hk : w.cell? ⟨0, 0, none⟩ = some (.int .i64 k)) (u : UpdI) (m : MetaI) (s : ByteArray) (hu : u.in64 ∧ u.p.size ≤ maxLen ∧ u.d.size ≤ maxLen) (hm : m.in64 ∧ in64 m.size ∧ m.p.size ≤ maxLen) : Calls Tryd.prog 7 #[.agg u.cells.toArray, .agg m.cells.toArray, .string s] w (Ret (.bool true) w) := pk_walk w k hk u m s hu hm
set_option maxRecDepth 100000 in
theorem packUpdates_lifted (os : Os) (started : os.Started) (H : Type) (enc : TypeId × Value → H) :
    ReturnsInHanded {} Tryd.checked os 7 .any (fun w args => (Rows.packUpdatesSpec.pre enc Tryd.prog Tryd.f7 Rows.packUpdatesRow.domain false w args ∧ laidMetH Tryd.prog Rows.packUpdatesRow.laid w) ∧ sizedMet enc Tryd.prog Tryd.f7 (OpenSpec.ofChange Rows.packUpdatesSpec) false w args) (Rows.packUpdatesSpec.post enc Tryd.prog Tryd.f7 false true false false) := by
  refine of_change_and_shaped (C := Tryd.checked) (X := fun w _ => laidMetH Tryd.prog Rows.packUpdatesRow.laid w) (fun _ _ _ hh h => h.of_heap hh) own started (by kernel_rfl) Tryd.func7
    (ChangeSpec.witness_shaped (enc := enc) (C := Tryd.checked) (os := os) (X := fun w _ => laidMetH Tryd.prog Rows.packUpdatesRow.laid w) false (World.laidAll Tryd.prog os Rows.packUpdatesRow.laid) #[.agg #[.int .i64 0, .int .i64 0, .int .i64 0, .int .i64 0, .int .i64 0, .string ⟨#[]⟩, .string ⟨#[]⟩, .bool false], .agg #[.int .i64 0, .int .i64 0, .int .i64 0, .int .i64 0, .int .i64 0, .string ⟨#[]⟩, .int .i64 0, .bool false], .string ⟨#[]⟩] 8 (World.laidAll_os _ _ _)
      (World.shaped_of_ZipB (by kernel_rfl) (by kernel_rfl)) (by kernel_rfl) (by kernel_rfl) (by kernel_rfl)
      (by rw [MakeChecks.laidMetH_plain _ _ _ (by kernel_rfl)]; exact laidMet_laidAll _ (by kernel_rfl) (by kernel_rfl))) ?_
  intro W base args ds gs before hval0 hW hsh
  have hval : ∀ (j : Nat) t v, Tryd.f7.params[j]? = some t → args[j]? = some v → Value.okWide Tryd.prog W .any base t v := hval0
  have hW' := hW
  obtain ⟨p, q, hA0, hV, _, _, _⟩ := hW
  have hA : DataW.TrodAll enc Tryd.prog W 0 (fun _ => true) true Tryd.f7.params.toList args.toList ds p := hA0
  obtain ⟨rfl, rfl⟩ := trodVars_none hV
  rw [Tryd.params7] at hA hval
  obtain ⟨v0, v1, v2, d0, d1, d2, p0, p1, p2, hargs, rfl, _, h0, h1, h2⟩ := trodAll_three hA
  obtain rfl : args = #[v0, v1, v2] := by cases args; simp_all
  obtain ⟨a, rfl, o0⟩ := open_agg Tryd.underlying38 (opens_upd W) (hval 0 38 v0 rfl rfl) h0
  obtain ⟨b, rfl, o1⟩ := open_agg Tryd.underlying40 (opens_meta W) (hval 1 40 v1 rfl rfl) h1
  obtain ⟨s, rfl, o2⟩ := Go.ChangeMaps.open_string Tryd.underlying9 (hval 2 9 v2 rfl rfl) h2
  obtain ⟨m, hm⟩ := maxlen_cell hsh
  refine (pk_open W m hm a b s o0 o1).mono fun e W' ⟨he, hx⟩ => ?_
  exact ⟨_, he, law_post rfl rfl rfl underlyingBool laidOut (by kernel_rfl) hW' hx⟩
theorem packUpdates_row : Rows.PackUpdatesSaid :=
  OpenClaim.holds_of_wide 7 Tryd.f7 rfl rfl rfl rfl rfl rfl rfl ⟨rfl, rfl, rfl, rfl, rfl⟩ rfl rfl rfl rfl rfl (by kernel_rfl) Tryd.func7 (by kernel_rfl)
    (of_decide_eq_true (by kernel_rfl)) (by unfold Func.isWrapper; first | (rw [if_pos (by decide +kernel)]; kernel_rfl) | (rw [if_neg (by decide +kernel)]; exact ⟨rfl, rfl⟩))
    (fun os started H enc _ => packUpdates_lifted os started H enc)
theorem packUpdates_holds : Rows.PackUpdatesCardSaid :=
  Claim7.holds_tied_plain_at .later [] [.data, .pinned] true Rows.packUpdatesCard.stood.harness false packUpdates_row (fun _ h => by cases h) (by kernel_rfl) (fun _ h => by cases h) packUpdates_row_tie rfl ⟨rfl, rfl⟩ (by kernel_rfl) rfl
    (fun f fn hf hfn => by
      obtain rfl : f = 7 := Option.some.inj ((show Tryd.prog.funcNamed Rows.packUpdatesRow.func = some 7 by kernel_rfl).symm.trans hf) |>.symm
      obtain rfl : fn = Tryd.f7 := (Option.some.inj (Tryd.func7.symm.trans hfn)).symm
      exact ⟨by kernel_rfl, fun j t ht => by
        rw [Tryd.params7] at ht
        have hm : t ∈ [38, 40, 9] := by simpa using Array.mem_of_getElem? ht
        have hall : ([38, 40, 9].all fun u => !Tryd.prog.wantsStandIn u) = true := by kernel_rfl
        exact (show Tryd.prog.wantsStandIn t = false by simpa using List.all_eq_true.1 hall t hm)⟩)
    (by kernel_rfl)
#print axioms packUpdates_holds
end Go.Proofs.YtanflgipdiogaaaDoor
