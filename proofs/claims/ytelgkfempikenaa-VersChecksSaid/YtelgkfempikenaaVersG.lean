/-
  The law VersChecks answers true, whatever version and stamp come in.
-/
import Derived.Test.YtelgkfempikenaaRows
import Derived.Test.YtelgkfempikenaaVersF
import Derived.Test.YtelgkfempikenaaOpen
namespace Go.Proofs.Ytelgkfempikenaa
open Go.RowKit Go.ChangeShapes Go.WideShapes Go.ChangeAt Go.Deep

theorem own : ownKnob Try.prog.godebug = none := by kernel_rfl
theorem laidOut : laidOutB Try.prog = true := by kernel_rfl
theorem cellsVer : Try.prog.cellsOf 24 = 2 := by kernel_rfl
theorem cellsStamp : Try.prog.cellsOf 26 = 3 := by kernel_rfl
theorem cellsInt : Try.prog.cellsOf 3 = 1 := by kernel_rfl

theorem opens_i64 (w : World) : Opens Try.prog w 3 (fun z : Int => [.int .i64 z]) okI := opens_int Try.underlying3

theorem opens_ver (w : World) : Opens Try.prog w 24 Ver.cells (fun v => okI v.by_ ∧ okI v.n) := by
  intro H enc fuel cs x h
  obtain ⟨xs, n, _, _, hlen, hxs, hf⟩ := DataW.trod_struct Try.underlying24 h
  rw [cellsVer] at hlen
  match cs, hlen with
  | [c0, c1], _ =>
    obtain ⟨a, ha, oa⟩ := field_at hxs hf (i := 0) rfl cellsInt (opens_i64 w)
    obtain ⟨b, hb, ob⟩ := field_at hxs hf (i := 1) rfl cellsInt (opens_i64 w)
    simp at ha hb
    subst ha hb
    exact ⟨⟨a, b⟩, rfl, oa, ob⟩
theorem opens_stamp (w : World) : Opens Try.prog w 26 Stamp.cells (fun s => okI s.v.by_ ∧ okI s.v.n ∧ okI s.time) := by
  intro H enc fuel cs x h
  obtain ⟨xs, n, _, _, hlen, hxs, hf⟩ := DataW.trod_struct Try.underlying26 h
  rw [cellsStamp] at hlen
  match cs, hlen with
  | [c0, c1, c2], _ =>
    obtain ⟨a, ha, oa⟩ := field_at hxs hf (i := 0) rfl cellsVer (opens_ver w)
    obtain ⟨b, hb, ob⟩ := field_at hxs hf (i := 1) rfl cellsInt (opens_i64 w)
    simp [Ver.cells] at ha hb
    obtain ⟨rfl, rfl⟩ := ha
    subst hb
    exact ⟨⟨a, b⟩, rfl, oa.1, oa.2, ob⟩

theorem checks_c (s : Stamp) (w : World) : Calls Try.prog 4 #[.agg #[.int .i64 s.v.by_, .int .i64 s.v.n, .int .i64 s.time]] w (Ret (.bool true) w) := by
  refine checks_walk s.v.by_ s.v.n s.time (checkV s.v) (checkS s) (decide (1 ≤ s.v.by_ ∧ s.v.by_ ≤ 64 ∧ 1 ≤ s.v.n)) w (fun W => hid (check_c s.v W)) (fun W => hid (checkStamp_c s W)) (fun W => hid (right_c s.v W)) ?_
  by_cases h : 1 ≤ s.v.by_ ∧ s.v.by_ ≤ 64 ∧ 1 ≤ s.v.n
  · by_cases ht : 1 ≤ s.time
    · exact .inl ⟨by simp [checkV, h], by simp [h], by simp [checkS, checkV, h]; omega, ht⟩
    · exact .inr (.inl ⟨by simp [checkV, h], by simp [h], by simp [checkS, show s.time < 1 by omega], by omega⟩)
  · refine .inr (.inr ⟨by simp only [checkV, if_neg h], by simp only [h, decide_false], ?_⟩)
    simp only [checkS, checkV, if_neg h]
    split <;> rfl

set_option maxRecDepth 100000 in
theorem versChecks_lifted (os : Os) (started : os.Started) (H : Type) (enc : TypeId × Value → H) :
    ReturnsInHanded {} Try.checked os 4 .any (Rows.versChecksSpec.pre6 enc Try.prog Try.f4 Rows.versChecksRow.domain false) (Rows.versChecksSpec.post enc Try.prog Try.f4 false true false false) := by
  refine returnsInHanded_of_change (C := Try.checked) own started (by kernel_rfl) Try.func4
    (ChangeSpec.witness6 (enc := enc) (C := Try.checked) false ⟨#[], #[.agg #[.int .i64 0, .int .i64 0, .int .i64 0]], []⟩ 8 (by kernel_rfl) (by kernel_rfl) (by kernel_rfl) (by kernel_rfl)) ?_
  intro W base args ds gs before hval0 hW hcnd _
  have hval : ∀ (j : Nat) t v, Try.f4.params[j]? = some t → args[j]? = some v → Value.okWide Try.prog W .any base t v := hval0
  have hW' := hW
  obtain ⟨p, q, hA0, hV, _, _, _⟩ := hW
  have hA : DataW.TrodAll enc Try.prog W 0 (fun _ => true) true Try.f4.params.toList args.toList ds p := hA0
  obtain ⟨rfl, rfl⟩ := trodVars_none hV
  rw [Try.params4] at hA hval
  obtain ⟨v0, d0, hargs, rfl, h0⟩ := trodAll_one hA
  obtain rfl : args = #[v0] := by cases args; simp_all
  obtain ⟨s, rfl, _⟩ := open_agg Try.underlying26 (opens_stamp W) (hval 0 26 v0 rfl rfl) h0
  refine (checks_c s W).mono fun e W' ⟨he, hx⟩ => ?_
  exact ⟨_, he, law_post rfl rfl rfl Try.underlying4 laidOut (by kernel_rfl) hW' hx⟩

theorem versChecks_holds : Rows.VersChecksSaid :=
  OpenClaim.holds_of_wide 4 Try.f4 rfl rfl rfl rfl rfl rfl rfl ⟨rfl, rfl, rfl, rfl, rfl⟩ rfl rfl rfl rfl rfl (by kernel_rfl) Try.func4 (by kernel_rfl)
    (of_decide_eq_true (by kernel_rfl)) (by unfold Func.isWrapper; first | (rw [if_pos (by decide +kernel)]; kernel_rfl) | (rw [if_neg (by decide +kernel)]; exact ⟨rfl, rfl⟩))
    (fun os started H enc _ => versChecks_lifted os started H enc)
#print axioms versChecks_holds
end Go.Proofs.Ytelgkfempikenaa
