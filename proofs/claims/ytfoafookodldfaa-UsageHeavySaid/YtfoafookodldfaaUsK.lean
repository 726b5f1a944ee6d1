/-
  The law UsageOf answers true, whatever leaves and prefix come in.
-/
import Derived.Test.YtfoafookodldfaaIdxT
import Derived.Test.YtfoafookodldfaaUsJ
namespace Go.Proofs.Ytfoafookodldfaa
set_option linter.unusedSimpArgs false
set_option linter.unusedVariables false
open Go.RowKit Go.ChangeShapes Go.WideShapes Go.ChangeAt Go.Deep

theorem cellsInt43 : Try.prog.cellsOf 3 = 1 := by kernel_rfl
theorem cellsVer43 : Try.prog.cellsOf 64 = 2 := by kernel_rfl
theorem cellsLeaf : Try.prog.cellsOf 66 = 5 := by kernel_rfl
theorem cellsUse : Try.prog.cellsOf 55 = 3 := by kernel_rfl
theorem opensInt43 (w : World) : Opens Try.prog w 3 (fun z : Int => [.int .i64 z]) okI := opens_int Try.underlying3
theorem opensVer43 (w : World) : Opens Try.prog w 64 (fun v : Int × Int => [.int .i64 v.1, .int .i64 v.2]) (fun _ => True) := by
  intro H enc fuel cs x h
  obtain ⟨xs, n, _, _, hlen, hxs, hf⟩ := DataW.trod_struct Try.underlying64 h
  rw [cellsVer43] at hlen
  match cs, hlen with
  | [c0, c1], _ =>
    obtain ⟨a, ha, oa⟩ := field_at hxs hf (i := 0) rfl cellsInt43 (opensInt43 w)
    obtain ⟨b, hb, ob⟩ := field_at hxs hf (i := 1) rfl cellsInt43 (opensInt43 w)
    simp at ha hb
    subst ha hb
    exact ⟨(a, b), rfl, trivial⟩
theorem opensLeaf (w : World) : Opens Try.prog w 66 LeafI.cells (fun _ => True) := by
  intro H enc fuel cs x h
  obtain ⟨xs, n, _, _, hlen, hxs, hf⟩ := DataW.trod_struct Try.underlying66 h
  rw [cellsLeaf] at hlen
  match cs, hlen with
  | [c0, c1, c2, c3, c4], _ =>
    obtain ⟨a, ha, oa⟩ := field_at hxs hf (i := 0) rfl cellsString (opensStr w)
    obtain ⟨b, hb, ob⟩ := field_at hxs hf (i := 1) rfl cellsString (opensStr w)
    obtain ⟨c, hc, oc⟩ := field_at hxs hf (i := 2) rfl cellsVer43 (opensVer43 w)
    obtain ⟨d, hd, od⟩ := field_at hxs hf (i := 3) rfl cellsString (opensStr w)
    simp at ha hb hc hd
    obtain ⟨rfl, rfl⟩ := hc
    subst ha hb hd
    exact ⟨⟨a, b, c.1, c.2, d⟩, rfl, trivial⟩
theorem opensUse (w : World) : Opens Try.prog w 55 UseI.cells (fun u => okI u.files ∧ okI u.bytes ∧ u.pre.size ≤ maxLen) := by
  intro H enc fuel cs x h
  obtain ⟨xs, n, _, _, hlen, hxs, hf⟩ := DataW.trod_struct Try.underlying55 h
  rw [cellsUse] at hlen
  match cs, hlen with
  | [c0, c1, c2], _ =>
    obtain ⟨a, ha, oa⟩ := field_at hxs hf (i := 0) rfl cellsString (opensStr w)
    obtain ⟨b, hb, ob⟩ := field_at hxs hf (i := 1) rfl cellsInt43 (opensInt43 w)
    obtain ⟨c, hc, oc⟩ := field_at hxs hf (i := 2) rfl cellsInt43 (opensInt43 w)
    simp at ha hb hc
    subst ha hb hc
    exact ⟨⟨a, b, c⟩, rfl, ob, oc, oa⟩

set_option maxRecDepth 100000 in
theorem usageOf_lifted (os : Os) (started : os.Started) (H : Type) (enc : TypeId × Value → H) :
    ReturnsInHanded {} Try.checked os 7 .any (Rows.usageOfSpec.pre6 enc Try.prog Try.f7 Rows.usageOfRow.domain false) (Rows.usageOfSpec.post enc Try.prog Try.f7 false true false false) := by
  refine returnsInHanded_of_change (C := Try.checked) own started (by kernel_rfl) Try.func7
    (ChangeSpec.witness6 (enc := enc) (C := Try.checked) false ⟨#[], #[.slice none 0 0, .string ⟨#[]⟩], []⟩ 8 (by kernel_rfl) (by kernel_rfl) (by kernel_rfl) (by kernel_rfl)) ?_
  intro W base args ds gs before hval0 hW hcnd _
  have hval : ∀ (j : Nat) t v, Try.f7.params[j]? = some t → args[j]? = some v → Value.okWide Try.prog W .any base t v := hval0
  have hW' := hW
  obtain ⟨p, q, hA0, hV, _, _, _⟩ := hW
  have hA : DataW.TrodAll enc Try.prog W 0 (fun _ => true) true Try.f7.params.toList args.toList ds p := hA0
  obtain ⟨rfl, rfl⟩ := trodVars_none hV
  rw [Try.params7] at hA hval
  obtain ⟨v0, v1, d0, d1, p0, p1, hargs, rfl, _, h0, h1⟩ := trodAll_two hA
  obtain rfl : args = #[v0, v1] := by cases args; simp_all
  obtain ⟨l, hs, hl⟩ := open_sl Try.underlying52 (opensLeaf W) cellsLeaf (by decide) (fun _ => rfl) (hval 0 52 v0 rfl rfl) h0
  obtain ⟨p, rfl, ws⟩ := Go.ChangeMaps.open_string Try.underlying9 (hval 1 9 v1 rfl rfl) h1
  refine (usageOf_walk W v0 l p hs ws.2.2).mono fun e W' ⟨he, hx⟩ => ?_
  exact ⟨_, he, law_post rfl rfl rfl underlyingBool laidOut (by kernel_rfl) hW' hx⟩
theorem usageOf_holds : Rows.UsageOfSaid :=
  OpenClaim.holds_of_wide 7 Try.f7 rfl rfl rfl rfl rfl rfl rfl ⟨rfl, rfl, rfl, rfl, rfl⟩ rfl rfl rfl rfl rfl (by kernel_rfl) Try.func7 (by kernel_rfl)
    (of_decide_eq_true (by kernel_rfl)) (by unfold Func.isWrapper; first | (rw [if_pos (by decide +kernel)]; kernel_rfl) | (rw [if_neg (by decide +kernel)]; exact ⟨rfl, rfl⟩))
    (fun os started H enc _ => usageOf_lifted os started H enc)
#print axioms usageOf_holds
end Go.Proofs.Ytfoafookodldfaa
