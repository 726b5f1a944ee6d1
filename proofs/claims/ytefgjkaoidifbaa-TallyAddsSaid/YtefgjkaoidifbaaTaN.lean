/-
  The law TallyAdds answers true, whatever counts come in.
-/
import Derived.Test.YtefgjkaoidifbaaIsO
import Derived.Test.YtefgjkaoidifbaaTaL
namespace Go.Proofs.Ytefgjkaoidifbaa
set_option linter.unusedSimpArgs false
set_option linter.unusedVariables false
open Go.RowKit Go.ChangeShapes Go.WideShapes Go.ChangeAt Go.Deep

theorem cellsCnt : Try.prog.cellsOf 58 = 4 := by kernel_rfl
set_option maxRecDepth 100000 in
theorem opens_cnt (w : World) : Opens Try.prog w 58 Cnt.cells (fun c => okI c.kind) := by
  intro H enc fuel cs x h
  obtain ⟨xs, n, _, _, hlen, hxs, hf⟩ := DataW.trod_struct Try.underlying58 h
  rw [cellsCnt] at hlen
  match cs, hlen with
  | [c0, c1, c2, c3], _ =>
    obtain ⟨a, ha, oa⟩ := field_at hxs hf (i := 0) rfl cellsInt (opens_i64 w)
    obtain ⟨b, hb, ob⟩ := field_at hxs hf (i := 1) rfl cellsInt (opens_i64 w)
    obtain ⟨c, hc, oc⟩ := field_at hxs hf (i := 2) rfl cellsInt (opens_i64 w)
    obtain ⟨d, hd, od⟩ := field_at hxs hf (i := 3) rfl cellsInt (opens_i64 w)
    simp at ha hb hc hd
    subst ha hb hc hd
    exact ⟨⟨a, b, c, d⟩, rfl, oa⟩

set_option maxRecDepth 100000 in
theorem tallyAdds_lifted (os : Os) (started : os.Started) (H : Type) (enc : TypeId × Value → H) :
    ReturnsInHanded {} Try.checked os 9 .any (Rows.tallyAddsSpec.pre6 enc Try.prog Try.f9 Rows.tallyAddsRow.domain false) (Rows.tallyAddsSpec.post enc Try.prog Try.f9 false true false false) := by
  refine returnsInHanded_of_change (C := Try.checked) own started (by kernel_rfl) Try.func9
    (ChangeSpec.witness6 (enc := enc) (C := Try.checked) false ⟨#[], #[.slice none 0 0, .slice none 0 0], []⟩ 8 (by kernel_rfl) (by kernel_rfl) (by kernel_rfl) (by kernel_rfl)) ?_
  intro W base args ds gs before hval0 hW hcnd _
  have hval : ∀ (j : Nat) t v, Try.f9.params[j]? = some t → args[j]? = some v → Value.okWide Try.prog W .any base t v := hval0
  have hW' := hW
  obtain ⟨p, q, hA0, hV, _, _, _⟩ := hW
  have hA : DataW.TrodAll enc Try.prog W 0 (fun _ => true) true Try.f9.params.toList args.toList ds p := hA0
  obtain ⟨rfl, rfl⟩ := trodVars_none hV
  rw [Try.params9] at hA hval
  obtain ⟨v0, v1, d0, d1, p0, p1, hargs, rfl, _, h0, h1⟩ := trodAll_two hA
  obtain rfl : args = #[v0, v1] := by cases args; simp_all
  obtain ⟨l, hs, hl⟩ := open_sl Try.underlying53 (opens_cnt W) cellsCnt (by decide) (fun _ => rfl) (hval 0 53 v0 rfl rfl) h0
  obtain ⟨m, ht, hm⟩ := open_sl Try.underlying53 (opens_cnt W) cellsCnt (by decide) (fun _ => rfl) (hval 1 53 v1 rfl rfl) h1
  refine (adds_walk W v0 v1 l m hs ht hl hm).mono fun e W' ⟨he, hx⟩ => ?_
  exact ⟨_, he, law_post rfl rfl rfl underlyingBool laidOut (by kernel_rfl) hW' hx⟩
theorem tallyAdds_holds : Rows.TallyAddsSaid :=
  OpenClaim.holds_of_wide 9 Try.f9 rfl rfl rfl rfl rfl rfl rfl ⟨rfl, rfl, rfl, rfl, rfl⟩ rfl rfl rfl rfl rfl (by kernel_rfl) Try.func9 (by kernel_rfl)
    (of_decide_eq_true (by kernel_rfl)) (by unfold Func.isWrapper; first | (rw [if_pos (by decide +kernel)]; kernel_rfl) | (rw [if_neg (by decide +kernel)]; exact ⟨rfl, rfl⟩))
    (fun os started H enc _ => tallyAdds_lifted os started H enc)
#print axioms tallyAdds_holds
end Go.Proofs.Ytefgjkaoidifbaa
