/-
  The law UsageMost answers true, whatever leaves and uses come in.
-/
import Derived.Test.YtfoafookodldfaaUsK
import Derived.Test.YtfoafookodldfaaUsP
namespace Go.Proofs.Ytfoafookodldfaa
set_option linter.unusedSimpArgs false
set_option linter.unusedVariables false
open Go.RowKit Go.ChangeShapes Go.WideShapes Go.ChangeAt Go.Deep

theorem usageMost_law (l : List LeafI) (us : List UseI) (v u : Value) (w : World) (hs : Sl w 5 v (Leaves l)) (hu : Sl w 3 u (Uses us)) : Calls Try.prog 9 #[v, u] w (Ret (.bool true) w) := by
  obtain ⟨A, d, hv, h1, h2, h3⟩ := sl_use hu
  by_cases hgt : 50 < us.length
  · obtain ⟨b, o, rfl, hbl, hcell⟩ := h3 (by omega)
    subst hv
    have hL : (us.take 50).length = 50 := by simp; omega
    have hs1 := sl_take (m := 50) hu (by omega)
    have hs2 : Sl w 3 (.slice (some ⟨b, o, none⟩) (us.take 50).length d) (Uses (us.take 50)) := by rw [hL]; simpa [Uses, List.map_take] using hs1
    exact usageMost_walk_long w v l hs b o us.length (some ⟨b, o, none⟩) rfl d (us.take 50) hs2 hgt h1 hL h2 (fun _ => ⟨b, o, rfl, hbl, fun k h => by rw [List.getElem_take]; exact hcell k (by omega)⟩)
  · subst hv
    exact usageMost_walk w v l hs A d us hu (by omega) h1 h2 h3

set_option maxRecDepth 100000 in
theorem usageMost_lifted (os : Os) (started : os.Started) (H : Type) (enc : TypeId × Value → H) :
    ReturnsInHanded {} Try.checked os 9 .any (Rows.usageMostSpec.pre6 enc Try.prog Try.f9 Rows.usageMostRow.domain false) (Rows.usageMostSpec.post enc Try.prog Try.f9 false true false false) := by
  refine returnsInHanded_of_change (C := Try.checked) own started (by kernel_rfl) Try.func9
    (ChangeSpec.witness6 (enc := enc) (C := Try.checked) false ⟨#[], #[.slice none 0 0, .slice none 0 0], []⟩ 8 (by kernel_rfl) (by kernel_rfl) (by kernel_rfl) (by kernel_rfl)) ?_
  intro W base args ds gs before hval0 hW hcnd _
  have hval : ∀ (j : Nat) t v, Try.f9.params[j]? = some t → args[j]? = some v → Value.okWide Try.prog W .any base t v := hval0
  have hW' := hW
  obtain ⟨p, q, hA0, hV, _, _, _⟩ := hW
  have hA : DataW.TrodAll enc Try.prog W 0 (fun _ => true) true Try.f9.params.toList args.toList ds p := hA0
  obtain ⟨rfl, rfl⟩ := trodVars_none hV
  rw [Try.params9] at hA hval
  obtain ⟨v0, v1, d0, d1, p0, p1, hargs, rfl, _, h0, h1⟩ := trodAll_two hA
  obtain rfl : args = #[v0, v1] := by cases args; simp_all
  obtain ⟨l, hs, hl⟩ := open_sl Try.underlying52 (opensLeaf W) cellsLeaf (by decide) (fun _ => rfl) (hval 0 52 v0 rfl rfl) h0
  obtain ⟨us, hu, hb⟩ := open_sl Try.underlying58 (opensUse W) cellsUse (by decide) (fun _ => rfl) (hval 1 58 v1 rfl rfl) h1
  refine (usageMost_law l us v0 v1 W hs hu).mono fun e W' ⟨he, hx⟩ => ?_
  exact ⟨_, he, law_post rfl rfl rfl underlyingBool laidOut (by kernel_rfl) hW' hx⟩
theorem usageMost_holds : Rows.UsageMostSaid :=
  OpenClaim.holds_of_wide 9 Try.f9 rfl rfl rfl rfl rfl rfl rfl ⟨rfl, rfl, rfl, rfl, rfl⟩ rfl rfl rfl rfl rfl (by kernel_rfl) Try.func9 (by kernel_rfl)
    (of_decide_eq_true (by kernel_rfl)) (by unfold Func.isWrapper; first | (rw [if_pos (by decide +kernel)]; kernel_rfl) | (rw [if_neg (by decide +kernel)]; exact ⟨rfl, rfl⟩))
    (fun os started H enc _ => usageMost_lifted os started H enc)
#print axioms usageMost_holds
end Go.Proofs.Ytfoafookodldfaa
