/-
  The law IndexOrder answers true, whatever names and bytes come in.
-/
import Derived.Test.YtfoafookodldfaaIdxP
import Derived.Test.YtfoafookodldfaaIdxS
namespace Go.Proofs.Ytfoafookodldfaa
set_option linter.unusedSimpArgs false
set_option linter.unusedVariables false
open Go.RowKit Go.ChangeShapes Go.WideShapes Go.ChangeAt Go.Deep

theorem cellsString : Try.prog.cellsOf 9 = 1 := by kernel_rfl
theorem cellsU8 : Try.prog.cellsOf 5 = 1 := by kernel_rfl
theorem opensStr (w : World) : Opens Try.prog w 9 (fun z : ByteArray => [.string z]) (fun z => z.size ≤ maxLen) := opens_string Try.underlying9
theorem opensU8 (w : World) : Opens Try.prog w 5 (fun z : Int => [.int .u8 z]) (fun z => (Lit.int .u8 z).wf = true) := opens_int Try.underlying5
theorem u8_bounds {z : Int} (h : (Lit.int .u8 z).wf = true) : 0 ≤ z ∧ z ≤ 255 := by
  simpa [Lit.wf, IntKind.min, IntKind.max, IntKind.signed, IntKind.bits] using h
theorem iorder_law (l : List ByteArray) (os : List Int) (v u : Value) (w : World) (hs : Sl w 1 v (Strs l)) (hu : Sl w 1 u (Bytes8 os)) (hb : ∀ z ∈ os, 0 ≤ z ∧ z ≤ 255) : Calls Try.prog 3 #[v, u] w (Ret (.bool true) w) := by
  obtain ⟨B, d, rfl, k1, k2, k3⟩ := sl_b8 hu
  obtain ⟨A, c, hv, h1, h2, h3⟩ := sl_str hs
  by_cases hgt : 30 < l.length
  · obtain ⟨b, o, rfl, hbl, hcell⟩ := h3 (by omega)
    subst hv
    have hL : (l.take 30).length = 30 := by simp; omega
    exact iorder_walk_long w b o l.length c (l.take 30) B d os hgt hL h1 h2 (fun _ => ⟨b, o, rfl, hbl, fun k h => by rw [List.getElem_take]; exact hcell k (by omega)⟩) k1 k2 k3 hb
  · subst hv
    exact iorder_walk w A c l B d os (by omega) h1 h2 h3 k1 k2 k3 hb

set_option maxRecDepth 100000 in
theorem indexOrder_lifted (os : Os) (started : os.Started) (H : Type) (enc : TypeId × Value → H) :
    ReturnsInHanded {} Try.checked os 3 .any (Rows.indexOrderSpec.pre6 enc Try.prog Try.f3 Rows.indexOrderRow.domain false) (Rows.indexOrderSpec.post enc Try.prog Try.f3 false true false false) := by
  refine returnsInHanded_of_change (C := Try.checked) own started (by kernel_rfl) Try.func3
    (ChangeSpec.witness6 (enc := enc) (C := Try.checked) false ⟨#[], #[.slice none 0 0, .slice none 0 0], []⟩ 8 (by kernel_rfl) (by kernel_rfl) (by kernel_rfl) (by kernel_rfl)) ?_
  intro W base args ds gs before hval0 hW hcnd _
  have hval : ∀ (j : Nat) t v, Try.f3.params[j]? = some t → args[j]? = some v → Value.okWide Try.prog W .any base t v := hval0
  have hW' := hW
  obtain ⟨p, q, hA0, hV, _, _, _⟩ := hW
  have hA : DataW.TrodAll enc Try.prog W 0 (fun _ => true) true Try.f3.params.toList args.toList ds p := hA0
  obtain ⟨rfl, rfl⟩ := trodVars_none hV
  rw [Try.params3] at hA hval
  obtain ⟨v0, v1, d0, d1, p0, p1, hargs, rfl, _, h0, h1⟩ := trodAll_two hA
  obtain rfl : args = #[v0, v1] := by cases args; simp_all
  obtain ⟨l, hs, hl⟩ := open_sl Try.underlying22 (opensStr W) cellsString (by decide) (fun _ => rfl) (hval 0 22 v0 rfl rfl) h0
  obtain ⟨os, hu, hb⟩ := open_sl Try.underlying23 (opensU8 W) cellsU8 (by decide) (fun _ => rfl) (hval 1 23 v1 rfl rfl) h1
  refine (iorder_law l os v0 v1 W hs hu (fun z hz => u8_bounds (hb z hz))).mono fun e W' ⟨he, hx⟩ => ?_
  exact ⟨_, he, law_post rfl rfl rfl underlyingBool laidOut (by kernel_rfl) hW' hx⟩
theorem indexOrder_holds : Rows.IndexOrderSaid :=
  OpenClaim.holds_of_wide 3 Try.f3 rfl rfl rfl rfl rfl rfl rfl ⟨rfl, rfl, rfl, rfl, rfl⟩ rfl rfl rfl rfl rfl (by kernel_rfl) Try.func3 (by kernel_rfl)
    (of_decide_eq_true (by kernel_rfl)) (by unfold Func.isWrapper; first | (rw [if_pos (by decide +kernel)]; kernel_rfl) | (rw [if_neg (by decide +kernel)]; exact ⟨rfl, rfl⟩))
    (fun os started H enc _ => indexOrder_lifted os started H enc)
#print axioms indexOrder_holds
end Go.Proofs.Ytfoafookodldfaa
