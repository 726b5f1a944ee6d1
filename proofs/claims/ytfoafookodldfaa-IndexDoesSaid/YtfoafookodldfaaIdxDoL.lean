/-
  The law IndexDoes answers true, whatever names and calls come in.
-/
import Derived.Test.YtfoafookodldfaaIdxT
import Derived.Test.YtfoafookodldfaaIdxDo
namespace Go.Proofs.Ytfoafookodldfaa
set_option linter.unusedSimpArgs false
set_option linter.unusedVariables false
open Go.RowKit Go.ChangeShapes Go.WideShapes Go.ChangeAt Go.Deep

theorem cellsInt : Try.prog.cellsOf 3 = 1 := by kernel_rfl
theorem cellsAct : Try.prog.cellsOf 36 = 3 := by kernel_rfl
theorem opensInt (w : World) : Opens Try.prog w 3 (fun z : Int => [.int .i64 z]) okI := opens_int Try.underlying3
theorem opensAct (w : World) : Opens Try.prog w 36 (fun a : ActI => [.int .i64 a.kind, .int .i64 a.n, .string a.s]) (fun _ => True) := by
  intro H enc fuel cs x h
  obtain ⟨xs, n, _, _, hlen, hxs, hf⟩ := DataW.trod_struct Try.underlying36 h
  rw [cellsAct] at hlen
  match cs, hlen with
  | [c0, c1, c2], _ =>
    obtain ⟨a, ha, oa⟩ := field_at hxs hf (i := 0) rfl cellsInt (opensInt w)
    obtain ⟨b, hb, ob⟩ := field_at hxs hf (i := 1) rfl cellsInt (opensInt w)
    obtain ⟨c, hc, oc⟩ := field_at hxs hf (i := 2) rfl cellsString (opensStr w)
    simp at ha hb hc
    subst ha hb hc
    exact ⟨⟨a, b, c⟩, rfl, trivial⟩
theorem idoes_law (l : List ByteArray) (os : List ActI) (v u : Value) (w : World) (hs : Sl w 1 v (Strs l)) (hu : Sl w 3 u (Acts os)) : Calls Try.prog 4 #[v, u] w (Ret (.bool true) w) := by
  obtain ⟨B, d, rfl, k1, k2, k3⟩ := sl_act hu
  obtain ⟨A, c, hv, h1, h2, h3⟩ := sl_str hs
  by_cases hgt : 30 < l.length
  · obtain ⟨b, o, rfl, hbl, hcell⟩ := h3 (by omega)
    subst hv
    have hL : (l.take 30).length = 30 := by simp; omega
    have hs1 := sl_take (m := 30) hs (by omega)
    have hs2 : Sl w 1 (.slice (some ⟨b, o, none⟩) (l.take 30).length c) (Strs (l.take 30)) := by rw [hL]; simpa [Strs, List.map_take] using hs1
    exact idoes_walk_long w b o l.length c (l.take 30) B d os hgt hL h1 h2 hs2 (fun _ => ⟨b, o, rfl, hbl, fun k h => by rw [List.getElem_take]; exact hcell k (by omega)⟩) k1 k2 k3
  · subst hv
    exact idoes_walk w A c l B d os (by omega) h1 h2 hs h3 k1 k2 k3

set_option maxRecDepth 100000 in
theorem indexDoes_lifted (os : Os) (started : os.Started) (H : Type) (enc : TypeId × Value → H) :
    ReturnsInHanded {} Try.checked os 4 .any (Rows.indexDoesSpec.pre6 enc Try.prog Try.f4 Rows.indexDoesRow.domain false) (Rows.indexDoesSpec.post enc Try.prog Try.f4 false true false false) := by
  refine returnsInHanded_of_change (C := Try.checked) own started (by kernel_rfl) Try.func4
    (ChangeSpec.witness6 (enc := enc) (C := Try.checked) false ⟨#[], #[.slice none 0 0, .slice none 0 0], []⟩ 8 (by kernel_rfl) (by kernel_rfl) (by kernel_rfl) (by kernel_rfl)) ?_
  intro W base args ds gs before hval0 hW hcnd _
  have hval : ∀ (j : Nat) t v, Try.f4.params[j]? = some t → args[j]? = some v → Value.okWide Try.prog W .any base t v := hval0
  have hW' := hW
  obtain ⟨p, q, hA0, hV, _, _, _⟩ := hW
  have hA : DataW.TrodAll enc Try.prog W 0 (fun _ => true) true Try.f4.params.toList args.toList ds p := hA0
  obtain ⟨rfl, rfl⟩ := trodVars_none hV
  rw [Try.params4] at hA hval
  obtain ⟨v0, v1, d0, d1, p0, p1, hargs, rfl, _, h0, h1⟩ := trodAll_two hA
  obtain rfl : args = #[v0, v1] := by cases args; simp_all
  obtain ⟨l, hs, hl⟩ := open_sl Try.underlying22 (opensStr W) cellsString (by decide) (fun _ => rfl) (hval 0 22 v0 rfl rfl) h0
  obtain ⟨os, hu, hb⟩ := open_sl Try.underlying32 (opensAct W) cellsAct (by decide) (fun _ => rfl) (hval 1 32 v1 rfl rfl) h1
  refine (idoes_law l os v0 v1 W hs hu).mono fun e W' ⟨he, hx⟩ => ?_
  exact ⟨_, he, law_post rfl rfl rfl underlyingBool laidOut (by kernel_rfl) hW' hx⟩
theorem indexDoes_holds : Rows.IndexDoesSaid :=
  OpenClaim.holds_of_wide 4 Try.f4 rfl rfl rfl rfl rfl rfl rfl ⟨rfl, rfl, rfl, rfl, rfl⟩ rfl rfl rfl rfl rfl (by kernel_rfl) Try.func4 (by kernel_rfl)
    (of_decide_eq_true (by kernel_rfl)) (by unfold Func.isWrapper; first | (rw [if_pos (by decide +kernel)]; kernel_rfl) | (rw [if_neg (by decide +kernel)]; exact ⟨rfl, rfl⟩))
    (fun os started H enc _ => indexDoes_lifted os started H enc)
#print axioms indexDoes_holds
end Go.Proofs.Ytfoafookodldfaa
