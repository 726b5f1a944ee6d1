/-
  The law IndexLooks answers true, whatever names, text and place come in.
-/
import Derived.Test.YtfoafookodldfaaIdxT
import Derived.Test.YtfoafookodldfaaIdxLo
namespace Go.Proofs.Ytfoafookodldfaa
set_option linter.unusedSimpArgs false
set_option linter.unusedVariables false
open Go.RowKit Go.ChangeShapes Go.WideShapes Go.ChangeAt Go.Deep

theorem ilooks_law (l : List ByteArray) (s : ByteArray) (z : Int) (v : Value) (w : World) (hs : Sl w 1 v (Strs l)) (hls : ∀ t ∈ l, t.size ≤ maxLen) (hss : s.size ≤ maxLen) : Calls Try.prog 5 #[v, .string s, .int .i64 z] w (Ret (.bool true) w) := by
  obtain ⟨A, c, hv, h1, h2, h3⟩ := sl_str hs
  by_cases hgt : 40 < l.length
  · obtain ⟨b, o, rfl, hbl, hcell⟩ := h3 (by omega)
    subst hv
    have hL : (l.take 40).length = 40 := by simp; omega
    have hs1 := sl_take (m := 40) hs (by omega)
    have hs2 : Sl w 1 (.slice (some ⟨b, o, none⟩) (l.take 40).length c) (Strs (l.take 40)) := by rw [hL]; simpa [Strs, List.map_take] using hs1
    exact ilooks_walk_long w b o l.length c (l.take 40) s z hgt hL h1 h2 hs2 (fun t ht => hls t (List.mem_of_mem_take ht)) hss (fun _ => ⟨b, o, rfl, hbl, fun k h => by rw [List.getElem_take]; exact hcell k (by omega)⟩)
  · subst hv
    exact ilooks_walk w A c l s z (by omega) h1 h2 hs hls hss h3

set_option maxRecDepth 100000 in
theorem indexLooks_lifted (os : Os) (started : os.Started) (H : Type) (enc : TypeId × Value → H) :
    ReturnsInHanded {} Try.checked os 5 .any (Rows.indexLooksSpec.pre6 enc Try.prog Try.f5 Rows.indexLooksRow.domain false) (Rows.indexLooksSpec.post enc Try.prog Try.f5 false true false false) := by
  refine returnsInHanded_of_change (C := Try.checked) own started (by kernel_rfl) Try.func5
    (ChangeSpec.witness6 (enc := enc) (C := Try.checked) false ⟨#[], #[.slice none 0 0, .string ⟨#[]⟩, .int .i64 0], []⟩ 8 (by kernel_rfl) (by kernel_rfl) (by kernel_rfl) (by kernel_rfl)) ?_
  intro W base args ds gs before hval0 hW hcnd _
  have hval : ∀ (j : Nat) t v, Try.f5.params[j]? = some t → args[j]? = some v → Value.okWide Try.prog W .any base t v := hval0
  have hW' := hW
  obtain ⟨p, q, hA0, hV, _, _, _⟩ := hW
  have hA : DataW.TrodAll enc Try.prog W 0 (fun _ => true) true Try.f5.params.toList args.toList ds p := hA0
  obtain ⟨rfl, rfl⟩ := trodVars_none hV
  rw [Try.params5] at hA hval
  obtain ⟨v0, v1, v2, d0, d1, d2, p0, p1, p2, hargs, rfl, _, h0, h1, h2⟩ := trodAll_three hA
  obtain rfl : args = #[v0, v1, v2] := by cases args; simp_all
  obtain ⟨l, hs, hl⟩ := open_sl Try.underlying22 (opensStr W) cellsString (by decide) (fun _ => rfl) (hval 0 22 v0 rfl rfl) h0
  obtain ⟨s, rfl, ws⟩ := Go.ChangeMaps.open_string Try.underlying9 (hval 1 9 v1 rfl rfl) h1
  obtain ⟨n, rfl, _⟩ := open_int Try.underlying3 (hval 2 3 v2 rfl rfl) h2
  refine (ilooks_law l s n v0 W hs hl ws.2.2).mono fun e W' ⟨he, hx⟩ => ?_
  exact ⟨_, he, law_post rfl rfl rfl underlyingBool laidOut (by kernel_rfl) hW' hx⟩
theorem indexLooks_holds : Rows.IndexLooksSaid :=
  OpenClaim.holds_of_wide 5 Try.f5 rfl rfl rfl rfl rfl rfl rfl ⟨rfl, rfl, rfl, rfl, rfl⟩ rfl rfl rfl rfl rfl (by kernel_rfl) Try.func5 (by kernel_rfl)
    (of_decide_eq_true (by kernel_rfl)) (by unfold Func.isWrapper; first | (rw [if_pos (by decide +kernel)]; kernel_rfl) | (rw [if_neg (by decide +kernel)]; exact ⟨rfl, rfl⟩))
    (fun os started H enc _ => indexLooks_lifted os started H enc)
#print axioms indexLooks_holds
end Go.Proofs.Ytfoafookodldfaa
