/-
  The four laws of layer 40 answer true, whatever comes in.
-/
import Derived.Test.YtgkdiknmjgpgmaaIsO
import Derived.Test.YtgkdiknmjgpgmaaPlL
import Derived.OpenShut
namespace Go.Proofs.Ytgkdiknmjgpgmaa
set_option linter.unusedSimpArgs false
set_option linter.unusedVariables false
open Go.RowKit Go.ChangeShapes Go.WideShapes Go.ChangeAt Go.Deep

theorem cellsStr : Try.prog.cellsOf 9 = 1 := by kernel_rfl
theorem cellsBool : Try.prog.cellsOf 4 = 1 := by kernel_rfl
theorem cellsStamp : Try.prog.cellsOf 28 = 3 := by kernel_rfl
theorem cellsUpd : Try.prog.cellsOf 30 = 8 := by kernel_rfl
theorem cellsLeaf : Try.prog.cellsOf 35 = 5 := by kernel_rfl
theorem okV_of {v : Ver} (h : okI v.by_ ∧ okI v.n) : okV v := ⟨h.1.bounds.2, h.2.bounds.2⟩
set_option maxRecDepth 100000 in
theorem opens_stamp (w : World) : Opens Try.prog w 28 Stamp.cells (fun v => okI v.v.by_ ∧ okI v.v.n ∧ okI v.time) := by
  intro H enc fuel cs x h
  obtain ⟨xs, n, _, _, hlen, hxs, hf⟩ := DataW.trod_struct Try.underlying28 h
  rw [cellsStamp] at hlen
  match cs, hlen with
  | [c0, c1, c2], _ =>
    obtain ⟨a, ha, oa⟩ := field_at hxs hf (i := 0) rfl cellsVer (opens_ver w)
    obtain ⟨b, hb, ob⟩ := field_at hxs hf (i := 1) rfl cellsInt (opens_i64 w)
    simp [Ver.cells] at ha hb
    obtain ⟨ha1, ha2⟩ := ha
    subst ha1 ha2 hb
    exact ⟨⟨a, b⟩, rfl, oa.1, oa.2, ob⟩
set_option maxRecDepth 100000 in
theorem opens_upd (w : World) : Opens Try.prog w 30 UpdI.cells (fun m => okV m.item) := by
  intro H enc fuel cs x h
  obtain ⟨xs, n, _, _, hlen, hxs, hf⟩ := DataW.trod_struct Try.underlying30 h
  rw [cellsUpd] at hlen
  match cs, hlen with
  | [c0, c1, c2, c3, c4, c5, c6, c7], _ =>
    obtain ⟨a, ha, oa⟩ := field_at hxs hf (i := 0) rfl cellsVer (opens_ver w)
    obtain ⟨b, hb, ob⟩ := field_at hxs hf (i := 1) rfl cellsStamp (opens_stamp w)
    obtain ⟨c, hc, oc⟩ := field_at hxs hf (i := 2) rfl cellsStr (opens_string Try.underlying9)
    obtain ⟨d, hd, od⟩ := field_at hxs hf (i := 3) rfl cellsStr (opens_string Try.underlying9)
    obtain ⟨e, he, oe⟩ := field_at hxs hf (i := 4) rfl cellsBool (opens_bool Try.underlying4)
    simp [Ver.cells, Stamp.cells] at ha hb hc hd he
    obtain ⟨ha1, ha2⟩ := ha
    obtain ⟨hb1, hb2, hb3⟩ := hb
    subst ha1 ha2 hb1 hb2 hb3 hc hd he
    exact ⟨⟨a, b, c, d, e⟩, rfl, okV_of oa⟩
set_option maxRecDepth 100000 in
theorem opens_leaf (w : World) : Opens Try.prog w 35 LeafI.cells (fun _ => True) := by
  intro H enc fuel cs x h
  obtain ⟨xs, n, _, _, hlen, hxs, hf⟩ := DataW.trod_struct Try.underlying35 h
  rw [cellsLeaf] at hlen
  match cs, hlen with
  | [c0, c1, c2, c3, c4], _ =>
    obtain ⟨a, ha, oa⟩ := field_at hxs hf (i := 0) rfl cellsStr (opens_string Try.underlying9)
    obtain ⟨b, hb, ob⟩ := field_at hxs hf (i := 1) rfl cellsStr (opens_string Try.underlying9)
    obtain ⟨c, hc, oc⟩ := field_at hxs hf (i := 2) rfl cellsVer (opens_ver w)
    obtain ⟨d, hd, od⟩ := field_at hxs hf (i := 3) rfl cellsStr (opens_string Try.underlying9)
    simp [Ver.cells] at ha hb hc hd
    obtain ⟨hc1, hc2⟩ := hc
    subst ha hb hc1 hc2 hd
    exact ⟨⟨a, b, c, d⟩, rfl, trivial⟩

set_option maxRecDepth 100000 in
theorem diffPlays_lifted (os : Os) (started : os.Started) (H : Type) (enc : TypeId × Value → H) :
    ReturnsInHanded {} Try.checked os 6 .any (Rows.diffPlaysSpec.pre6 enc Try.prog Try.f6 Rows.diffPlaysRow.domain false) (Rows.diffPlaysSpec.post enc Try.prog Try.f6 false true false false) := by
  refine returnsInHanded_of_change (C := Try.checked) own started (by kernel_rfl) Try.func6
    (ChangeSpec.witness6 (enc := enc) (C := Try.checked) false ⟨#[], #[.slice none 0 0, .slice none 0 0], []⟩ 8 (by kernel_rfl) (by kernel_rfl) (by kernel_rfl) (by kernel_rfl)) ?_
  intro W base args ds gs before hval0 hW hcnd _
  have hval : ∀ (j : Nat) t v, Try.f6.params[j]? = some t → args[j]? = some v → Value.okWide Try.prog W .any base t v := hval0
  have hW' := hW
  obtain ⟨p, q, hA0, hV, _, _, _⟩ := hW
  have hA : DataW.TrodAll enc Try.prog W 0 (fun _ => true) true Try.f6.params.toList args.toList ds p := hA0
  obtain ⟨rfl, rfl⟩ := trodVars_none hV
  rw [Try.params6] at hA hval
  obtain ⟨v0, v1, d0, d1, p0, p1, hargs, rfl, _, h0, h1⟩ := trodAll_two hA
  obtain rfl : args = #[v0, v1] := by cases args; simp_all
  obtain ⟨l, hs, hl⟩ := open_sl Try.underlying22 (opens_upd W) cellsUpd (by decide) (fun _ => rfl) (hval 0 22 v0 rfl rfl) h0
  obtain ⟨r, hr, hm⟩ := open_sl Try.underlying22 (opens_upd W) cellsUpd (by decide) (fun _ => rfl) (hval 1 22 v1 rfl rfl) h1
  refine (diffPlays_walk W v0 v1 l r hs hr hl hm).mono fun e W' ⟨he, hx⟩ => ?_
  exact ⟨_, he, law_post rfl rfl rfl underlyingBool laidOut (by kernel_rfl) hW' hx⟩
theorem diffPlays_holds : Rows.DiffPlaysSaid :=
  OpenClaim.holds_of_wide 6 Try.f6 rfl rfl rfl rfl rfl rfl rfl ⟨rfl, rfl, rfl, rfl, rfl⟩ rfl rfl rfl rfl rfl (by kernel_rfl) Try.func6 (by kernel_rfl)
    (of_decide_eq_true (by kernel_rfl)) (by unfold Func.isWrapper; first | (rw [if_pos (by decide +kernel)]; kernel_rfl) | (rw [if_neg (by decide +kernel)]; exact ⟨rfl, rfl⟩))
    (fun os started H enc _ => diffPlays_lifted os started H enc)
#print axioms diffPlays_holds
set_option maxRecDepth 100000 in
theorem diffTurns_lifted (os : Os) (started : os.Started) (H : Type) (enc : TypeId × Value → H) :
    ReturnsInHanded {} Try.checked os 9 .any (Rows.diffTurnsSpec.pre6 enc Try.prog Try.f9 Rows.diffTurnsRow.domain false) (Rows.diffTurnsSpec.post enc Try.prog Try.f9 false true false false) := by
  refine returnsInHanded_of_change (C := Try.checked) own started (by kernel_rfl) Try.func9
    (ChangeSpec.witness6 (enc := enc) (C := Try.checked) false ⟨#[], #[.slice none 0 0, .slice none 0 0], []⟩ 8 (by kernel_rfl) (by kernel_rfl) (by kernel_rfl) (by kernel_rfl)) ?_
  intro W base args ds gs before hval0 hW hcnd _
  have hval : ∀ (j : Nat) t v, Try.f9.params[j]? = some t → args[j]? = some v → Value.okWide Try.prog W .any base t v := hval0
  have hW' := hW
  obtain ⟨p, q, hA0, hV, _, _, _⟩ := hW
  have hA : DataW.TrodAll enc Try.prog W 0 (fun _ => true) true Try.f9.params.toList args.toList ds p := hA0
  obtain ⟨rfl, rfl⟩ := trodVars_none hV
  rw [Try.params9] at hA hval
  obtain ⟨v0, v1, d0, d1, p0, p1, hargs, rfl, _, h0, h1⟩ := trodAll_two hA
  obtain rfl : args = #[v0, v1] := by cases args; simp_all
  obtain ⟨l, hs, hl⟩ := open_sl Try.underlying22 (opens_upd W) cellsUpd (by decide) (fun _ => rfl) (hval 0 22 v0 rfl rfl) h0
  obtain ⟨r, hr, hm⟩ := open_sl Try.underlying22 (opens_upd W) cellsUpd (by decide) (fun _ => rfl) (hval 1 22 v1 rfl rfl) h1
  refine (diffTurns_walk W v0 v1 l r hs hr hl hm).mono fun e W' ⟨he, hx⟩ => ?_
  exact ⟨_, he, law_post rfl rfl rfl underlyingBool laidOut (by kernel_rfl) hW' hx⟩
theorem diffTurns_holds : Rows.DiffTurnsSaid :=
  OpenClaim.holds_of_wide 9 Try.f9 rfl rfl rfl rfl rfl rfl rfl ⟨rfl, rfl, rfl, rfl, rfl⟩ rfl rfl rfl rfl rfl (by kernel_rfl) Try.func9 (by kernel_rfl)
    (of_decide_eq_true (by kernel_rfl)) (by unfold Func.isWrapper; first | (rw [if_pos (by decide +kernel)]; kernel_rfl) | (rw [if_neg (by decide +kernel)]; exact ⟨rfl, rfl⟩))
    (fun os started H enc _ => diffTurns_lifted os started H enc)
#print axioms diffTurns_holds
set_option maxRecDepth 100000 in
theorem diffLess_lifted (os : Os) (started : os.Started) (H : Type) (enc : TypeId × Value → H) :
    ReturnsInHanded {} Try.checked os 8 .any (Rows.diffLessSpec.pre6 enc Try.prog Try.f8 Rows.diffLessRow.domain false) (Rows.diffLessSpec.post enc Try.prog Try.f8 false true false false) := by
  refine returnsInHanded_of_change (C := Try.checked) own started (by kernel_rfl) Try.func8
    (ChangeSpec.witness6 (enc := enc) (C := Try.checked) false ⟨#[], #[.slice none 0 0, .slice none 0 0], []⟩ 8 (by kernel_rfl) (by kernel_rfl) (by kernel_rfl) (by kernel_rfl)) ?_
  intro W base args ds gs before hval0 hW hcnd _
  have hval : ∀ (j : Nat) t v, Try.f8.params[j]? = some t → args[j]? = some v → Value.okWide Try.prog W .any base t v := hval0
  have hW' := hW
  obtain ⟨p, q, hA0, hV, _, _, _⟩ := hW
  have hA : DataW.TrodAll enc Try.prog W 0 (fun _ => true) true Try.f8.params.toList args.toList ds p := hA0
  obtain ⟨rfl, rfl⟩ := trodVars_none hV
  rw [Try.params8] at hA hval
  obtain ⟨v0, v1, d0, d1, p0, p1, hargs, rfl, _, h0, h1⟩ := trodAll_two hA
  obtain rfl : args = #[v0, v1] := by cases args; simp_all
  obtain ⟨l, hs, hl⟩ := open_sl Try.underlying22 (opens_upd W) cellsUpd (by decide) (fun _ => rfl) (hval 0 22 v0 rfl rfl) h0
  obtain ⟨r, hr, hm⟩ := open_sl Try.underlying22 (opens_upd W) cellsUpd (by decide) (fun _ => rfl) (hval 1 22 v1 rfl rfl) h1
  refine (diffLess_walk W v0 v1 l r hs hr hl hm).mono fun e W' ⟨he, hx⟩ => ?_
  exact ⟨_, he, law_post rfl rfl rfl underlyingBool laidOut (by kernel_rfl) hW' hx⟩
theorem diffLess_holds : Rows.DiffLessSaid :=
  OpenClaim.holds_of_wide 8 Try.f8 rfl rfl rfl rfl rfl rfl rfl ⟨rfl, rfl, rfl, rfl, rfl⟩ rfl rfl rfl rfl rfl (by kernel_rfl) Try.func8 (by kernel_rfl)
    (of_decide_eq_true (by kernel_rfl)) (by unfold Func.isWrapper; first | (rw [if_pos (by decide +kernel)]; kernel_rfl) | (rw [if_neg (by decide +kernel)]; exact ⟨rfl, rfl⟩))
    (fun os started H enc _ => diffLess_lifted os started H enc)
#print axioms diffLess_holds
set_option maxRecDepth 100000 in
theorem diffRight_lifted (os : Os) (started : os.Started) (H : Type) (enc : TypeId × Value → H) :
    ReturnsInHanded {} Try.checked os 7 .any (Rows.diffRightSpec.pre6 enc Try.prog Try.f7 Rows.diffRightRow.domain false) (Rows.diffRightSpec.post enc Try.prog Try.f7 false true false false) := by
  refine returnsInHanded_of_change (C := Try.checked) own started (by kernel_rfl) Try.func7
    (ChangeSpec.witness6 (enc := enc) (C := Try.checked) false ⟨#[], #[.slice none 0 0, .slice none 0 0], []⟩ 8 (by kernel_rfl) (by kernel_rfl) (by kernel_rfl) (by kernel_rfl)) ?_
  intro W base args ds gs before hval0 hW hcnd _
  have hval : ∀ (j : Nat) t v, Try.f7.params[j]? = some t → args[j]? = some v → Value.okWide Try.prog W .any base t v := hval0
  have hW' := hW
  obtain ⟨p, q, hA0, hV, _, _, _⟩ := hW
  have hA : DataW.TrodAll enc Try.prog W 0 (fun _ => true) true Try.f7.params.toList args.toList ds p := hA0
  obtain ⟨rfl, rfl⟩ := trodVars_none hV
  rw [Try.params7] at hA hval
  obtain ⟨v0, v1, d0, d1, p0, p1, hargs, rfl, _, h0, h1⟩ := trodAll_two hA
  obtain rfl : args = #[v0, v1] := by cases args; simp_all
  obtain ⟨l, hs, hl⟩ := open_sl Try.underlying31 (opens_leaf W) cellsLeaf (by decide) (fun _ => rfl) (hval 0 31 v0 rfl rfl) h0
  obtain ⟨r, hr, hm⟩ := open_sl Try.underlying22 (opens_upd W) cellsUpd (by decide) (fun _ => rfl) (hval 1 22 v1 rfl rfl) h1
  refine (diffRight_walk W v0 v1 l r hs hr hm).mono fun e W' ⟨he, hx⟩ => ?_
  exact ⟨_, he, law_post rfl rfl rfl underlyingBool laidOut (by kernel_rfl) hW' hx⟩
theorem diffRight_holds : Rows.DiffRightSaid :=
  OpenClaim.holds_of_wide 7 Try.f7 rfl rfl rfl rfl rfl rfl rfl ⟨rfl, rfl, rfl, rfl, rfl⟩ rfl rfl rfl rfl rfl (by kernel_rfl) Try.func7 (by kernel_rfl)
    (of_decide_eq_true (by kernel_rfl)) (by unfold Func.isWrapper; first | (rw [if_pos (by decide +kernel)]; kernel_rfl) | (rw [if_neg (by decide +kernel)]; exact ⟨rfl, rfl⟩))
    (fun os started H enc _ => diffRight_lifted os started H enc)
#print axioms diffRight_holds
end Go.Proofs.Ytgkdiknmjgpgmaa
