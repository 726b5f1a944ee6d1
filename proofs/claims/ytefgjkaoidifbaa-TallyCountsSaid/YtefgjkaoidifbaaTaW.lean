/-
  The law TallyCounts answers true, whatever acts and replies come in.
-/
import Derived.Test.YtefgjkaoidifbaaIsO
import Derived.Test.YtefgjkaoidifbaaTaU
import Derived.Laws.IdiomArrays
import Derived.OpenShut
namespace Go.Proofs.Ytefgjkaoidifbaa
set_option linter.unusedSimpArgs false
set_option linter.unusedVariables false
open Go.RowKit Go.ChangeShapes Go.WideShapes Go.ChangeAt Go.Deep

theorem cellsAct : Try.prog.cellsOf 72 = 8 := by kernel_rfl
theorem cellsRep : Try.prog.cellsOf 77 = 9 := by kernel_rfl
theorem cellsStr : Try.prog.cellsOf 9 = 1 := by kernel_rfl
theorem cellsErr : Try.prog.cellsOf 73 = 1 := by kernel_rfl
theorem cellsInts : Try.prog.cellsOf 70 = 1 := by kernel_rfl
theorem cellsLvs : Try.prog.cellsOf 75 = 1 := by kernel_rfl
theorem cellsFour : Try.prog.cellsOf 74 = 4 := by kernel_rfl
theorem u8_bd {n : Int} (h : (Lit.int .u8 n).wf = true) : 0 ≤ n ∧ n ≤ 255 := by
  simp [Lit.wf, IntKind.min, IntKind.max, IntKind.signed, IntKind.bits] at h
  omega
structure SlI where
  a : Option Addr
  l : Nat
  c : Nat
/-- Whatever slice. -/
theorem opens_any {P : Program} {w : World} {t e : TypeId} (ht : P.underlying t = some (.slice e)) : Opens P w t (fun s : SlI => [.slice s.a s.l s.c]) (fun _ => True) := by
  intro H enc fuel cs x h
  rcases open_slice ht h with ⟨hcs, _⟩ | ⟨a, len, cap, m, n, D, Pl, hcs, _⟩
  · exact ⟨⟨_, _, _⟩, hcs, trivial⟩
  · exact ⟨⟨_, _, _⟩, hcs, trivial⟩
structure FourI where
  n0 : Int
  n1 : Int
  n2 : Int
  n3 : Int
set_option maxRecDepth 100000 in
theorem opens_four (w : World) : Opens Try.prog w 74 (fun s : FourI => [.int .i64 s.n0, .int .i64 s.n1, .int .i64 s.n2, .int .i64 s.n3]) (fun _ => True) := by
  intro H enc fuel cs x h
  obtain ⟨_, _, _, _, hlen, _⟩ := DataW.trod_array Try.underlying74 h
  rw [cellsFour] at hlen
  match cs, hlen with
  | [c0, c1, c2, c3], _ =>
    obtain ⟨y0, y1, y2, y3, n, _, h0, h1, h2, h3⟩ := trod_array4 Try.underlying74 cellsInt h
    obtain ⟨a, ha, _⟩ := opens_i64 w H enc _ _ _ h0
    obtain ⟨b, hb, _⟩ := opens_i64 w H enc _ _ _ h1
    obtain ⟨c, hc, _⟩ := opens_i64 w H enc _ _ _ h2
    obtain ⟨d, hd, _⟩ := opens_i64 w H enc _ _ _ h3
    simp at ha hb hc hd
    subst ha hb hc hd
    exact ⟨⟨a, b, c, d⟩, rfl, trivial⟩
set_option maxRecDepth 100000 in
theorem opens_act (w : World) : Opens Try.prog w 72 ActI.cells (fun m => okI m.kind) := by
  intro H enc fuel cs x h
  obtain ⟨xs, n, _, _, hlen, hxs, hf⟩ := DataW.trod_struct Try.underlying72 h
  rw [cellsAct] at hlen
  match cs, hlen with
  | [c0, c1, c2, c3, c4, c5, c6, c7], _ =>
    obtain ⟨a, ha, oa⟩ := field_at hxs hf (i := 0) rfl cellsInt (opens_i64 w)
    obtain ⟨b, hb, ob⟩ := field_at hxs hf (i := 1) rfl cellsInt (opens_i64 w)
    obtain ⟨c, hc, oc⟩ := field_at hxs hf (i := 2) rfl cellsInt (opens_i64 w)
    obtain ⟨d, hd, od⟩ := field_at hxs hf (i := 3) rfl cellsStr (opens_string Try.underlying9)
    obtain ⟨e, he, oe⟩ := field_at hxs hf (i := 4) rfl cellsStr (opens_string Try.underlying9)
    obtain ⟨f, hff, of⟩ := field_at hxs hf (i := 5) rfl cellsVer (opens_ver w)
    obtain ⟨g, hg, og⟩ := field_at hxs hf (i := 6) rfl cellsInts (opens_any Try.underlying70)
    simp [Ver.cells] at ha hb hc hd he hff hg
    obtain ⟨hf1, hf2⟩ := hff
    subst ha hb hc hd he hf1 hf2 hg
    exact ⟨⟨a, b, c, d, e, f.by_, f.n, g.a, g.l, g.c⟩, rfl, oa⟩
set_option maxRecDepth 100000 in
theorem opens_rep (w : World) : Opens Try.prog w 77 RepI.cells (fun _ => True) := by
  intro H enc fuel cs x h
  obtain ⟨xs, n, _, _, hlen, hxs, hf⟩ := DataW.trod_struct Try.underlying77 h
  rw [cellsRep] at hlen
  match cs, hlen with
  | [c0, c1, c2, c3, c4, c5, c6, c7, c8], _ =>
    obtain ⟨a, ha, oa⟩ := field_at hxs hf (i := 0) rfl cellsErr (opens_int Try.underlying73)
    obtain ⟨b, hb, ob⟩ := field_at hxs hf (i := 1) rfl cellsStr (opens_string Try.underlying9)
    obtain ⟨c, hc, oc⟩ := field_at hxs hf (i := 2) rfl cellsVer (opens_ver w)
    obtain ⟨d, hd, od⟩ := field_at hxs hf (i := 3) rfl cellsFour (opens_four w)
    obtain ⟨e, he, oe⟩ := field_at hxs hf (i := 4) rfl cellsLvs (opens_any Try.underlying75)
    simp [Ver.cells] at ha hb hc hd he
    obtain ⟨hc1, hc2⟩ := hc
    obtain ⟨hd1, hd2, hd3, hd4⟩ := hd
    subst ha hb hc1 hc2 hd1 hd2 hd3 hd4 he
    exact ⟨⟨a, b, c.by_, c.n, d.n0, d.n1, d.n2, d.n3, e.a, e.l, e.c⟩, rfl, trivial⟩

set_option maxRecDepth 100000 in
theorem tallyCounts_lifted (os : Os) (started : os.Started) (H : Type) (enc : TypeId × Value → H) :
    ReturnsInHanded {} Try.checked os 8 .any (Rows.tallyCountsSpec.pre6 enc Try.prog Try.f8 Rows.tallyCountsRow.domain false) (Rows.tallyCountsSpec.post enc Try.prog Try.f8 false true false false) := by
  refine returnsInHanded_of_change (C := Try.checked) own started (by kernel_rfl) Try.func8
    (ChangeSpec.witness6 (enc := enc) (C := Try.checked) false ⟨#[], #[.slice none 0 0, .slice none 0 0, .int .u8 0], []⟩ 8 (by kernel_rfl) (by kernel_rfl) (by kernel_rfl) (by kernel_rfl)) ?_
  intro W base args ds gs before hval0 hW hcnd _
  have hval : ∀ (j : Nat) t v, Try.f8.params[j]? = some t → args[j]? = some v → Value.okWide Try.prog W .any base t v := hval0
  have hW' := hW
  obtain ⟨p, q, hA0, hV, _, _, _⟩ := hW
  have hA : DataW.TrodAll enc Try.prog W 0 (fun _ => true) true Try.f8.params.toList args.toList ds p := hA0
  obtain ⟨rfl, rfl⟩ := trodVars_none hV
  rw [Try.params8] at hA hval
  obtain ⟨v0, v1, v2, d0, d1, d2, p0, p1, p2, hargs, rfl, _, h0, h1, h2⟩ := trodAll_three hA
  obtain rfl : args = #[v0, v1, v2] := by cases args; simp_all
  obtain ⟨l, hs, hl⟩ := open_sl Try.underlying51 (opens_act W) cellsAct (by decide) (fun _ => rfl) (hval 0 51 v0 rfl rfl) h0
  obtain ⟨r, hr, _⟩ := open_sl Try.underlying52 (opens_rep W) cellsRep (by decide) (fun _ => rfl) (hval 1 52 v1 rfl rfl) h1
  obtain ⟨n, rfl, _, _, hw⟩ := open_int Try.underlying5 (hval 2 5 v2 rfl rfl) h2
  refine (counts_any W v0 v1 l r n hs hr hl (u8_bd hw).1 (u8_bd hw).2).mono fun e W' ⟨he, hx⟩ => ?_
  exact ⟨_, he, law_post rfl rfl rfl underlyingBool laidOut (by kernel_rfl) hW' hx⟩
theorem tallyCounts_holds : Rows.TallyCountsSaid :=
  OpenClaim.holds_of_wide 8 Try.f8 rfl rfl rfl rfl rfl rfl rfl ⟨rfl, rfl, rfl, rfl, rfl⟩ rfl rfl rfl rfl rfl (by kernel_rfl) Try.func8 (by kernel_rfl)
    (of_decide_eq_true (by kernel_rfl)) (by unfold Func.isWrapper; first | (rw [if_pos (by decide +kernel)]; kernel_rfl) | (rw [if_neg (by decide +kernel)]; exact ⟨rfl, rfl⟩))
    (fun os started H enc _ => tallyCounts_lifted os started H enc)
#print axioms tallyCounts_holds
end Go.Proofs.Ytefgjkaoidifbaa
