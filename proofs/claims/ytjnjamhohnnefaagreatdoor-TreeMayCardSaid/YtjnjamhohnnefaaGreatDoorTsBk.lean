/-
  What the law TreeMay takes reads as.
-/
import Derived.Test.YtjnjamhohnnefaaGreatDoorTrRk
namespace Go.Proofs.YtjnjamhohnnefaaGreatDoor
set_option linter.unusedSimpArgs false
set_option linter.unusedVariables false
open Go.RowKit Go.ChangeShapes Go.WideShapes Go.ChangeAt Go.Deep

theorem cellsFour : Tryz.prog.cellsOf 34 = 7 := by kernel_rfl
structure FourI where
  t : TreeI
  r : Int
  Av : Option Addr
  cv : Nat
  f : List ClauseI
  x : FileI
def FourI.cells (q : FourI) : List Value := [.slice q.t.A q.t.up.length q.t.c, .slice q.t.AF q.t.Fl.length q.t.cF, .int .i64 q.r, .slice q.Av q.f.length q.cv, .string q.x.p, .int .i64 q.x.size, .bool q.x.dead]
def FourI.ok (w : World) (q : FourI) : Prop := TreeI.ok w q.t ∧ Sl w 3 (.slice q.Av q.f.length q.cv) (q.f.map ClauseI.cells) ∧ q.x.p.size ≤ maxLen
set_option maxRecDepth 100000 in
theorem opens_four (w : World) : Opens Tryz.prog w 34 FourI.cells (FourI.ok w) := by
  intro H enc fuel cs x h
  obtain ⟨xs, n, _, _, hlen, hxs, hf⟩ := DataW.trod_struct Tryz.underlying34 h
  rw [cellsFour] at hlen
  match cs, hlen with
  | [c0, c1, c2, c3, c4, c5, c6], _ =>
    obtain ⟨a, ha, oa⟩ := field_at hxs hf (i := 0) rfl cellsTree (opens_tree w)
    obtain ⟨b, hb, ob⟩ := field_at hxs hf (i := 1) rfl cellsInt (opens_i64 w)
    obtain ⟨c, hc, oc, _⟩ := field_at hxs hf (i := 2) rfl cellsFl (opens_filter w)
    obtain ⟨d, hd, od⟩ := field_at hxs hf (i := 3) rfl cellsFile (opens_file w)
    simp [TreeI.cells, FileI.cells] at ha hb hc hd
    obtain ⟨ha1, ha2⟩ := ha
    obtain ⟨hd1, hd2, hd3⟩ := hd
    subst ha1 ha2 hb hc hd1 hd2 hd3
    obtain ⟨Av, cv, hv, _⟩ := sl_get oc
    rw [hv] at oc
    refine ⟨⟨a, b, Av, cv, c.l, d⟩, ?_, oa, oc, od⟩
    rw [hv]
    rfl
end Go.Proofs.YtjnjamhohnnefaaGreatDoor
