/-
  What clauses that come in read as (out of OpZ).
-/
import Derived.Test.YtggbkjmedoooaaaGreatDoorCdZ
import Derived.Test.YtggbkjmedoooaaaGreatDoorFmA
namespace Go.Proofs.YtggbkjmedoooaaaGreatDoor
set_option linter.unusedSimpArgs false
set_option linter.unusedVariables false
open Go.RowKit Go.ChangeShapes Go.WideShapes Go.ChangeAt Go.Deep

theorem cellsStr : Tryz.prog.cellsOf 9 = 1 := by kernel_rfl
theorem cellsBool : Tryz.prog.cellsOf 4 = 1 := by kernel_rfl
theorem cellsRng : Tryz.prog.cellsOf 40 = 2 := by kernel_rfl
theorem cellsClause : Tryz.prog.cellsOf 42 = 3 := by kernel_rfl
set_option maxRecDepth 100000 in
theorem opens_rng (w : World) : Opens Tryz.prog w 40 Rng.cells (fun _ => True) := by
  intro H enc fuel cs x h
  obtain ⟨xs, n, _, _, hlen, hxs, hf⟩ := DataW.trod_struct Tryz.underlying40 h
  rw [cellsRng] at hlen
  match cs, hlen with
  | [c0, c1], _ =>
    obtain ⟨a, ha, oa⟩ := field_at hxs hf (i := 0) rfl cellsInt (opens_i64 w)
    obtain ⟨b, hb, ob⟩ := field_at hxs hf (i := 1) rfl cellsInt (opens_i64 w)
    simp at ha hb
    subst ha hb
    exact ⟨⟨a, b⟩, rfl, trivial⟩
set_option maxRecDepth 100000 in
theorem opens_clause (w : World) : Opens Tryz.prog w 42 ClauseI.cells (fun _ => True) := by
  intro H enc fuel cs x h
  obtain ⟨xs, n, _, _, hlen, hxs, hf⟩ := DataW.trod_struct Tryz.underlying42 h
  rw [cellsClause] at hlen
  match cs, hlen with
  | [c0, c1, c2], _ =>
    obtain ⟨a, ha, oa⟩ := field_at hxs hf (i := 0) rfl cellsStr (opens_string Tryz.underlying9)
    obtain ⟨b, hb, ob⟩ := field_at hxs hf (i := 1) rfl cellsRng (opens_rng w)
    simp [Rng.cells] at ha hb
    obtain ⟨hb1, hb2⟩ := hb
    subst ha hb1 hb2
    exact ⟨⟨a, b.lo, b.hi⟩, rfl, trivial⟩
def FileI.cells (x : FileI) : List Value := [.string x.p, .int .i64 x.size, .bool x.dead]
end Go.Proofs.YtggbkjmedoooaaaGreatDoor
