/-
  What clauses and files that come in read as.
-/
import Derived.Test.YtgkdiknmjgpgmaaDoorCdA
import Derived.Test.YtgkdiknmjgpgmaaDoorFmA
namespace Go.Proofs.YtgkdiknmjgpgmaaDoor
set_option linter.unusedSimpArgs false
set_option linter.unusedVariables false
open Go.RowKit Go.ChangeShapes Go.WideShapes Go.ChangeAt Go.Deep

theorem cellsStr : Tryd.prog.cellsOf 9 = 1 := by kernel_rfl
theorem cellsBool : Tryd.prog.cellsOf 4 = 1 := by kernel_rfl
theorem cellsRng : Tryd.prog.cellsOf 56 = 2 := by kernel_rfl
theorem cellsClause : Tryd.prog.cellsOf 58 = 3 := by kernel_rfl
theorem cellsFile : Tryd.prog.cellsOf 49 = 3 := by kernel_rfl
set_option maxRecDepth 100000 in
theorem opens_rng (w : World) : Opens Tryd.prog w 56 Rng.cells (fun _ => True) := by
  intro H enc fuel cs x h
  obtain ⟨xs, n, _, _, hlen, hxs, hf⟩ := DataW.trod_struct Tryd.underlying56 h
  rw [cellsRng] at hlen
  match cs, hlen with
  | [c0, c1], _ =>
    obtain ⟨a, ha, oa⟩ := field_at hxs hf (i := 0) rfl cellsInt (opens_i64 w)
    obtain ⟨b, hb, ob⟩ := field_at hxs hf (i := 1) rfl cellsInt (opens_i64 w)
    simp at ha hb
    subst ha hb
    exact ⟨⟨a, b⟩, rfl, trivial⟩
set_option maxRecDepth 100000 in
theorem opens_clause (w : World) : Opens Tryd.prog w 58 ClauseI.cells (fun _ => True) := by
  intro H enc fuel cs x h
  obtain ⟨xs, n, _, _, hlen, hxs, hf⟩ := DataW.trod_struct Tryd.underlying58 h
  rw [cellsClause] at hlen
  match cs, hlen with
  | [c0, c1, c2], _ =>
    obtain ⟨a, ha, oa⟩ := field_at hxs hf (i := 0) rfl cellsStr (opens_string Tryd.underlying9)
    obtain ⟨b, hb, ob⟩ := field_at hxs hf (i := 1) rfl cellsRng (opens_rng w)
    simp [Rng.cells] at ha hb
    obtain ⟨hb1, hb2⟩ := hb
    subst ha hb1 hb2
    exact ⟨⟨a, b.lo, b.hi⟩, rfl, trivial⟩
def FileI.cells (x : FileI) : List Value := [.string x.p, .int .i64 x.size, .bool x.dead]
set_option maxRecDepth 100000 in
theorem opens_file (w : World) : Opens Tryd.prog w 49 FileI.cells (fun x => x.p.size ≤ maxLen) := by
  intro H enc fuel cs x h
  obtain ⟨xs, n, _, _, hlen, hxs, hf⟩ := DataW.trod_struct Tryd.underlying49 h
  rw [cellsFile] at hlen
  match cs, hlen with
  | [c0, c1, c2], _ =>
    obtain ⟨a, ha, oa⟩ := field_at hxs hf (i := 0) rfl cellsStr (opens_string Tryd.underlying9)
    obtain ⟨b, hb, ob⟩ := field_at hxs hf (i := 1) rfl cellsInt (opens_i64 w)
    obtain ⟨c, hc, oc⟩ := field_at hxs hf (i := 2) rfl cellsBool (opens_bool Tryd.underlying4)
    simp at ha hb hc
    subst ha hb hc
    exact ⟨⟨a, b, c⟩, rfl, oa⟩
end Go.Proofs.YtgkdiknmjgpgmaaDoor
