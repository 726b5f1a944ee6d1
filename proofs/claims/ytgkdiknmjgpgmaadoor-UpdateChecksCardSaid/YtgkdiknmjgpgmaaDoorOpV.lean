/-
  What updates, metas and clauses that come in read as.
-/
import Derived.Test.YtgkdiknmjgpgmaaDoorCdA
import Derived.Test.YtgkdiknmjgpgmaaDoorUpE
namespace Go.Proofs.YtgkdiknmjgpgmaaDoor
set_option linter.unusedSimpArgs false
set_option linter.unusedVariables false
open Go.RowKit Go.ChangeShapes Go.WideShapes Go.ChangeAt Go.Deep

theorem cellsStr : Tryd.prog.cellsOf 9 = 1 := by kernel_rfl
theorem cellsBool : Tryd.prog.cellsOf 4 = 1 := by kernel_rfl
theorem cellsStamp : Tryd.prog.cellsOf 26 = 3 := by kernel_rfl
theorem cellsUpd : Tryd.prog.cellsOf 28 = 8 := by kernel_rfl
theorem cellsMeta : Tryd.prog.cellsOf 35 = 8 := by kernel_rfl
theorem cellsRng : Tryd.prog.cellsOf 56 = 2 := by kernel_rfl
theorem cellsClause : Tryd.prog.cellsOf 58 = 3 := by kernel_rfl
set_option maxRecDepth 100000 in
theorem opens_stamp (w : World) : Opens Tryd.prog w 26 Stamp.cells (fun v => okI v.v.by_ ∧ okI v.v.n ∧ okI v.time) := by
  intro H enc fuel cs x h
  obtain ⟨xs, n, _, _, hlen, hxs, hf⟩ := DataW.trod_struct Tryd.underlying26 h
  rw [cellsStamp] at hlen
  match cs, hlen with
  | [c0, c1, c2], _ =>
    obtain ⟨a, ha, oa⟩ := field_at hxs hf (i := 0) rfl cellsVer (opens_ver w)
    obtain ⟨b, hb, ob⟩ := field_at hxs hf (i := 1) rfl cellsInt (opens_i64 w)
    simp [Ver.cells] at ha hb
    obtain ⟨ha1, ha2⟩ := ha
    subst ha1 ha2 hb
    exact ⟨⟨a, b⟩, rfl, oa.1, oa.2, ob⟩
set_option maxRecDepth 100000 in
theorem opens_upd (w : World) : Opens Tryd.prog w 28 UpdI.cells (fun _ => True) := by
  intro H enc fuel cs x h
  obtain ⟨xs, n, _, _, hlen, hxs, hf⟩ := DataW.trod_struct Tryd.underlying28 h
  rw [cellsUpd] at hlen
  match cs, hlen with
  | [c0, c1, c2, c3, c4, c5, c6, c7], _ =>
    obtain ⟨a, ha, oa⟩ := field_at hxs hf (i := 0) rfl cellsVer (opens_ver w)
    obtain ⟨b, hb, ob⟩ := field_at hxs hf (i := 1) rfl cellsStamp (opens_stamp w)
    obtain ⟨c, hc, oc⟩ := field_at hxs hf (i := 2) rfl cellsStr (opens_string Tryd.underlying9)
    obtain ⟨d, hd, od⟩ := field_at hxs hf (i := 3) rfl cellsStr (opens_string Tryd.underlying9)
    obtain ⟨e, he, oe⟩ := field_at hxs hf (i := 4) rfl cellsBool (opens_bool Tryd.underlying4)
    simp [Ver.cells, Stamp.cells] at ha hb hc hd he
    obtain ⟨ha1, ha2⟩ := ha
    obtain ⟨hb1, hb2, hb3⟩ := hb
    subst ha1 ha2 hb1 hb2 hb3 hc hd he
    exact ⟨⟨a, b, c, d, e⟩, rfl, trivial⟩
def MetaI.cells (u : MetaI) : List Value := [.int .i64 u.item.by_, .int .i64 u.item.n, .int .i64 u.st.v.by_, .int .i64 u.st.v.n, .int .i64 u.st.time, .string u.p, .int .i64 u.size, .bool u.dead]
set_option maxRecDepth 100000 in
theorem opens_meta (w : World) : Opens Tryd.prog w 35 MetaI.cells (fun m => m.p.size ≤ maxLen) := by
  intro H enc fuel cs x h
  obtain ⟨xs, n, _, _, hlen, hxs, hf⟩ := DataW.trod_struct Tryd.underlying35 h
  rw [cellsMeta] at hlen
  match cs, hlen with
  | [c0, c1, c2, c3, c4, c5, c6, c7], _ =>
    obtain ⟨a, ha, oa⟩ := field_at hxs hf (i := 0) rfl cellsVer (opens_ver w)
    obtain ⟨b, hb, ob⟩ := field_at hxs hf (i := 1) rfl cellsStamp (opens_stamp w)
    obtain ⟨c, hc, oc⟩ := field_at hxs hf (i := 2) rfl cellsStr (opens_string Tryd.underlying9)
    obtain ⟨d, hd, od⟩ := field_at hxs hf (i := 3) rfl cellsInt (opens_i64 w)
    obtain ⟨e, he, oe⟩ := field_at hxs hf (i := 4) rfl cellsBool (opens_bool Tryd.underlying4)
    simp [Ver.cells, Stamp.cells] at ha hb hc hd he
    obtain ⟨ha1, ha2⟩ := ha
    obtain ⟨hb1, hb2, hb3⟩ := hb
    subst ha1 ha2 hb1 hb2 hb3 hc hd he
    exact ⟨⟨a, b, c, d, e⟩, rfl, oc⟩
set_option maxRecDepth 100000 in
theorem opens_rng (w : World) : Opens Tryd.prog w 56 Rng.cells (fun _ => True) := by
  intro H enc fuel cs x h
  obtain ⟨xs, n, _, _, hlen, hxs, hf⟩ := DataW.trod_struct Tryd.underlying56 h
  rw [cellsRng] at hlen
  match cs, hlen with
  | [c0, c1], _ =>
    obtain ⟨a, ha, oa⟩ := field_at hxs hf (i := 0) rfl cellsInt (opens_i64 w)
    obtain ⟨b, hb, ob⟩ := field_at hxs hf (i := 1) rfl cellsInt (opens_i64 w)
    simp at ha hb
    subst ha hb
    exact ⟨⟨a, b⟩, rfl, trivial⟩
set_option maxRecDepth 100000 in
theorem opens_clause (w : World) : Opens Tryd.prog w 58 ClauseI.cells (fun _ => True) := by
  intro H enc fuel cs x h
  obtain ⟨xs, n, _, _, hlen, hxs, hf⟩ := DataW.trod_struct Tryd.underlying58 h
  rw [cellsClause] at hlen
  match cs, hlen with
  | [c0, c1, c2], _ =>
    obtain ⟨a, ha, oa⟩ := field_at hxs hf (i := 0) rfl cellsStr (opens_string Tryd.underlying9)
    obtain ⟨b, hb, ob⟩ := field_at hxs hf (i := 1) rfl cellsRng (opens_rng w)
    simp [Rng.cells] at ha hb
    obtain ⟨hb1, hb2⟩ := hb
    subst ha hb1 hb2
    exact ⟨⟨a, b.lo, b.hi⟩, rfl, trivial⟩
end Go.Proofs.YtgkdiknmjgpgmaaDoor
