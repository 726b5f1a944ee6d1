/-
  What updates, metas and clauses that come in read as (chapter 17: with their numbers' and texts' bounds).
-/
import Derived.Test.YtanflgipdiogaaaDoorCdA
import Derived.Test.YtanflgipdiogaaaDoorQaE
namespace Go.Proofs.YtanflgipdiogaaaDoor
set_option linter.unusedSimpArgs false
set_option linter.unusedVariables false
open Go.RowKit Go.ChangeShapes Go.WideShapes Go.ChangeAt Go.Deep

theorem cellsStr : Tryd.prog.cellsOf 9 = 1 := by kernel_rfl
theorem cellsBool : Tryd.prog.cellsOf 4 = 1 := by kernel_rfl
theorem cellsStamp : Tryd.prog.cellsOf 36 = 3 := by kernel_rfl
theorem cellsUpd : Tryd.prog.cellsOf 38 = 8 := by kernel_rfl
theorem cellsMeta : Tryd.prog.cellsOf 40 = 8 := by kernel_rfl
set_option maxRecDepth 100000 in
theorem opens_stamp (w : World) : Opens Tryd.prog w 36 Stamp.cells (fun v => okI v.v.by_ ∧ okI v.v.n ∧ okI v.time) := by
  intro H enc fuel cs x h
  obtain ⟨xs, n, _, _, hlen, hxs, hf⟩ := DataW.trod_struct Tryd.underlying36 h
  rw [cellsStamp] at hlen
  match cs, hlen with
  | [c0, c1, c2], _ =>
    obtain ⟨a, ha, oa⟩ := field_at hxs hf (i := 0) rfl cellsVer (opens_ver w)
    obtain ⟨b, hb, ob⟩ := field_at hxs hf (i := 1) rfl cellsInt (opens_i64 w)
    simp [Ver.cells] at ha hb
    obtain ⟨ha1, ha2⟩ := ha
    subst ha1 ha2 hb
    exact ⟨⟨a, b⟩, rfl, oa.1, oa.2, ob⟩
set_option maxRecDepth 100000 in
theorem opens_upd (w : World) : Opens Tryd.prog w 38 UpdI.cells (fun u => u.in64 ∧ u.p.size ≤ maxLen ∧ u.d.size ≤ maxLen) := by
  intro H enc fuel cs x h
  obtain ⟨xs, n, _, _, hlen, hxs, hf⟩ := DataW.trod_struct Tryd.underlying38 h
  rw [cellsUpd] at hlen
  match cs, hlen with
  | [c0, c1, c2, c3, c4, c5, c6, c7], _ =>
    obtain ⟨a, ha, oa⟩ := field_at hxs hf (i := 0) rfl cellsVer (opens_ver w)
    obtain ⟨b, hb, ob⟩ := field_at hxs hf (i := 1) rfl cellsStamp (opens_stamp w)
    obtain ⟨c, hc, oc⟩ := field_at hxs hf (i := 2) rfl cellsStr (opens_string Tryd.underlying9)
    obtain ⟨d, hd, od⟩ := field_at hxs hf (i := 3) rfl cellsStr (opens_string Tryd.underlying9)
    obtain ⟨e, he, oe⟩ := field_at hxs hf (i := 4) rfl cellsBool (opens_bool Tryd.underlying4)
    simp [Ver.cells, Stamp.cells] at ha hb hc hd he
    obtain ⟨ha1, ha2⟩ := ha
    obtain ⟨hb1, hb2, hb3⟩ := hb
    subst ha1 ha2 hb1 hb2 hb3 hc hd he
    exact ⟨⟨a, b, c, d, e⟩, rfl, ⟨oa.1.bounds, oa.2.bounds, ob.1.bounds, ob.2.1.bounds, ob.2.2.bounds⟩, oc, od⟩
def MetaI.cells (u : MetaI) : List Value := [.int .i64 u.item.by_, .int .i64 u.item.n, .int .i64 u.st.v.by_, .int .i64 u.st.v.n, .int .i64 u.st.time, .string u.p, .int .i64 u.size, .bool u.dead]
set_option maxRecDepth 100000 in
theorem opens_meta (w : World) : Opens Tryd.prog w 40 MetaI.cells (fun u => u.in64 ∧ in64 u.size ∧ u.p.size ≤ maxLen) := by
  intro H enc fuel cs x h
  obtain ⟨xs, n, _, _, hlen, hxs, hf⟩ := DataW.trod_struct Tryd.underlying40 h
  rw [cellsMeta] at hlen
  match cs, hlen with
  | [c0, c1, c2, c3, c4, c5, c6, c7], _ =>
    obtain ⟨a, ha, oa⟩ := field_at hxs hf (i := 0) rfl cellsVer (opens_ver w)
    obtain ⟨b, hb, ob⟩ := field_at hxs hf (i := 1) rfl cellsStamp (opens_stamp w)
    obtain ⟨c, hc, oc⟩ := field_at hxs hf (i := 2) rfl cellsStr (opens_string Tryd.underlying9)
    obtain ⟨d, hd, od⟩ := field_at hxs hf (i := 3) rfl cellsInt (opens_i64 w)
    obtain ⟨e, he, oe⟩ := field_at hxs hf (i := 4) rfl cellsBool (opens_bool Tryd.underlying4)
    simp [Ver.cells, Stamp.cells] at ha hb hc hd he
    obtain ⟨ha1, ha2⟩ := ha
    obtain ⟨hb1, hb2, hb3⟩ := hb
    subst ha1 ha2 hb1 hb2 hb3 hc hd he
    exact ⟨⟨a, b, c, d, e⟩, rfl, ⟨oa.1.bounds, oa.2.bounds, ob.1.bounds, ob.2.1.bounds, ob.2.2.bounds⟩, od.bounds, oc⟩
end Go.Proofs.YtanflgipdiogaaaDoor
