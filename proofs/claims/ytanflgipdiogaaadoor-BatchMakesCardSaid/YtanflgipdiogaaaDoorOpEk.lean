/-
  What entries that come in read as.
-/
import Derived.Test.YtanflgipdiogaaaDoorOpXk
import Derived.Test.YtanflgipdiogaaaDoorQcG
namespace Go.Proofs.YtanflgipdiogaaaDoor
set_option linter.unusedSimpArgs false
set_option linter.unusedVariables false
open Go.RowKit Go.ChangeShapes Go.WideShapes Go.ChangeAt Go.Deep

def PairI.cells (p : PairI) : List Value := [.int .i64 p.a.by_, .int .i64 p.a.n, .int .i64 p.b.by_, .int .i64 p.b.n]
theorem cellsPairP : Tryd.prog.cellsOf 42 = 4 := by kernel_rfl
theorem cellsEnt : Tryd.prog.cellsOf 44 = 21 := by kernel_rfl
set_option maxRecDepth 100000 in
theorem opens_pairP (w : World) : Opens Tryd.prog w 42 PairI.cells (fun p => (in64 p.a.by_ ∧ in64 p.a.n) ∧ (in64 p.b.by_ ∧ in64 p.b.n)) := by
  intro H enc fuel cs x h
  obtain ⟨xs, n, _, _, hlen, hxs, hf⟩ := DataW.trod_struct Tryd.underlying42 h
  rw [cellsPairP] at hlen
  match cs, hlen with
  | [c0, c1, c2, c3], _ =>
    obtain ⟨a, ha, oa⟩ := field_at hxs hf (i := 0) rfl cellsVer (opens_ver w)
    obtain ⟨b, hb, ob⟩ := field_at hxs hf (i := 1) rfl cellsVer (opens_ver w)
    simp [Ver.cells] at ha hb
    obtain ⟨ha1, ha2⟩ := ha
    obtain ⟨hb1, hb2⟩ := hb
    subst ha1 ha2 hb1 hb2
    exact ⟨⟨a, b⟩, rfl, ⟨oa.1.bounds, oa.2.bounds⟩, ⟨ob.1.bounds, ob.2.bounds⟩⟩
set_option maxRecDepth 100000 in
theorem opens_ent (w : World) : Opens Tryd.prog w 44 EntI.cells EntIn := by
  intro H enc fuel cs x h
  obtain ⟨xs, n, _, _, hlen, hxs, hf⟩ := DataW.trod_struct Tryd.underlying44 h
  rw [cellsEnt] at hlen
  match cs, hlen with
  | [c0, c1, c2, c3, c4, c5, c6, c7, c8, c9, c10, c11, c12, c13, c14, c15, c16, c17, c18, c19, c20], _ =>
    obtain ⟨a, ha, oa⟩ := field_at hxs hf (i := 0) rfl cellsInt (opens_i64 w)
    obtain ⟨b, hb, ob⟩ := field_at hxs hf (i := 1) rfl cellsUpd (opens_upd w)
    obtain ⟨c, hc, oc⟩ := field_at hxs hf (i := 2) rfl cellsMeta (opens_meta w)
    obtain ⟨d, hd, od⟩ := field_at hxs hf (i := 3) rfl cellsPairP (opens_pairP w)
    simp [UpdI.cells, MetaI.cells, PairI.cells] at ha hb hc hd
    obtain ⟨hb1, hb2, hb3, hb4, hb5, hb6, hb7, hb8⟩ := hb
    obtain ⟨hc1, hc2, hc3, hc4, hc5, hc6, hc7, hc8⟩ := hc
    obtain ⟨hd1, hd2, hd3, hd4⟩ := hd
    subst ha hb1 hb2 hb3 hb4 hb5 hb6 hb7 hb8 hc1 hc2 hc3 hc4 hc5 hc6 hc7 hc8 hd1 hd2 hd3 hd4
    exact ⟨⟨a, b, c, d⟩, rfl, ob.1, oc.1, oc.2.1, oa.bounds, od⟩
end Go.Proofs.YtanflgipdiogaaaDoor
