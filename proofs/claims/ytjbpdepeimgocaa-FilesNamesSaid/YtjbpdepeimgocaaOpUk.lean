/-
  What updates and leaves that come in read as.
-/
import Derived.Test.YtjbpdepeimgocaaIsO
import Derived.Test.YtjbpdepeimgocaaFlEk
import Derived.OpenShut
namespace Go.Proofs.Ytjbpdepeimgocaa
set_option linter.unusedSimpArgs false
set_option linter.unusedVariables false
open Go.RowKit Go.ChangeShapes Go.WideShapes Go.ChangeAt Go.Deep

theorem cellsStr : Try.prog.cellsOf 9 = 1 := by kernel_rfl
theorem cellsBool : Try.prog.cellsOf 4 = 1 := by kernel_rfl
theorem cellsStamp : Try.prog.cellsOf 28 = 3 := by kernel_rfl
theorem cellsUpd : Try.prog.cellsOf 30 = 8 := by kernel_rfl
theorem cellsLeaf : Try.prog.cellsOf 35 = 5 := by kernel_rfl
theorem okV_of {v : Ver} (h : okI v.by_ ∧ okI v.n) : okV v := ⟨h.1.bounds.2, h.2.bounds.2⟩
set_option maxRecDepth 100000 in
theorem opens_stamp (w : World) : Opens Try.prog w 28 Stamp.cells (fun v => okI v.v.by_ ∧ okI v.v.n ∧ okI v.time) := by
  intro H enc fuel cs x h
  obtain ⟨xs, n, _, _, hlen, hxs, hf⟩ := DataW.trod_struct Try.underlying28 h
  rw [cellsStamp] at hlen
  match cs, hlen with
  | [c0, c1, c2], _ =>
    obtain ⟨a, ha, oa⟩ := field_at hxs hf (i := 0) rfl cellsVer (opens_ver w)
    obtain ⟨b, hb, ob⟩ := field_at hxs hf (i := 1) rfl cellsInt (opens_i64 w)
    simp [Ver.cells] at ha hb
    obtain ⟨ha1, ha2⟩ := ha
    subst ha1 ha2 hb
    exact ⟨⟨a, b⟩, rfl, oa.1, oa.2, ob⟩
set_option maxRecDepth 100000 in
theorem opens_upd (w : World) : Opens Try.prog w 30 UpdI.cells (fun m => okV m.item) := by
  intro H enc fuel cs x h
  obtain ⟨xs, n, _, _, hlen, hxs, hf⟩ := DataW.trod_struct Try.underlying30 h
  rw [cellsUpd] at hlen
  match cs, hlen with
  | [c0, c1, c2, c3, c4, c5, c6, c7], _ =>
    obtain ⟨a, ha, oa⟩ := field_at hxs hf (i := 0) rfl cellsVer (opens_ver w)
    obtain ⟨b, hb, ob⟩ := field_at hxs hf (i := 1) rfl cellsStamp (opens_stamp w)
    obtain ⟨c, hc, oc⟩ := field_at hxs hf (i := 2) rfl cellsStr (opens_string Try.underlying9)
    obtain ⟨d, hd, od⟩ := field_at hxs hf (i := 3) rfl cellsStr (opens_string Try.underlying9)
    obtain ⟨e, he, oe⟩ := field_at hxs hf (i := 4) rfl cellsBool (opens_bool Try.underlying4)
    simp [Ver.cells, Stamp.cells] at ha hb hc hd he
    obtain ⟨ha1, ha2⟩ := ha
    obtain ⟨hb1, hb2, hb3⟩ := hb
    subst ha1 ha2 hb1 hb2 hb3 hc hd he
    exact ⟨⟨a, b, c, d, e⟩, rfl, okV_of oa⟩
set_option maxRecDepth 100000 in
theorem opens_leaf (w : World) : Opens Try.prog w 35 LeafI.cells (fun _ => True) := by
  intro H enc fuel cs x h
  obtain ⟨xs, n, _, _, hlen, hxs, hf⟩ := DataW.trod_struct Try.underlying35 h
  rw [cellsLeaf] at hlen
  match cs, hlen with
  | [c0, c1, c2, c3, c4], _ =>
    obtain ⟨a, ha, oa⟩ := field_at hxs hf (i := 0) rfl cellsStr (opens_string Try.underlying9)
    obtain ⟨b, hb, ob⟩ := field_at hxs hf (i := 1) rfl cellsStr (opens_string Try.underlying9)
    obtain ⟨c, hc, oc⟩ := field_at hxs hf (i := 2) rfl cellsVer (opens_ver w)
    obtain ⟨d, hd, od⟩ := field_at hxs hf (i := 3) rfl cellsStr (opens_string Try.underlying9)
    simp [Ver.cells] at ha hb hc hd
    obtain ⟨hc1, hc2⟩ := hc
    subst ha hb hc1 hc2 hd
    exact ⟨⟨a, b, c, d⟩, rfl, trivial⟩
end Go.Proofs.Ytjbpdepeimgocaa
