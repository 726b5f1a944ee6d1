/-
  Leaves, updates, texts as rows, for seats without turns (slim twin of DfA, DfD, DfE, Elm).
-/
import Derived.Test.YtjbpdepeimgocaaUpB
import Derived.Test.YtjbpdepeimgocaaStr
import Derived.Test.YtjbpdepeimgocaaAwT
import Derived.Test.YtjbpdepeimgocaaRes
namespace Go.Proofs.Ytjbpdepeimgocaa
set_option linter.unusedSimpArgs false
set_option linter.unusedVariables false
open Go.RowKit

structure LeafI where
  name : ByteArray
  path : ByteArray
  item : Ver
  d : ByteArray
def LeafI.cells (x : LeafI) : List Value := [.string x.name, .string x.path, .int .i64 x.item.by_, .int .i64 x.item.n, .string x.d]
def LeafI.val (x : LeafI) : Value := .agg #[.string x.name, .string x.path, .int .i64 x.item.by_, .int .i64 x.item.n, .string x.d]
theorem leaf_coded : Coded LeafI.cells 5 := ⟨fun _ => rfl, fun a u hu => by simp [LeafI.cells] at hu; rcases hu with rfl | rfl | rfl | rfl | rfl <;> rfl⟩
def leaf0 : LeafI := ⟨⟨#[]⟩, ⟨#[]⟩, ⟨0, 0⟩, ⟨#[]⟩⟩
instance : Inhabited LeafI := ⟨leaf0⟩
theorem leaf_ext {a b : LeafI} (h1 : a.name = b.name) (h2 : a.path = b.path) (h3 : a.item = b.item) (h4 : a.d = b.d) : a = b := by cases a; cases b; simp_all
theorem eq2_false {a b : Ver} (h : ¬ a = b) : eq2 a.by_ a.n b.by_ b.n = false := by
  cases e : eq2 a.by_ a.n b.by_ b.n with
  | false => rfl
  | true => exact absurd ((eq2_iff a b).1 e) h
theorem eq2_true {a b : Ver} (h : a = b) : eq2 a.by_ a.n b.by_ b.n = true := (eq2_iff a b).2 h
theorem leaf_info : (Try.prog.info? 35).map (fun i => (i.zero, i.size, i.bytes)) = some (some (.agg #[.string ⟨#[]⟩, .string ⟨#[]⟩, .int .i64 0, .int .i64 0, .string ⟨#[]⟩]), 5, 64) := by kernel_rfl
theorem leaf_elem : Elem Try.prog 31 35 5 64 := by
  obtain ⟨i0, h0, h1, h2, h3⟩ := info_parts leaf_info
  exact ⟨Try.underlying31, i0, _, h0, h1, h2, h3, rfl⟩
theorem upd_info : (Try.prog.info? 30).map (fun i => (i.zero, i.size, i.bytes)) = some (some (.agg #[.int .i64 0, .int .i64 0, .int .i64 0, .int .i64 0, .int .i64 0, .string ⟨#[]⟩, .string ⟨#[]⟩, .bool false]), 8, 80) := by kernel_rfl
theorem upd_elem : Elem Try.prog 22 30 8 80 := by
  obtain ⟨i0, h0, h1, h2, h3⟩ := info_parts upd_info
  exact ⟨Try.underlying22, i0, _, h0, h1, h2, h3, rfl⟩
theorem str_info : (Try.prog.info? 9).map (fun i => (i.zero, i.size, i.bytes)) = some (some (.string ⟨#[]⟩), 1, 16) := by kernel_rfl
theorem str_elem : Elem Try.prog 48 9 1 16 := by
  obtain ⟨i0, h0, h1, h2, h3⟩ := info_parts str_info
  exact ⟨Try.underlying48, i0, _, h0, h1, h2, h3, rfl⟩
def strC (s : ByteArray) : List Value := [.string s]
theorem str_coded : Coded strC 1 := ⟨fun _ => rfl, fun a u hu => by simp [strC] at hu; rcases hu with rfl; rfl⟩
def foundK (x : Option LeafI) : Value := .tuple #[(x.getD leaf0).val, .bool x.isSome]
theorem foundK_some (x : LeafI) : foundK (some x) = .tuple #[.agg #[.string x.name, .string x.path, .int .i64 x.item.by_, .int .i64 x.item.n, .string x.d], .bool true] := rfl
end Go.Proofs.Ytjbpdepeimgocaa
