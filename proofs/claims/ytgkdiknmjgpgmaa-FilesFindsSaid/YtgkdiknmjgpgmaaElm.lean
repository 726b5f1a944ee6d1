/-
  Rows of leaves, turns, texts, updates: what append asks of them.
-/
import Derived.Test.YtgkdiknmjgpgmaaDfE
namespace Go.Proofs.Ytgkdiknmjgpgmaa
set_option linter.unusedSimpArgs false
set_option linter.unusedVariables false
open Go.RowKit

theorem leaf_info : (Try.prog.info? 35).map (fun i => (i.zero, i.size, i.bytes)) = some (some (.agg #[.string ⟨#[]⟩, .string ⟨#[]⟩, .int .i64 0, .int .i64 0, .string ⟨#[]⟩]), 5, 64) := by kernel_rfl
theorem leaf_elem : Elem Try.prog 31 35 5 64 := by
  obtain ⟨i0, h0, h1, h2, h3⟩ := info_parts leaf_info
  exact ⟨Try.underlying31, i0, _, h0, h1, h2, h3, rfl⟩
theorem turn_info : (Try.prog.info? 58).map (fun i => (i.zero, i.size, i.bytes)) = some (some (.agg #[.int .i64 0, .string ⟨#[]⟩, .string ⟨#[]⟩, .string ⟨#[]⟩]), 4, 56) := by kernel_rfl
theorem turn_elem : Elem Try.prog 49 58 4 56 := by
  obtain ⟨i0, h0, h1, h2, h3⟩ := info_parts turn_info
  exact ⟨Try.underlying49, i0, _, h0, h1, h2, h3, rfl⟩
theorem upd_info : (Try.prog.info? 30).map (fun i => (i.zero, i.size, i.bytes)) = some (some (.agg #[.int .i64 0, .int .i64 0, .int .i64 0, .int .i64 0, .int .i64 0, .string ⟨#[]⟩, .string ⟨#[]⟩, .bool false]), 8, 80) := by kernel_rfl
theorem upd_elem : Elem Try.prog 22 30 8 80 := by
  obtain ⟨i0, h0, h1, h2, h3⟩ := info_parts upd_info
  exact ⟨Try.underlying22, i0, _, h0, h1, h2, h3, rfl⟩
theorem str_info : (Try.prog.info? 9).map (fun i => (i.zero, i.size, i.bytes)) = some (some (.string ⟨#[]⟩), 1, 16) := by kernel_rfl
theorem str_elem : Elem Try.prog 47 9 1 16 := by
  obtain ⟨i0, h0, h1, h2, h3⟩ := info_parts str_info
  exact ⟨Try.underlying47, i0, _, h0, h1, h2, h3, rfl⟩
def strC (s : ByteArray) : List Value := [.string s]
theorem str_coded : Coded strC 1 := ⟨fun _ => rfl, fun a u hu => by simp [strC] at hu; rcases hu with rfl; rfl⟩
end Go.Proofs.Ytgkdiknmjgpgmaa
